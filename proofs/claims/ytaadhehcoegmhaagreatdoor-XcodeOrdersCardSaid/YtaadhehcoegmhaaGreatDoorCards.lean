/-
  DERIVED. GIVEN WITH THE SEED: THE CARDS: each row of YtaadhehcoegmhaaGreatDoorRows.lean that lists a variable, with what it lists TIED to the program's text (the seventh form; the later family's looks); each row that meets fmt, with fmt's text TOLD by the authors' own Lean function (tested against real Go, not proved from fmt's source: count such statements apart). THE CARD IS WHAT COUNTS. Prove the row's statement (the work); the ties are given (YtaadhehcoegmhaaGreatDoorTie.lean); close each card by the builder's one call (the guide's Derived/Test/ToyasCard.lean, 'card_holds'). Laid BY PROGRAM, IN A SANDBOX (cutbox-door.mjs). By AI agents, Wed Nov 11 2026. No macro, syntax, notation, axiom, sorry.
-/
import Derived.Test.YtaadhehcoegmhaaGreatDoorRows
import GoSem.ClaimSeven
namespace Go.Proofs.YtaadhehcoegmhaaGreatDoor
namespace Rows

/-- THE TIED CARD OF 'stencillaw07.XvalueParts'. -/
def xvaluePartsCard : Claim7 := { stood := { row := xvaluePartsRow, standIns := [], harness := (true, "e2ec305ad5ebc8a959c5d0d79140b17321e8f6fef2217727529e484765bf2e3f"), looks := true }, kinds := [], alts := [], laidByText := true, laidKinds := [.data, .data, .data, .data, .sentinel, .sentinel, .pinned], laidTests := true, laidLooks := .later }
def XvaluePartsCardSaid : Prop := Claim7.holds Tryz.pinned (.plain (OpenSpec.ofChange xvaluePartsSpec)) xvaluePartsCard

/-- THE TIED CARD OF 'stencillaw07.XvalueLengths'. -/
def xvalueLengthsCard : Claim7 := { stood := { row := xvalueLengthsRow, standIns := [], harness := (true, "e2ec305ad5ebc8a959c5d0d79140b17321e8f6fef2217727529e484765bf2e3f"), looks := true }, kinds := [], alts := [], laidByText := true, laidKinds := [.data, .data, .data, .data, .sentinel, .sentinel, .pinned], laidTests := true, laidLooks := .later }
def XvalueLengthsCardSaid : Prop := Claim7.holds Tryz.pinned (.plain (OpenSpec.ofChange xvalueLengthsSpec)) xvalueLengthsCard

/-- THE TIED CARD OF 'stencillaw07.XvalueChanges'. -/
def xvalueChangesCard : Claim7 := { stood := { row := xvalueChangesRow, standIns := [], harness := (true, "e2ec305ad5ebc8a959c5d0d79140b17321e8f6fef2217727529e484765bf2e3f"), looks := true }, kinds := [], alts := [], laidByText := true, laidKinds := [.data, .data, .data, .data, .sentinel, .sentinel, .pinned], laidTests := true, laidLooks := .later }
def XvalueChangesCardSaid : Prop := Claim7.holds Tryz.pinned (.plain (OpenSpec.ofChange xvalueChangesSpec)) xvalueChangesCard

/-- THE TIED CARD OF 'stencillaw07.XvalueLimits'. -/
def xvalueLimitsCard : Claim7 := { stood := { row := xvalueLimitsRow, standIns := [], harness := (true, "e2ec305ad5ebc8a959c5d0d79140b17321e8f6fef2217727529e484765bf2e3f"), looks := true }, kinds := [], alts := [], laidByText := true, laidKinds := [.data, .data, .data, .data, .sentinel, .sentinel, .pinned], laidTests := true, laidLooks := .later }
def XvalueLimitsCardSaid : Prop := Claim7.holds Tryz.pinned (.plain (OpenSpec.ofChange xvalueLimitsSpec)) xvalueLimitsCard

/-- THE TIED CARD OF 'stencillaw07.XvalueUnion'. -/
def xvalueUnionCard : Claim7 := { stood := { row := xvalueUnionRow, standIns := [], harness := (true, "e2ec305ad5ebc8a959c5d0d79140b17321e8f6fef2217727529e484765bf2e3f"), looks := true }, kinds := [], alts := [], laidByText := true, laidKinds := [.data, .data, .data, .data, .sentinel, .sentinel, .pinned], laidTests := true, laidLooks := .later }
def XvalueUnionCardSaid : Prop := Claim7.holds Tryz.pinned (.plain (OpenSpec.ofChange xvalueUnionSpec)) xvalueUnionCard

/-- THE TIED CARD OF 'stencillaw12.XcodeOrders'. -/
def xcodeOrdersCard : Claim7 := { stood := { row := xcodeOrdersRow, standIns := [], harness := (true, "e2ec305ad5ebc8a959c5d0d79140b17321e8f6fef2217727529e484765bf2e3f"), looks := true }, kinds := [], alts := [], laidByText := true, laidKinds := [.data, .data, .data, .data, .sentinel, .sentinel, .pinned, .pinned, .pinned, .pinned, .pinned, .pinned], laidTests := true, laidLooks := .later }
def XcodeOrdersCardSaid : Prop := Claim7.holds Tryz.pinned (.plain (OpenSpec.ofChange xcodeOrdersSpec)) xcodeOrdersCard

/-- THE TIED CARD OF 'stencillaw12.XcodeMore'. -/
def xcodeMoreCard : Claim7 := { stood := { row := xcodeMoreRow, standIns := [], harness := (true, "e2ec305ad5ebc8a959c5d0d79140b17321e8f6fef2217727529e484765bf2e3f"), looks := true }, kinds := [], alts := [], laidByText := true, laidKinds := [.data, .data, .data, .data, .sentinel, .sentinel, .pinned, .pinned, .pinned, .pinned, .pinned, .pinned], laidTests := true, laidLooks := .later }
def XcodeMoreCardSaid : Prop := Claim7.holds Tryz.pinned (.plain (OpenSpec.ofChange xcodeMoreSpec)) xcodeMoreCard

/-- THE TIED CARD OF 'stencillaw12.XcodeNone'. -/
def xcodeNoneCard : Claim7 := { stood := { row := xcodeNoneRow, standIns := [], harness := (true, "e2ec305ad5ebc8a959c5d0d79140b17321e8f6fef2217727529e484765bf2e3f"), looks := true }, kinds := [], alts := [], laidByText := true, laidKinds := [.data, .data, .data, .data, .sentinel, .sentinel, .pinned, .pinned, .pinned, .pinned, .pinned, .pinned], laidTests := true, laidLooks := .later }
def XcodeNoneCardSaid : Prop := Claim7.holds Tryz.pinned (.plain (OpenSpec.ofChange xcodeNoneSpec)) xcodeNoneCard

/-- THE SECOND FORM's CARD OF 'stencillaw07.XvalueParts'. -/
def xvaluePartsUptoCard : Claim7 := { stood := { row := xvaluePartsUptoRow, standIns := [], harness := (true, "e2ec305ad5ebc8a959c5d0d79140b17321e8f6fef2217727529e484765bf2e3f"), looks := true }, kinds := [], alts := [], laidByText := true, laidKinds := [.data, .data, .data, .data, .sentinel, .sentinel, .pinned], laidTests := true, laidLooks := .later }
def XvaluePartsUptoCardSaid : Prop := Claim7.holds Tryz.pinned (.plain (OpenSpec.upto xvaluePartsSpec)) xvaluePartsUptoCard

/-- THE SECOND FORM's CARD OF 'stencillaw07.XvalueLengths'. -/
def xvalueLengthsUptoCard : Claim7 := { stood := { row := xvalueLengthsUptoRow, standIns := [], harness := (true, "e2ec305ad5ebc8a959c5d0d79140b17321e8f6fef2217727529e484765bf2e3f"), looks := true }, kinds := [], alts := [], laidByText := true, laidKinds := [.data, .data, .data, .data, .sentinel, .sentinel, .pinned], laidTests := true, laidLooks := .later }
def XvalueLengthsUptoCardSaid : Prop := Claim7.holds Tryz.pinned (.plain (OpenSpec.upto xvalueLengthsSpec)) xvalueLengthsUptoCard

/-- THE SECOND FORM's CARD OF 'stencillaw07.XvalueChanges'. -/
def xvalueChangesUptoCard : Claim7 := { stood := { row := xvalueChangesUptoRow, standIns := [], harness := (true, "e2ec305ad5ebc8a959c5d0d79140b17321e8f6fef2217727529e484765bf2e3f"), looks := true }, kinds := [], alts := [], laidByText := true, laidKinds := [.data, .data, .data, .data, .sentinel, .sentinel, .pinned], laidTests := true, laidLooks := .later }
def XvalueChangesUptoCardSaid : Prop := Claim7.holds Tryz.pinned (.plain (OpenSpec.upto xvalueChangesSpec)) xvalueChangesUptoCard

/-- THE SECOND FORM's CARD OF 'stencillaw07.XvalueLimits'. -/
def xvalueLimitsUptoCard : Claim7 := { stood := { row := xvalueLimitsUptoRow, standIns := [], harness := (true, "e2ec305ad5ebc8a959c5d0d79140b17321e8f6fef2217727529e484765bf2e3f"), looks := true }, kinds := [], alts := [], laidByText := true, laidKinds := [.data, .data, .data, .data, .sentinel, .sentinel, .pinned], laidTests := true, laidLooks := .later }
def XvalueLimitsUptoCardSaid : Prop := Claim7.holds Tryz.pinned (.plain (OpenSpec.upto xvalueLimitsSpec)) xvalueLimitsUptoCard

/-- THE SECOND FORM's CARD OF 'stencillaw07.XvalueUnion'. -/
def xvalueUnionUptoCard : Claim7 := { stood := { row := xvalueUnionUptoRow, standIns := [], harness := (true, "e2ec305ad5ebc8a959c5d0d79140b17321e8f6fef2217727529e484765bf2e3f"), looks := true }, kinds := [], alts := [], laidByText := true, laidKinds := [.data, .data, .data, .data, .sentinel, .sentinel, .pinned], laidTests := true, laidLooks := .later }
def XvalueUnionUptoCardSaid : Prop := Claim7.holds Tryz.pinned (.plain (OpenSpec.upto xvalueUnionSpec)) xvalueUnionUptoCard

/-- THE SECOND FORM's CARD OF 'stencillaw12.XcodeOrders'. -/
def xcodeOrdersUptoCard : Claim7 := { stood := { row := xcodeOrdersUptoRow, standIns := [], harness := (true, "e2ec305ad5ebc8a959c5d0d79140b17321e8f6fef2217727529e484765bf2e3f"), looks := true }, kinds := [], alts := [], laidByText := true, laidKinds := [.data, .data, .data, .data, .sentinel, .sentinel, .pinned, .pinned, .pinned, .pinned, .pinned, .pinned], laidTests := true, laidLooks := .later }
def XcodeOrdersUptoCardSaid : Prop := Claim7.holds Tryz.pinned (.plain (OpenSpec.upto xcodeOrdersSpec)) xcodeOrdersUptoCard

/-- THE SECOND FORM's CARD OF 'stencillaw12.XcodeMore'. -/
def xcodeMoreUptoCard : Claim7 := { stood := { row := xcodeMoreUptoRow, standIns := [], harness := (true, "e2ec305ad5ebc8a959c5d0d79140b17321e8f6fef2217727529e484765bf2e3f"), looks := true }, kinds := [], alts := [], laidByText := true, laidKinds := [.data, .data, .data, .data, .sentinel, .sentinel, .pinned, .pinned, .pinned, .pinned, .pinned, .pinned], laidTests := true, laidLooks := .later }
def XcodeMoreUptoCardSaid : Prop := Claim7.holds Tryz.pinned (.plain (OpenSpec.upto xcodeMoreSpec)) xcodeMoreUptoCard

/-- THE SECOND FORM's CARD OF 'stencillaw12.XcodeNone'. -/
def xcodeNoneUptoCard : Claim7 := { stood := { row := xcodeNoneUptoRow, standIns := [], harness := (true, "e2ec305ad5ebc8a959c5d0d79140b17321e8f6fef2217727529e484765bf2e3f"), looks := true }, kinds := [], alts := [], laidByText := true, laidKinds := [.data, .data, .data, .data, .sentinel, .sentinel, .pinned, .pinned, .pinned, .pinned, .pinned, .pinned], laidTests := true, laidLooks := .later }
def XcodeNoneUptoCardSaid : Prop := Claim7.holds Tryz.pinned (.plain (OpenSpec.upto xcodeNoneSpec)) xcodeNoneUptoCard
end Rows
end Go.Proofs.YtaadhehcoegmhaaGreatDoor
