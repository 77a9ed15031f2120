/- XcodeNone: the card. -/
import Derived.Test.YtaadhehcoegmhaaGreatDoorC10S
import Derived.Test.YtaadhehcoegmhaaGreatDoorN10
namespace Go.Proofs.YtaadhehcoegmhaaGreatDoor
open Go Go.Shelf Go.ChangeShapes Go.WideShapes Go.ChangeAt Go.RowKit
open Go.ChangeMaps (open_string shut_string)
namespace None12

theorem noStandIn3 : Tryz.pinned.checked.prog.wantsStandIn 3 = false := by kernel_rfl
theorem noStandIn9 : Tryz.pinned.checked.prog.wantsStandIn 9 = false := by kernel_rfl

theorem plain (f : FuncId) (fn : Func) (hf : Tryz.pinned.checked.prog.funcNamed "stencil/stencillaw12.XcodeNone" = some f) (hfn : Tryz.pinned.checked.prog.funcs[f]? = some fn) :
    true = Tryz.pinned.checked.prog.looks [] ∧ ∀ (j : Nat) t, fn.params[j]? = some t → Tryz.pinned.checked.prog.wantsStandIn t = false := by
  obtain rfl : f = 10 := Option.some.inj ((show Tryz.prog.funcNamed "stencil/stencillaw12.XcodeNone" = some 10 by kernel_rfl).symm.trans hf) |>.symm
  obtain rfl : fn = Tryz.f10 := (Option.some.inj (Tryz.func10.symm.trans hfn)).symm
  refine ⟨p_looks, fun j t ht => ?_⟩
  rw [Tryz.params10] at ht
  have hm := Array.mem_of_getElem? ht
  simp at hm
  rcases hm with rfl | rfl
  · exact noStandIn9
  · exact noStandIn3

theorem goes : false = Rows.xcodeNoneRow.goesBy Tryz.pinned.checked.prog := by kernel_rfl

/-- The card. -/
theorem card : Rows.XcodeNoneCardSaid :=
  Claim7.holds_tied_plain_at .later [] _ _ _ _ said (fun _ h => by cases h) (by kernel_rfl) (fun _ h => by cases h) xcodeNone_row_tie rfl ⟨rfl, rfl⟩ p_main rfl plain goes
end None12
end Go.Proofs.YtaadhehcoegmhaaGreatDoor
