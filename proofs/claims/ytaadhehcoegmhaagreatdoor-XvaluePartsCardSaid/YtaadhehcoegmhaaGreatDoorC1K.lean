/- XvalueParts: the card. -/
import Derived.Test.YtaadhehcoegmhaaGreatDoorC1S
import Derived.Test.YtaadhehcoegmhaaGreatDoorF4
namespace Go.Proofs.YtaadhehcoegmhaaGreatDoor
open Go Go.Shelf Go.ChangeShapes Go.WideShapes Go.ChangeAt Go.RowKit
namespace Parts

theorem plain (f : FuncId) (fn : Func) (hf : Tryz.pinned.checked.prog.funcNamed "stencil/stencillaw07.XvalueParts" = some f) (hfn : Tryz.pinned.checked.prog.funcs[f]? = some fn) :
    true = Tryz.pinned.checked.prog.looks [] ∧ ∀ (j : Nat) t, fn.params[j]? = some t → Tryz.pinned.checked.prog.wantsStandIn t = false := by
  obtain rfl : f = 3 := Option.some.inj ((show Tryz.prog.funcNamed "stencil/stencillaw07.XvalueParts" = some 3 by kernel_rfl).symm.trans hf) |>.symm
  obtain rfl : fn = Tryz.f3 := (Option.some.inj (Tryz.func3.symm.trans hfn)).symm
  refine ⟨p_looks, fun j t ht => ?_⟩
  rw [Tryz.params3] at ht
  obtain rfl : t = 9 := by simpa using Array.mem_of_getElem? ht
  exact p_noStandIn9

theorem goes : false = Rows.xvaluePartsRow.goesBy Tryz.pinned.checked.prog := by kernel_rfl

/-- The card. -/
theorem card : Rows.XvaluePartsCardSaid :=
  Claim7.holds_tied_plain_at .later [] _ _ _ _ said (fun _ h => by cases h) (by kernel_rfl) (fun _ h => by cases h) xvalueParts_row_tie rfl ⟨rfl, rfl⟩ p_main rfl plain goes
end Parts
end Go.Proofs.YtaadhehcoegmhaaGreatDoor
