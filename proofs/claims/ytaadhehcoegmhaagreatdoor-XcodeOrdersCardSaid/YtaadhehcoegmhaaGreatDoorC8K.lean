/- XcodeOrders: the card. -/
import Derived.Test.YtaadhehcoegmhaaGreatDoorC8S
import Derived.Test.YtaadhehcoegmhaaGreatDoorO12
namespace Go.Proofs.YtaadhehcoegmhaaGreatDoor
open Go Go.Shelf Go.ChangeShapes Go.WideShapes Go.ChangeAt Go.RowKit
open Go.ChangeMaps (open_string shut_string)
namespace Orders

theorem noStandIn42 : Tryz.pinned.checked.prog.wantsStandIn 42 = false := by kernel_rfl

theorem plain (f : FuncId) (fn : Func) (hf : Tryz.pinned.checked.prog.funcNamed "stencil/stencillaw12.XcodeOrders" = some f) (hfn : Tryz.pinned.checked.prog.funcs[f]? = some fn) :
    true = Tryz.pinned.checked.prog.looks [] ∧ ∀ (j : Nat) t, fn.params[j]? = some t → Tryz.pinned.checked.prog.wantsStandIn t = false := by
  obtain rfl : f = 8 := Option.some.inj ((show Tryz.prog.funcNamed "stencil/stencillaw12.XcodeOrders" = some 8 by kernel_rfl).symm.trans hf) |>.symm
  obtain rfl : fn = Tryz.f8 := (Option.some.inj (Tryz.func8.symm.trans hfn)).symm
  refine ⟨p_looks, fun j t ht => ?_⟩
  rw [Tryz.params8] at ht
  have hm := Array.mem_of_getElem? ht
  simp at hm
  obtain rfl := hm
  exact noStandIn42

theorem goes : false = Rows.xcodeOrdersRow.goesBy Tryz.pinned.checked.prog := by kernel_rfl

/-- The card. -/
theorem card : Rows.XcodeOrdersCardSaid :=
  Claim7.holds_tied_plain_at .later [] _ _ _ _ said (fun _ h => by cases h) (by kernel_rfl) (fun _ h => by cases h) xcodeOrders_row_tie rfl ⟨rfl, rfl⟩ p_main rfl plain goes
end Orders
end Go.Proofs.YtaadhehcoegmhaaGreatDoor
