/- XcodeOrders: the row. -/
import Derived.Test.YtaadhehcoegmhaaGreatDoorC8
import Derived.Test.YtaadhehcoegmhaaGreatDoorC8F
namespace Go.Proofs.YtaadhehcoegmhaaGreatDoor
open Go Go.Shelf Go.ChangeShapes Go.WideShapes Go.ChangeAt Go.RowKit
open Go.ChangeMaps (open_string shut_string)
namespace Orders

set_option maxRecDepth 100000 in
theorem said : Rows.XcodeOrdersSaid :=
  OpenClaim.holds_of_cond 8 Tryz.f8 rfl rfl rfl rfl rfl rfl rfl ⟨rfl, rfl, rfl, rfl, rfl⟩ rfl rfl rfl rfl rfl (by kernel_rfl) Tryz.func8 closed
    (of_decide_eq_true (by kernel_rfl)) (by unfold Func.isWrapper; first | (rw [if_pos (by decide +kernel)]; kernel_rfl) | (rw [if_neg (by decide +kernel)]; exact ⟨rfl, rfl⟩))
    (fun os started H enc _ F => by rw [OpenClaim.pre_eq_preRow]; exact lifted os started H enc F)

end Orders
end Go.Proofs.YtaadhehcoegmhaaGreatDoor
