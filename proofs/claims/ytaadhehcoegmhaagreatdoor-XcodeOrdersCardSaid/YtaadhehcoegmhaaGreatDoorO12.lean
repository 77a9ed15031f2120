/- Facts of the whole program that every card asks. -/
import Derived.Test.YtaadhehcoegmhaaGreatDoorO10
import Derived.Test.YtaadhehcoegmhaaGreatDoorTie
namespace Go.Proofs.YtaadhehcoegmhaaGreatDoor
open Go
theorem p_looks : true = Tryz.pinned.checked.prog.looks [] := by kernel_rfl
theorem p_main : Tryz.pinned.checked.prog.mainIs = some (Rows.xvaluePartsCard.stood.harness.1, Rows.xvaluePartsCard.stood.harness.2.toList) := by kernel_rfl
theorem p_noStandIn9 : Tryz.pinned.checked.prog.wantsStandIn 9 = false := by kernel_rfl
end Go.Proofs.YtaadhehcoegmhaaGreatDoor
