/- XvalueLimits: what the row says of the program. -/
import Derived.Test.YtaadhehcoegmhaaGreatDoorF3
namespace Go.Proofs.YtaadhehcoegmhaaGreatDoor
open Go Go.Shelf Go.ChangeShapes Go.WideShapes Go.ChangeAt Go.RowKit
open Go.ChangeMaps (open_string shut_string)
namespace Limits

theorem c_inPlace : Rows.xvalueLimitsRow.inPlace = Tryz.prog.inPlace 6 := by kernel_rfl
theorem c_unfollowed : Rows.xvalueLimitsRow.unfollowed = Tryz.prog.unfollowed 6 := by kernel_rfl
theorem c_recurses : Rows.xvalueLimitsRow.recurses = Tryz.prog.recurses 6 := by kernel_rfl
theorem c_named : Rows.xvalueLimitsRow.named = Tryz.prog.varsNamed 6 := by kernel_rfl
theorem closed : joinedFacts Tryz.prog 6 Tryz.f6 (OpenSpec.ofChange Rows.xvalueLimitsSpec).bare Rows.xvalueLimitsRow = true :=
  closed_of c_inPlace c_unfollowed c_recurses c_named (by kernel_rfl) (by kernel_rfl) (by kernel_rfl) (by kernel_rfl)

end Limits
end Go.Proofs.YtaadhehcoegmhaaGreatDoor
