/- XvalueLengths: what the row says of the program. -/
import Derived.Test.YtaadhehcoegmhaaGreatDoorF3
namespace Go.Proofs.YtaadhehcoegmhaaGreatDoor
open Go Go.Shelf Go.ChangeShapes Go.WideShapes Go.ChangeAt Go.RowKit
open Go.ChangeMaps (open_string shut_string)
namespace Lengths

theorem c_inPlace : Rows.xvalueLengthsRow.inPlace = Tryz.prog.inPlace 4 := by kernel_rfl
theorem c_unfollowed : Rows.xvalueLengthsRow.unfollowed = Tryz.prog.unfollowed 4 := by kernel_rfl
theorem c_recurses : Rows.xvalueLengthsRow.recurses = Tryz.prog.recurses 4 := by kernel_rfl
theorem c_named : Rows.xvalueLengthsRow.named = Tryz.prog.varsNamed 4 := by kernel_rfl
theorem closed : joinedFacts Tryz.prog 4 Tryz.f4 (OpenSpec.ofChange Rows.xvalueLengthsSpec).bare Rows.xvalueLengthsRow = true :=
  closed_of c_inPlace c_unfollowed c_recurses c_named (by kernel_rfl) (by kernel_rfl) (by kernel_rfl) (by kernel_rfl)

end Lengths
end Go.Proofs.YtaadhehcoegmhaaGreatDoor
