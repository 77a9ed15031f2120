/- XvalueParts: what the row says of the program. -/
import Derived.Test.YtaadhehcoegmhaaGreatDoorF3
namespace Go.Proofs.YtaadhehcoegmhaaGreatDoor
open Go Go.Shelf Go.ChangeShapes Go.WideShapes Go.ChangeAt Go.RowKit
namespace Parts

theorem c_inPlace : Rows.xvaluePartsRow.inPlace = Tryz.prog.inPlace 3 := by kernel_rfl
theorem c_unfollowed : Rows.xvaluePartsRow.unfollowed = Tryz.prog.unfollowed 3 := by kernel_rfl
theorem c_recurses : Rows.xvaluePartsRow.recurses = Tryz.prog.recurses 3 := by kernel_rfl
theorem c_named : Rows.xvaluePartsRow.named = Tryz.prog.varsNamed 3 := by kernel_rfl
theorem closed : joinedFacts Tryz.prog 3 Tryz.f3 (OpenSpec.ofChange Rows.xvaluePartsSpec).bare Rows.xvaluePartsRow = true :=
  closed_of c_inPlace c_unfollowed c_recurses c_named (by kernel_rfl) (by kernel_rfl) (by kernel_rfl) (by kernel_rfl)

end Parts
end Go.Proofs.YtaadhehcoegmhaaGreatDoor
