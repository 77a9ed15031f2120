/- XvalueUnion: what the row says of the program. -/
import Derived.Test.YtaadhehcoegmhaaGreatDoorF3
namespace Go.Proofs.YtaadhehcoegmhaaGreatDoor
open Go Go.Shelf Go.ChangeShapes Go.WideShapes Go.ChangeAt Go.RowKit
open Go.ChangeMaps (open_string shut_string)
namespace Union

theorem c_inPlace : Rows.xvalueUnionUptoRow.inPlace = Tryz.prog.inPlace 7 := by kernel_rfl
theorem c_unfollowed : Rows.xvalueUnionUptoRow.unfollowed = Tryz.prog.unfollowed 7 := by kernel_rfl
theorem c_recurses : Rows.xvalueUnionUptoRow.recurses = Tryz.prog.recurses 7 := by kernel_rfl
theorem c_named : Rows.xvalueUnionUptoRow.named = Tryz.prog.varsNamed 7 := by kernel_rfl
theorem closed : joinedFacts Tryz.prog 7 Tryz.f7 (Rows.OpenSpec.upto Rows.xvalueUnionSpec).bare Rows.xvalueUnionUptoRow = true :=
  closed_of c_inPlace c_unfollowed c_recurses c_named (by kernel_rfl) (by kernel_rfl) (by kernel_rfl) (by kernel_rfl)

end Union
end Go.Proofs.YtaadhehcoegmhaaGreatDoor
