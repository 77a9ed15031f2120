/- XcodeNone: what the row says of the program. -/
import Derived.Test.YtaadhehcoegmhaaGreatDoorF3N
namespace Go.Proofs.YtaadhehcoegmhaaGreatDoor
open Go Go.Shelf Go.ChangeShapes Go.WideShapes Go.ChangeAt Go.RowKit
open Go.ChangeMaps (open_string shut_string)
namespace None12

theorem c_inPlace : Rows.xcodeNoneRow.inPlace = Tryz.prog.inPlace 10 := by kernel_rfl
theorem c_unfollowed : Rows.xcodeNoneRow.unfollowed = Tryz.prog.unfollowed 10 := by kernel_rfl
theorem c_recurses : Rows.xcodeNoneRow.recurses = Tryz.prog.recurses 10 := by kernel_rfl
theorem c_named : Rows.xcodeNoneRow.named = Tryz.prog.varsNamed 10 := by kernel_rfl
theorem closed : joinedFacts Tryz.prog 10 Tryz.f10 (OpenSpec.ofChange Rows.xcodeNoneSpec).bare Rows.xcodeNoneRow = true :=
  closed_of c_inPlace c_unfollowed c_recurses c_named (by kernel_rfl) (by kernel_rfl) (by kernel_rfl) (by kernel_rfl)

end None12
end Go.Proofs.YtaadhehcoegmhaaGreatDoor
