/- XcodeOrders: what the row says of the program. -/
import Derived.Test.YtaadhehcoegmhaaGreatDoorF3O
namespace Go.Proofs.YtaadhehcoegmhaaGreatDoor
open Go Go.Shelf Go.ChangeShapes Go.WideShapes Go.ChangeAt Go.RowKit
open Go.ChangeMaps (open_string shut_string)
namespace Orders

theorem c_inPlace : Rows.xcodeOrdersRow.inPlace = Tryz.prog.inPlace 8 := by kernel_rfl
theorem c_unfollowed : Rows.xcodeOrdersRow.unfollowed = Tryz.prog.unfollowed 8 := by kernel_rfl
theorem c_recurses : Rows.xcodeOrdersRow.recurses = Tryz.prog.recurses 8 := by kernel_rfl
theorem c_named : Rows.xcodeOrdersRow.named = Tryz.prog.varsNamed 8 := by kernel_rfl
theorem closed : joinedFacts Tryz.prog 8 Tryz.f8 (OpenSpec.ofChange Rows.xcodeOrdersSpec).bare Rows.xcodeOrdersRow = true :=
  closed_of c_inPlace c_unfollowed c_recurses c_named (by kernel_rfl) (by kernel_rfl) (by kernel_rfl) (by kernel_rfl)

end Orders
end Go.Proofs.YtaadhehcoegmhaaGreatDoor
