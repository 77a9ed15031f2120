/- XvalueChanges: what the row says of the program. -/
import Derived.Test.YtaadhehcoegmhaaGreatDoorF3
namespace Go.Proofs.YtaadhehcoegmhaaGreatDoor
open Go Go.Shelf Go.ChangeShapes Go.WideShapes Go.ChangeAt Go.RowKit
open Go.ChangeMaps (open_string shut_string)
namespace Changes

theorem c_inPlace : Rows.xvalueChangesRow.inPlace = Tryz.prog.inPlace 5 := by kernel_rfl
theorem c_unfollowed : Rows.xvalueChangesRow.unfollowed = Tryz.prog.unfollowed 5 := by kernel_rfl
theorem c_recurses : Rows.xvalueChangesRow.recurses = Tryz.prog.recurses 5 := by kernel_rfl
theorem c_named : Rows.xvalueChangesRow.named = Tryz.prog.varsNamed 5 := by kernel_rfl
theorem closed : joinedFacts Tryz.prog 5 Tryz.f5 (OpenSpec.ofChange Rows.xvalueChangesSpec).bare Rows.xvalueChangesRow = true :=
  closed_of c_inPlace c_unfollowed c_recurses c_named (by kernel_rfl) (by kernel_rfl) (by kernel_rfl) (by kernel_rfl)

end Changes
end Go.Proofs.YtaadhehcoegmhaaGreatDoor
