/- What the rows' lists give: a witness world that meets the list of chapter 7, and what a world that meets it holds. -/
import Derived.Test.YtaadhehcoegmhaaGreatDoorCards
import Derived.Test.YtaadhehcoegmhaaGreatDoorO2
import Derived.ProofKit
import Derived.OpenShut
import Derived.SizedLaws
import Derived.Shelf.Vars
import Derived.Deep.DeepHandedRow
import Derived.Deep.DeepWitnessRowRef
import Derived.Lib.LaidU8
import Derived.Lib.LaidIn
namespace Go.Proofs.YtaadhehcoegmhaaGreatDoor
open Go Go.Shelf Go.RowKit

theorem own : ownKnob Tryz.prog.godebug = none := by kernel_rfl

/-- The list of chapter 7's rows. -/
noncomputable abbrev laid7 : List (String × DataW Unit) := Rows.xvaluePartsRow.laid

/-- A number's cell, off its datum. -/
def litCell : DataW Unit → Value
  | .lit (.int k n) => .int k n
  | _ => undef
def litCells : DataW Unit → List Value
  | .agg l => l.map litCell
  | _ => []
def litCells2 : DataW Unit → List Value
  | .agg l => l.flatMap litCells
  | _ => []

/-- A world for the witnesses: the settled one, the tables and the two errors laid. -/
noncomputable def laidWorld (os : Os) : World :=
  let N := (World.settled Tryz.prog os).heap.size
  let w0 := World.holding Tryz.prog os ⟨#[.cells #[.string ⟨#[118, 97, 108, 117, 101, 32, 111, 117, 116, 32, 111, 102, 32, 114, 97, 110, 103, 101]⟩] 417, .cells #[.string ⟨#[105, 110, 118, 97, 108, 105, 100, 32, 115, 121, 110, 116, 97, 120]⟩] 417], #[], []⟩
  let put (h : Array Obj) (g : Nat) (cs : Array Value) : Array Obj := h.modify g fun
    | .cells _ t frozen => .cells cs t frozen
    | o => o
  let h1 := put w0.heap 0 (litCells Rows.laid_unicode_utf8_first).toArray
  let h2 := put h1 1 (litCells2 Rows.laid_unicode_utf8_acceptRanges).toArray
  let h3 := put h2 3 #[.iface 415 (.pointer (some ⟨N + 1, 0, none⟩))]
  let h4 := put h3 4 #[.iface 415 (.pointer (some ⟨N, 0, none⟩))]
  let h5 := put h4 5 (litCells Rows.laid_internal_strconv_uint64pow10).toArray
  let h6 := put h5 11 (litCells Rows.laid_math_bits_deBruijn32tab).toArray
  let h7 := put h6 12 (litCells Rows.laid_math_bits_deBruijn64tab).toArray
  { w0 with heap := h7 }

theorem laid_met (os : Os) (args : Array Value) : laidMet Tryz.prog laid7 ((laidWorld os).forCall (fun _ _ => 0) ⟨#[], args, []⟩).memory :=
  laidMet_of_run' 8 (by kernel_rfl) (by kernel_rfl)


theorem w_vars (os : Os) (args : Array Value) : ((laidWorld os).forCall (fun _ _ => 0) ⟨#[], args, []⟩).variablesRefB Tryz.checked.prog = true := by kernel_rfl

theorem w_rest (os : Os) (args : Array Value) : (((laidWorld os).forCall (fun _ _ => 0) ⟨#[], args, []⟩).heap.toList.drop Tryz.checked.prog.globals.size).take ((begin Tryz.checked.prog (fun _ _ => 0) default).world.heap.size - Tryz.checked.prog.globals.size) =
      (begin Tryz.checked.prog (fun _ _ => 0) default).world.heap.toList.drop Tryz.checked.prog.globals.size := by kernel_rfl
end Go.Proofs.YtaadhehcoegmhaaGreatDoor
