/- Chapter 12's list: a witness world that meets it, and what a world that meets it holds. -/
import Derived.Test.YtaadhehcoegmhaaGreatDoorO10
import Derived.Lib.LaidSlice
namespace Go.Proofs.YtaadhehcoegmhaaGreatDoor
open Go Go.Shelf Go.RowKit

/-- The list of chapter 12's rows. -/
noncomputable abbrev laid12 : List (String × DataW Unit) := Rows.xcodeNoneRow.laid
/-- A world for the witnesses: the settled one, the tables and the two errors laid. -/
noncomputable def laidWorld12 (os : Os) : World :=
  let N := (World.settled Tryz.prog os).heap.size
  let sl (k : Nat) (l : List Nat) : Array Value := #[.slice (some ⟨N + k, 0, none⟩) l.length l.length]
  let w0 := World.holding Tryz.prog os ⟨#[.cells #[.string ⟨#[118, 97, 108, 117, 101, 32, 111, 117, 116, 32, 111, 102, 32, 114, 97, 110, 103, 101]⟩] 417, .cells #[.string ⟨#[105, 110, 118, 97, 108, 105, 100, 32, 115, 121, 110, 116, 97, 120]⟩] 417,
    .cells (Lib.intCellsOf .u16 Go.Pinned.isPrint16Z) 41, .cells (Lib.intCellsOf .u16 Go.Pinned.isNotPrint16Z) 41, .cells (Lib.intCellsOf .u32 Go.Pinned.isPrint32Z) 218, .cells (Lib.intCellsOf .u16 Go.Pinned.isNotPrint32Z) 41, .cells (Lib.intCellsOf .u16 Go.Pinned.isGraphicZ) 41], #[], []⟩
  let put (h : Array Obj) (g : Nat) (cs : Array Value) : Array Obj := h.modify g fun
    | .cells _ t frozen => .cells cs t frozen
    | o => o
  let h1 := put w0.heap 0 (litCells Rows.laid_unicode_utf8_first).toArray
  let h2 := put h1 1 (litCells2 Rows.laid_unicode_utf8_acceptRanges).toArray
  let h3 := put h2 3 #[.iface 415 (.pointer (some ⟨N + 1, 0, none⟩))]
  let h4 := put h3 4 #[.iface 415 (.pointer (some ⟨N, 0, none⟩))]
  let h5 := put h4 5 (litCells Rows.laid_internal_strconv_uint64pow10).toArray
  let h6 := put h5 11 (litCells Rows.laid_math_bits_deBruijn32tab).toArray
  let h7 := put h6 12 (litCells Rows.laid_math_bits_deBruijn64tab).toArray
  let h8 := put h7 6 (sl 2 Go.Pinned.isPrint16Z)
  let h9 := put h8 7 (sl 3 Go.Pinned.isNotPrint16Z)
  let h10 := put h9 8 (sl 4 Go.Pinned.isPrint32Z)
  let h11 := put h10 9 (sl 5 Go.Pinned.isNotPrint32Z)
  let h12 := put h11 10 (sl 6 Go.Pinned.isGraphicZ)
  { w0 with heap := h12 }

noncomputable abbrev M12 (os : Os) (args : Array Value) : World := ((laidWorld12 os).forCall (fun _ _ => 0) ⟨#[], args, []⟩).memory
noncomputable abbrev N12 : Nat := (World.settled Tryz.prog default).heap.size

set_option maxRecDepth 1000000 in
theorem piece6 (os : Os) (args : Array Value) : Go.LaidIn Tryz.prog (M12 os args) (laid12.take 6) [11, 12, 5, 1, 4, N12, 3, N12 + 1] :=
  Go.LaidIn.of_run [11, 12, 5, 1, 4, N12, 3, N12 + 1] 8 (by kernel_rfl) (by kernel_rfl) (by kernel_rfl) (by kernel_rfl)
set_option maxRecDepth 1000000 in
theorem pieceF (os : Os) (args : Array Value) : Go.LaidIn Tryz.prog (M12 os args) [("unicode/utf8.first", Rows.laid_unicode_utf8_first)] [0] :=
  Go.LaidIn.of_run [0] 8 (by kernel_rfl) (by kernel_rfl) (by kernel_rfl) (by kernel_rfl)
set_option maxRecDepth 1000000 in
theorem piece_isGraphic (os : Os) (args : Array Value) : Go.LaidIn Tryz.prog (M12 os args) [("strconv.isGraphic", Rows.laid_strconv_isGraphic)] [10, N12 + 6] :=
  Lib.laidIn_slice (name := "strconv.isGraphic") (g := 10) (t := 424) (e := 41) (te := 41) (k := .u16) Go.Pinned.isGraphicZ (N12 + 6) (by kernel_rfl) (by kernel_rfl) Tryz.underlying424 Tryz.underlying41 (by kernel_rfl) (by kernel_rfl) (by kernel_rfl) (by kernel_rfl) (Nat.le_of_ble_eq_true (by kernel_rfl)) (of_decide_eq_true (by kernel_rfl))
set_option maxRecDepth 1000000 in
theorem piece_isNotPrint16 (os : Os) (args : Array Value) : Go.LaidIn Tryz.prog (M12 os args) [("strconv.isNotPrint16", Rows.laid_strconv_isNotPrint16)] [7, N12 + 3] :=
  Lib.laidIn_slice (name := "strconv.isNotPrint16") (g := 7) (t := 424) (e := 41) (te := 41) (k := .u16) Go.Pinned.isNotPrint16Z (N12 + 3) (by kernel_rfl) (by kernel_rfl) Tryz.underlying424 Tryz.underlying41 (by kernel_rfl) (by kernel_rfl) (by kernel_rfl) (by kernel_rfl) (Nat.le_of_ble_eq_true (by kernel_rfl)) (of_decide_eq_true (by kernel_rfl))
set_option maxRecDepth 1000000 in
theorem piece_isNotPrint32 (os : Os) (args : Array Value) : Go.LaidIn Tryz.prog (M12 os args) [("strconv.isNotPrint32", Rows.laid_strconv_isNotPrint32)] [9, N12 + 5] :=
  Lib.laidIn_slice (name := "strconv.isNotPrint32") (g := 9) (t := 424) (e := 41) (te := 41) (k := .u16) Go.Pinned.isNotPrint32Z (N12 + 5) (by kernel_rfl) (by kernel_rfl) Tryz.underlying424 Tryz.underlying41 (by kernel_rfl) (by kernel_rfl) (by kernel_rfl) (by kernel_rfl) (Nat.le_of_ble_eq_true (by kernel_rfl)) (of_decide_eq_true (by kernel_rfl))
set_option maxRecDepth 1000000 in
theorem piece_isPrint16 (os : Os) (args : Array Value) : Go.LaidIn Tryz.prog (M12 os args) [("strconv.isPrint16", Rows.laid_strconv_isPrint16)] [6, N12 + 2] :=
  Lib.laidIn_slice (name := "strconv.isPrint16") (g := 6) (t := 424) (e := 41) (te := 41) (k := .u16) Go.Pinned.isPrint16Z (N12 + 2) (by kernel_rfl) (by kernel_rfl) Tryz.underlying424 Tryz.underlying41 (by kernel_rfl) (by kernel_rfl) (by kernel_rfl) (by kernel_rfl) (Nat.le_of_ble_eq_true (by kernel_rfl)) (of_decide_eq_true (by kernel_rfl))
set_option maxRecDepth 1000000 in
theorem piece_isPrint32 (os : Os) (args : Array Value) : Go.LaidIn Tryz.prog (M12 os args) [("strconv.isPrint32", Rows.laid_strconv_isPrint32)] [8, N12 + 4] :=
  Lib.laidIn_slice (name := "strconv.isPrint32") (g := 8) (t := 426) (e := 218) (te := 218) (k := .u32) Go.Pinned.isPrint32Z (N12 + 4) (by kernel_rfl) (by kernel_rfl) Tryz.underlying426 Tryz.underlying218 (by kernel_rfl) (by kernel_rfl) (by kernel_rfl) (by kernel_rfl) (Nat.le_of_ble_eq_true (by kernel_rfl)) (of_decide_eq_true (by kernel_rfl))

theorem laid_met12 (os : Os) (args : Array Value) : laidMet Tryz.prog laid12 (M12 os args) :=
  ((piece6 os args).append ((piece_isGraphic os args).append ((piece_isNotPrint16 os args).append ((piece_isNotPrint32 os args).append ((piece_isPrint16 os args).append ((piece_isPrint32 os args).append (pieceF os args) (by kernel_rfl)) (by kernel_rfl)) (by kernel_rfl)) (by kernel_rfl)) (by kernel_rfl)) (by kernel_rfl)).met

theorem w_vars12 (os : Os) (args : Array Value) : ((laidWorld12 os).forCall (fun _ _ => 0) ⟨#[], args, []⟩).variablesRefB Tryz.checked.prog = true := by kernel_rfl

theorem w_rest12 (os : Os) (args : Array Value) : (((laidWorld12 os).forCall (fun _ _ => 0) ⟨#[], args, []⟩).heap.toList.drop Tryz.checked.prog.globals.size).take ((begin Tryz.checked.prog (fun _ _ => 0) default).world.heap.size - Tryz.checked.prog.globals.size) =
      (begin Tryz.checked.prog (fun _ _ => 0) default).world.heap.toList.drop Tryz.checked.prog.globals.size := by kernel_rfl

theorem tabs_of_laid12 {w : World} (h : laidMetH Tryz.prog laid12 w) : Lib.Utf8Tabs 0 1 w := by
  have h1 : Lib.VarReads Tryz.prog w "unicode/utf8.first" Rows.laid_unicode_utf8_first := Lib.laidMet.reads h (.tail _ (.tail _ (.tail _ (.tail _ (.tail _ (.tail _ (.tail _ (.tail _ (.tail _ (.tail _ (.tail _ (.head _))))))))))))
  have h2 : Lib.VarReads Tryz.prog w "unicode/utf8.acceptRanges" Rows.laid_unicode_utf8_acceptRanges := Lib.laidMet.reads h (.tail _ (.tail _ (.tail _ (.head _))))
  rw [first_data] at h1
  rw [accept_data] at h2
  exact utf8Tabs_of_reads (ρ := Tryz.lays260_ren) { Tryz.lays260 with } ⟨by kernel_rfl, by kernel_rfl, by kernel_rfl, by kernel_rfl, by kernel_rfl, by kernel_rfl, by kernel_rfl⟩ h1 h2

theorem env_of_row12 {w : World} (h : laidMetH Tryz.prog laid12 w) (hs : w.ShapedOpen Tryz.prog) : Env w := ⟨max_of_shape hs, tabs_of_laid12 h⟩
end Go.Proofs.YtaadhehcoegmhaaGreatDoor
