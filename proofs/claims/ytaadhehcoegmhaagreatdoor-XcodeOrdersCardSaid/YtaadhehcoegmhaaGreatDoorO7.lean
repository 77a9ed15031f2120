/- compile at a text of which Parse, xeval.Compile and Names tell. -/
import Derived.Test.YtaadhehcoegmhaaGreatDoorO6
import Derived.Test.YtaadhehcoegmhaaGreatDoorO4
import Derived.Test.YtaadhehcoegmhaaGreatDoorO1
import Derived.Shelf.SlIter.Nil
import Derived.Shelf.SortM.Plain
import Derived.Shelf.SortM.SortNone
import Derived.Shelf.Pu.ParseUintPublic10
import Derived.Ground.GgzProg
import Derived.Ground.SlgmProg
import Derived.Ground.MpProg
import Derived.Test.YtaadhehcoegmhaaGreatDoorProg
import Derived.Test.YtaadhehcoegmhaaGreatDoorO5
import Derived.Shelf.Strings.SlTrimAscii
namespace Go.Proofs.YtaadhehcoegmhaaGreatDoor
open Go Go.RowKit

/-- A text that parses, whose expression gets its code, and of whose variables Names tells. -/
def TextOk (sel : List UInt8) (ns : List (List UInt8)) : Prop :=
  ns.Nodup ∧ ns.length ≤ 1000 ∧ ∀ w, Env w → Calls Tryz.prog 104 #[.string (bs sel)] w fun e w1 => ∃ a0 a1 a2 a3 a4 a5 a6, e = .returned (.tuple #[.agg #[a0, a1, a2, a3, a4, a5, a6], .int .i64 0]) ∧ (#[a0, a1, a2, a3, a4, a5, a6] : Array Value).all (·.oneCell') = true ∧ Below w.heap.size w w1 ∧
    (∀ w2, Env w2 → Below w1.heap.size w1 w2 → Calls Tryz.prog 106 #[.agg #[a0, a1, a2, a3, a4, a5, a6], .slice none 0 0] w2 fun e w3 => ∃ c, e = .returned (.tuple #[.pointer (some ⟨c, 0, none⟩), .int .i64 0]) ∧ Below w2.heap.size w2 w3) ∧
    (∀ w2, Env w2 → Below w1.heap.size w1 w2 → Calls Tryz.prog 167 #[.agg #[a0, a1, a2, a3, a4, a5, a6]] w2 fun e w3 => ∃ v, e = .returned v ∧ NamesIn w3 v ns ∧ Below w2.heap.size w2 w3)
theorem TextOk.names {sel : List UInt8} {ns : List (List UInt8)} (h : TextOk sel ns) : NamesAre sel ns :=
  ⟨h.1, h.2.1, fun w hE => (h.2.2 w hE).mono fun _ _ ⟨a0, a1, a2, a3, a4, a5, a6, h1, h2, h3, _, h5⟩ => ⟨a0, a1, a2, a3, a4, a5, a6, h1, h2, h3, h5⟩⟩

set_option maxRecDepth 100000 in
set_option maxHeartbeats 4000000 in
theorem compile_text (pp mb : Nat) (sel : List UInt8) (ns : List (List UInt8)) (w : World) (hE : Env w) (hp : w.cell? ⟨pp, 6, none⟩ = some (.map (some mb))) (hcodes : CodesAt mb w)
    (htx : TextOk sel ns) :
    Calls Tryz.prog 47 #[.pointer (some ⟨pp, 0, none⟩), .string (bs sel), .slice none 0 0] w fun e w' => ∃ c, e = .returned (.tuple #[.pointer (some ⟨c, 0, none⟩), .int .i64 0]) ∧
      CodesAt mb w' ∧ w.grownBy w' (some mb) := by
  obtain ⟨es, clock, hm, hborn, hnd, hk⟩ := hcodes.out
  clear hcodes
  have HTX := Lib.hid htx
  have HK := Lib.hid hk
  have HBO := Lib.hid hborn
  have HND := Lib.hid hnd
  have HMB := Lib.hid hm
  have HPP := Lib.hid hp
  clear htx hk hborn hnd hm hp
  go_enter Tryz.func47, Tryz.ntmps47
  go_wp2_with fail
  refine Calls.mono (keyOf_nil (bs sel) w) ?_
  rintro e w1 ⟨rfl, hb1⟩
  dsimp only
  obtain ⟨hp1, hp2, hp3⟩ := put_new w1 (key2 ⟨#[]⟩) (key2 (bs sel)) 172
  have HGA := Lib.hid (heap_alloc_new w1 (.cells (key2 ⟨#[]⟩) 172))
  obtain ⟨W, hW⟩ : ∃ W, W = (w1.alloc (.cells (key2 ⟨#[]⟩) 172)).setRow w1.heap.size (key2 (bs sel)) := ⟨_, rfl⟩
  rw [← hW] at hp1 hp2 hp3
  have HW := Lib.hid hW
  have hbw := below_then hb1 hb1.size hp1
  have hmW := (hbw.block mb (Array.getElem?_eq_some_iff.1 HMB.out).1).trans HMB.out
  have hpW := (hbw.cell (p := ⟨pp, 6, none⟩) (at_lt HPP.out)).trans HPP.out
  have hrg := run_range_map (P := Tryz.prog) W 95 172 69 mb es clock Tryz.underlying95 hmW
  have HMW := Lib.hid hmW
  have HBW := Lib.hid hbw
  have HKW := Lib.hid hp2
  have hmlt : mb < w.heap.size := (Array.getElem?_eq_some_iff.1 HMB.out).1
  have hsW := hbw.size
  have hs1 := hb1.size
  have HP3 := Lib.hid hp3
  clear hp1 hp2 hp3 hW hb1 hmW hbw
  go_wp2_with (refine wpList_store_row rfl 172 (.tmp 8) (.tmp 16) rfl w1.heap.size (key2 (bs sel)) rfl rfl 172 _ HGA.out (by kernel_rfl) rfl (by simp [Value.oneCell']) ?_; rw [← HW.out])
  go_loopw [10] (fun _ wr => ∃ seen c0, wr.heap[W.heap.size]? = some (.mapIter (some mb) clock seen c0) ∧ clock ≤ c0 ∧ Below W.heap.size W wr ∧ ∀ y ∈ es.toList, seen.contains y.born = true → ∃ k, y.key = .agg (key2 k) ∧ (bs sel == k) = false ∧ (k == bs sel) = false)
    (fun _ wr => leftIn es W.heap.size wr)
  case atStart => exact ⟨#[], clock, heap_alloc_new W _, Nat.le_refl _, (Below.refl _ _).alloc (Nat.le_refl _) _, fun y _ hy => by simp at hy⟩
  case round =>
    obtain ⟨seen, c0, hit, hc0, hbel, hsn⟩ := hrel
    rename World => wr
    have hmr := (hbel.block mb (by omega)).trans HMW.out
    rcases run_next_at (P := Tryz.prog) wr 0 W.heap.size mb clock c0 seen es clock hit hmr HBO.out hc0 with ⟨h0, hx⟩ | ⟨en, hen, w2, hw2, hx⟩
    · have HKN := Lib.hid (show KeysNot (bs sel) es.toList from fun y hy => hsn y hy (all_seen es seen h0 y hy))
      have HBR := Lib.hid hbel
      clear hit hbel h0 hsn
      go_wp2_with fail
      refine Calls.mono (HTX.out.2.2 wr (hE.below (HBW.out.trans (HBR.out.mono hsW)))) ?_
      rintro e w5 ⟨a0, a1, a2, a3, a4, a5, a6, rfl, h1c, hb5, hev, -⟩
      have HEV := Lib.hid hev
      have H1C := Lib.hid h1c
      clear hev h1c
      dsimp only
      have hmr5 := (hb5.block mb (Array.getElem?_eq_some_iff.1 hmr).1).trans hmr
      obtain ⟨hp1, hp2, hp3⟩ := put_new w5 (leaf7 0 [] 0 0) (#[a0, a1, a2, a3, a4, a5, a6]) 155
      have HG5 := Lib.hid (heap_alloc_new w5 (.cells (leaf7 0 [] 0 0) 155))
      obtain ⟨W6, hW6⟩ : ∃ W6, W6 = (w5.alloc (.cells (leaf7 0 [] 0 0) 155)).setRow w5.heap.size (#[a0, a1, a2, a3, a4, a5, a6]) := ⟨_, rfl⟩
      rw [← hW6] at hp1 hp2 hp3
      have HW6 := Lib.hid hW6
      have r0 : W6.cell? ⟨w5.heap.size, 0, none⟩ = some a0 := by rw [Lib.cell_of_heap hp2]; rfl
      have r1 : W6.cell? ⟨w5.heap.size, 1, none⟩ = some a1 := by rw [Lib.cell_of_heap hp2]; rfl
      have r2 : W6.cell? ⟨w5.heap.size, 2, none⟩ = some a2 := by rw [Lib.cell_of_heap hp2]; rfl
      have r3 : W6.cell? ⟨w5.heap.size, 3, none⟩ = some a3 := by rw [Lib.cell_of_heap hp2]; rfl
      have r4 : W6.cell? ⟨w5.heap.size, 4, none⟩ = some a4 := by rw [Lib.cell_of_heap hp2]; rfl
      have r5 : W6.cell? ⟨w5.heap.size, 5, none⟩ = some a5 := by rw [Lib.cell_of_heap hp2]; rfl
      have r6 : W6.cell? ⟨w5.heap.size, 6, none⟩ = some a6 := by rw [Lib.cell_of_heap hp2]; rfl
      have h56 := Lib.hid (HBR.out.trans ((below_then hb5 hb5.size hp1).mono HBR.out.size))
      have H5 := Lib.hid hb5.size
      have H56 := Lib.hid hp1
      clear hp1 hp2 hp3 hW6 hb5 hmr hmr5
      go_wp2_with (refine wpList_store_row rfl 155 (.tmp 11) (.tmp 34) rfl w5.heap.size (#[a0, a1, a2, a3, a4, a5, a6]) rfl rfl 155 _ HG5.out (by kernel_rfl) rfl H1C.out ?_; rw [← HW6.out])
      refine Calls.mono (HEV.out W6 (hE.below (HBW.out.trans (h56.out.mono hsW))) H56.out) ?_
      rintro e w7 ⟨c, rfl, hb7⟩
      dsimp only
      have h67 := below_then h56.out h56.out.size (show Below W6.heap.size W6 w7 from hb7)
      have hb07 : Below w.heap.size w w7 := HBW.out.trans (h67.mono hsW)
      have hm7 := (hb07.block mb hmlt).trans HMB.out
      have hp7 := (hb07.cell (p := ⟨pp, 6, none⟩) (at_lt HPP.out)).trans HPP.out
      have hk7 := (h67.block w1.heap.size (by have := HP3.out; omega)).trans HKW.out
      have b0 : w7.cell? ⟨w1.heap.size, 0, none⟩ = some (.string (bs sel)) := by rw [Lib.cell_of_heap hk7]; rfl
      have b1 : w7.cell? ⟨w1.heap.size, 1, none⟩ = some (.string ⟨#[]⟩) := by rw [Lib.cell_of_heap hk7]; rfl
      have hmu := run_mapUpdate_key (bs sel) (.pointer (some ⟨c, 0, none⟩)) mb clock es w7.drew hm7 HKN.out
      obtain ⟨W8, hW8⟩ : ∃ W8, W8 = { w7.drew with heap := w7.drew.heap.setIfInBounds mb (.map (es.push { key := .agg (key2 (bs sel)), val := .pointer (some ⟨c, 0, none⟩), born := clock }) (clock + 1)) } := ⟨_, rfl⟩
      rw [← hW8] at hmu
      have hlt7 : mb < w7.heap.size := (Array.getElem?_eq_some_iff.1 hm7).1
      have hfin : W8.heap[mb]? = some (.map (es.push { key := .agg (key2 (bs sel)), val := .pointer (some ⟨c, 0, none⟩), born := clock }) (clock + 1)) ∧ w.grownBy W8 (some mb) := by
        rw [hW8]
        refine ⟨by show (w7.heap.setIfInBounds mb _)[mb]? = _; simp [hlt7], (grown_of_below hb07.drew (some mb)).trans (grownBy_setIn _)⟩
      have HFIN := Lib.hid hfin
      have HCO := Lib.hid (show CodesAt mb W8 from ⟨_, _, hfin.1, fun y hy => by
          simp at hy
          rcases hy with hy | rfl
          · have := HBO.out y (by simpa using hy); omega
          · simp, by
          simp only [Array.toList_push, List.map_append, List.nodup_append, List.map_cons, List.map_nil]
          refine ⟨HND.out, by simp, ?_⟩
          rintro a ha b hb rfl
          obtain ⟨y, hy, rfl⟩ := List.mem_map.1 ha
          have := HBO.out y hy
          simp at hb
          omega, fun y hy => by
          simp at hy
          rcases hy with hy | rfl
          · exact HK.out y (by simpa using hy)
          · exact ⟨⟨_, rfl⟩, _, rfl⟩⟩)
      clear hfin hW8 hm7 hk7 h67 hb07 hb7 hlt7 r0 r1 r2 r3 r4 r5 r6
      go_wp2_with fail
      go_region_law (go_simp)
      all_goals first | (go_ret2; exact ⟨_, rfl, HCO.out, HFIN.out.2⟩) | (go_wp2_with fail; go_ret2; exact ⟨_, rfl, HCO.out, HFIN.out.2⟩)
    · obtain ⟨hmem, hnseen⟩ := mem_left hen
      obtain ⟨⟨kk, hkk⟩, vc, hvc⟩ := HK.out en hmem
      have hit2 : w2.heap[W.heap.size]? = some (.mapIter (some mb) clock seen c0) := by rcases hw2 with rfl | rfl <;> exact hit
      have hbel2 : Below W.heap.size W w2 := by rcases hw2 with rfl | rfl; exact hbel; exact hbel.drew
      obtain ⟨w3, hw3⟩ : ∃ w3, w3 = ChangeMaps.setBlock w2 W.heap.size (.mapIter (some mb) clock (seen.push en.born) clock) := ⟨_, rfl⟩
      have hit3 : w3.heap[W.heap.size]? = some (.mapIter (some mb) clock (seen.push en.born) clock) := by rw [hw3, heap_setBlock_at hit2, if_pos rfl]
      have hbel3 : Below W.heap.size W w3 := by rw [hw3]; exact below_setBlock hbel2 hit2 (Nat.le_refl _)
      rw [← hw3] at hx
      have hm3 := (hbel3.block mb (by omega)).trans HMW.out
      have hent := run_entry_at (P := Tryz.prog) w3 W.heap.size mb clock seen es clock en hit3 hm3 hmem HND.out
      rw [hkk, hvc] at hx hent
      obtain ⟨hp1, hp2, hp3⟩ := put_new w3 (key2 ⟨#[]⟩) (key2 kk) 172
      have HG3 := Lib.hid (heap_alloc_new w3 (.cells (key2 ⟨#[]⟩) 172))
      obtain ⟨W4, hW4⟩ : ∃ W4, W4 = (w3.alloc (.cells (key2 ⟨#[]⟩) 172)).setRow w3.heap.size (key2 kk) := ⟨_, rfl⟩
      rw [← hW4] at hp1 hp2 hp3
      have HW4 := Lib.hid hW4
      have hbel4 : Below W.heap.size W W4 := below_then hbel3 hbel3.size hp1
      have hk8 := (hbel4.block w1.heap.size (by have := HP3.out; omega)).trans HKW.out
      have a0 : W4.cell? ⟨w3.heap.size, 0, none⟩ = some (.string kk) := by rw [Lib.cell_of_heap hp2]; rfl
      have a1 : W4.cell? ⟨w3.heap.size, 1, none⟩ = some (.string ⟨#[]⟩) := by rw [Lib.cell_of_heap hp2]; rfl
      have b0 : W4.cell? ⟨w1.heap.size, 0, none⟩ = some (.string (bs sel)) := by rw [Lib.cell_of_heap hk8]; rfl
      have b1 : W4.cell? ⟨w1.heap.size, 1, none⟩ = some (.string ⟨#[]⟩) := by rw [Lib.cell_of_heap hk8]; rfl
      have hit4 : W4.heap[W.heap.size]? = some (.mapIter (some mb) clock (seen.push en.born) clock) := (hp1.block _ (Array.getElem?_eq_some_iff.1 hit3).1).trans hit3
      have HLE := Lib.hid (show leftIn es W.heap.size W4 < leftIn es W.heap.size wr by
        unfold leftIn; rw [hit4, hit]; exact left_shrinks es seen en hen)
      have HB4 := Lib.hid hbel4
      have HI4 := Lib.hid hit4
      have hcm : (Op.equalIn 10000 172 (.agg #[.string kk, .string ⟨#[]⟩]) (.agg #[.string (bs sel), .string ⟨#[]⟩])).run Tryz.prog W4 = .ok (kk == bs sel) W4 := run_equal_key kk (bs sel) W4
      clear hw3 hp1 hp2 hp3 hW4 hbel4 hk8 hit4 hbel3 hit3 hm3 hbel2 hit2
      have HSN := Lib.hid hsn
      have hHB := Lib.hid (HBW.out.trans (HB4.out.mono hsW))
      rcases hq : (kk == bs sel) with _ | _
      · rw [hq] at hcm
        have HS2 := Lib.hid (show ∀ y ∈ es.toList, (seen.push en.born).contains y.born = true → ∃ k, y.key = .agg (key2 k) ∧ (bs sel == k) = false ∧ (k == bs sel) = false from fun y hy hc => by
          rw [contains_push, Bool.or_eq_true] at hc
          rcases hc with hc | hc
          · exact HSN.out y hy hc
          · obtain rfl := born_inj HND.out hy hmem (eq_of_beq hc)
            exact ⟨kk, hkk, by rw [byte_comm]; exact hq, hq⟩)
        clear hsn
        go_wp2_with (refine wpList_store_row rfl 172 (.tmp 9) (.tmp 25) rfl w3.heap.size (key2 kk) rfl rfl 172 _ HG3.out (by kernel_rfl) rfl (by simp [Value.oneCell']) ?_; rw [← HW4.out])
        go_roundw
        case rel => exact ⟨_, _, HI4.out, Nat.le_refl _, HB4.out, HS2.out⟩
        case measure => exact HLE.out
      · rw [hq] at hcm
        clear hsn
        have HCO := Lib.hid (show CodesAt mb W4 from ⟨es, clock, ((HBW.out.trans (HB4.out.mono hsW)).block mb hmlt).trans HMB.out, HBO.out, HND.out, HK.out⟩)
        go_wp2_with (refine wpList_store_row rfl 172 (.tmp 9) (.tmp 25) rfl w3.heap.size (key2 kk) rfl rfl 172 _ HG3.out (by kernel_rfl) rfl (by simp [Value.oneCell']) ?_; rw [← HW4.out])
        go_ret2
        exact ⟨_, rfl, HCO.out, grown_of_below hHB.out _⟩

theorem TextOk.compiles {sel : List UInt8} {ns : List (List UInt8)} (h : TextOk sel ns) : Compiles sel := fun pp mb w hE hp hc => compile_text pp mb sel ns w hE hp hc h
end Go.Proofs.YtaadhehcoegmhaaGreatDoor
/- Compile of a sheet of lets. -/
namespace Go.Proofs.YtaadhehcoegmhaaGreatDoor
open Go Go.RowKit

/-- A program's cells: its sheet, its codes, its order. -/
abbrev prog8 (gl codes ord : Value) : Array Value := #[.slice none 0 0, gl, .slice none 0 0, .int .i64 0, .bool false, .slice none 0 0, codes, ord]
/-- What Order finds. -/
def ProgAt (pp : Nat) (out : List Nat) (w : World) : Prop := ∃ v, w.cell? ⟨pp, 7, none⟩ = some v ∧ IntSlice w v (outI out)
/-- How Compile ends at lets. -/
def CompilePost (ls : List Lt) (nd : Nat → List (List UInt8)) (w : World) (e : Ending) (w' : World) : Prop :=
  Below w.heap.size w w' ∧ ∃ out : List Nat, OrdOk (depB ls nd) ls.length out ∧
    ((∃ pp, e = .returned (.tuple #[.pointer (some ⟨pp, 0, none⟩), .int .i64 0]) ∧ ProgAt pp out w' ∧ out.length = ls.length) ∨
     (e = .returned (.tuple #[.pointer none, .int .i64 14]) ∧ out.length ≠ ls.length ∧ ∀ i, i < ls.length → i ∉ out → ∃ k, k < ls.length ∧ k ∉ out ∧ depB ls nd i k = true))

theorem below_setCell' {B b i : Nat} {w w' : World} {v : Value} (h : Below B w w') (hb : B ≤ b) : Below B w (w'.setCell ⟨b, i, none⟩ v) :=
  h.trans ⟨rfl, rfl, rfl, by simp [World.setCell], fun k hk => Below.heap_setCell _ _ _ _ (show k ≠ b by omega)⟩
theorem mk95 (w : World) : (Instr.makeMap 95 none).run Tryz.prog w = .ok (.map (some w.heap.size)) (w.alloc (.map #[] 0)) := by kernel_rfl

set_option maxRecDepth 100000 in
set_option maxHeartbeats 4000000 in
theorem compile_lets (g cap : Nat) (ls : List Lt) (nd : Nat → List (List UInt8)) (w : World) (hE : Env w) (hl : ls.length ≤ 1000) (h0 : 0 < ls.length)
    (hc : ∀ j u, (letCells ls)[j]? = some u → w.cell? ⟨g, j, none⟩ = some u) (hsel : ∀ t ∈ ls, t.sel.isEmpty = false) (htx : ∀ i t, ls[i]? = some t → TextOk t.sel (nd i)) :
    Calls Tryz.prog 20 #[.agg (sheet5 (.slice (some ⟨g, 0, none⟩) ls.length cap))] w (CompilePost ls nd w) := by
  have hcomp : ∀ t ∈ ls, Compiles t.sel := fun t ht => by
    obtain ⟨i, hi⟩ := List.getElem?_of_mem ht
    exact (htx i t hi).compiles
  have hns : ∀ i t, ls[i]? = some t → NamesAre t.sel (nd i) := fun i t ht => (htx i t ht).names
  have hgw : g < w.heap.size := by
    obtain ⟨t, ht⟩ : ∃ t, ls[0]? = some t := ⟨ls[0], by simp [h0]⟩
    exact at_lt (hc _ _ (letCells_at ls 0 t ht 0 _ rfl))
  have hb : Below w.heap.size w (w.alloc (.cells (sheet5 (.slice (some ⟨g, 0, none⟩) ls.length cap)) 59)) := (Below.refl _ _).alloc (Nat.le_refl _) _
  have hq := heap_alloc_new w (.cells (sheet5 (.slice (some ⟨g, 0, none⟩) ls.length cap)) 59)
  have HC := Lib.hid hc
  have HS := Lib.hid hsel
  have HCO := Lib.hid hcomp
  have HN := Lib.hid hns
  have HE := Lib.hid hE
  have HL := Lib.hid hl
  clear hc hsel hcomp hns hE htx
  have HSZ := Lib.hid (size_lets g cap ls _ hl (Nat.lt_of_lt_of_le hgw hb.size) (fun i t ht j u hu => (hb.cell (p := ⟨g, i * 9 + j, none⟩) hgw).trans (HC.out _ _ (letCells_at ls i t ht j u hu))))
  go_enter Tryz.func20, Tryz.ntmps20
  go_wp2_with fail
  refine Calls.mono HSZ.out ?_
  rintro e w1 ⟨rfl, hb1⟩
  dsimp only
  have hbw1 := below_then hb hb.size hb1
  have hq1 := (hb1.block _ (by simp)).trans hq
  have q0 : w1.cell? ⟨w.heap.size, 0, none⟩ = some (.slice none 0 0) := by rw [Lib.cell_of_heap hq1]; rfl
  have q1 : w1.cell? ⟨w.heap.size, 1, none⟩ = some (.slice (some ⟨g, 0, none⟩) ls.length cap) := by rw [Lib.cell_of_heap hq1]; rfl
  have q2 : w1.cell? ⟨w.heap.size, 2, none⟩ = some (.slice none 0 0) := by rw [Lib.cell_of_heap hq1]; rfl
  have q3 : w1.cell? ⟨w.heap.size, 3, none⟩ = some (.int .i64 0) := by rw [Lib.cell_of_heap hq1]; rfl
  have q4 : w1.cell? ⟨w.heap.size, 4, none⟩ = some (.bool false) := by rw [Lib.cell_of_heap hq1]; rfl
  have HSH := Lib.hid (sheet_lets g cap ls w1 hl h0 (Nat.lt_of_lt_of_le hgw hbw1.size) (fun j u hu => (hbw1.cell (p := ⟨g, j, none⟩) hgw).trans (HC.out j u hu)))
  have HB1 := Lib.hid hbw1
  clear hb hb1 hq hq1 hbw1
  go_wp2_with fail
  refine Calls.mono HSH.out ?_
  rintro e w2 ⟨g2, cap2, rfl, hg2a, hg2b, hc2, hb2⟩
  dsimp only
  have hbw2 := below_then HB1.out HB1.out.size hb2
  obtain ⟨W, hW⟩ : ∃ W, W = (w2.alloc (.map #[] 0)).alloc (.cells (prog8 (.slice (some ⟨g2, 0, none⟩) ls.length cap2) (.map (some w2.heap.size)) (.slice none 0 0)) 98) := ⟨_, rfl⟩
  have hb2W : Below w2.heap.size w2 W := by rw [hW]; exact ((Below.refl _ _).alloc (Nat.le_refl _) _).alloc (by simp) _
  have hp : W.heap[w2.heap.size + 1]? = some (.cells (prog8 (.slice (some ⟨g2, 0, none⟩) ls.length cap2) (.map (some w2.heap.size)) (.slice none 0 0)) 98 (0, 0)) := by rw [hW]; exact new_at _ _ (by simp)
  have hm : W.heap[w2.heap.size]? = some (.map #[] 0) := by rw [hW]; exact alloc_old _ (heap_alloc_new w2 _) rfl
  have hsW : W.heap.size = w2.heap.size + 2 := by rw [hW]; simp
  have hbW := below_then hbw2 hbw2.size hb2W
  have hcW : ∀ i t, ls[i]? = some t → ∀ j u, t.cells[j]? = some u → W.cell? ⟨g2, i * 9 + j, none⟩ = some u := fun i t ht j u hu => (hb2W.cell (p := ⟨g2, i * 9 + j, none⟩) hg2b).trans (hc2 _ _ (letCells_at ls i t ht j u hu))
  have p0 : W.cell? ⟨w2.heap.size + 1, 0, none⟩ = some (.slice none 0 0) := by rw [Lib.cell_of_heap hp]; rfl
  have p1 : W.cell? ⟨w2.heap.size + 1, 1, none⟩ = some (.slice (some ⟨g2, 0, none⟩) ls.length cap2) := by rw [Lib.cell_of_heap hp]; rfl
  have p6 : W.cell? ⟨w2.heap.size + 1, 6, none⟩ = some (.map (some w2.heap.size)) := by rw [Lib.cell_of_heap hp]; rfl
  have hcodes : CodesAt w2.heap.size W := ⟨#[], 0, hm, by simp, by simp, by simp⟩
  have HIN := Lib.hid (instrs_lets (w2.heap.size + 1) w2.heap.size g2 cap2 ls W (HE.out.below hbW) p6 hcodes HL.out hcW HS.out HCO.out)
  have HP := Lib.hid hp
  have HMM := Lib.hid hm
  have HBW := Lib.hid hbW
  have HCW := Lib.hid hcW
  have HP6 := Lib.hid p6
  have HSW := Lib.hid hsW
  have hg2W : g2 < W.heap.size := Nat.lt_of_lt_of_le hg2b hb2W.size
  have hne2 : g2 ≠ w2.heap.size := by omega
  have HNE := Lib.hid hne2
  have hwW := hbw2.size
  clear hc2 hb2 hbw2 hb2W hp hm hbW hcW hcodes p6 hsW hne2 q0 q1 q2 q3 q4
  have hmk := mk95
  go_wp2_with fail
  rw [← hW]
  clear hW
  go_loopw [31] (fun v wr => v = .int .i64 0 ∧ W = wr) (fun _ _ => 0)
  case atStart => exact ⟨rfl, rfl⟩
  case round =>
    obtain ⟨rfl, rfl⟩ := hrel
    go_wp2_with fail
    refine Calls.mono HIN.out ?_
    rintro e w3 ⟨rfl, hcd3, hg3⟩
    dsimp only
    have hp3 := (hg3.block _ (Array.getElem?_eq_some_iff.1 HP.out).1 (fun e => by have := Option.some.inj e; omega)).trans HP.out
    have p1' : w3.cell? ⟨w2.heap.size + 1, 1, none⟩ = some (.slice (some ⟨g2, 0, none⟩) ls.length cap2) := by rw [Lib.cell_of_heap hp3]; rfl
    have hb3 : Below w.heap.size w w3 := HBW.out.trans (below_of_grown hg3 hwW HBW.out.size)
    have HOR := Lib.hid (ordered_lets g2 cap2 ls nd w3 (HE.out.below hb3) HL.out (fun i t ht j u hu => (World.cell?_of_block (w := W) (a := ⟨g2, i * 9 + j, none⟩) (hg3.block g2 hg2W (fun e => HNE.out (Option.some.inj e)))).trans (HCW.out i t ht j u hu)) HS.out HN.out)
    have HP3 := Lib.hid hp3
    have HB3 := Lib.hid hb3
    clear hp3 hb3 hcd3 hg3
    go_wp2_with fail
    refine Calls.mono HOR.out ?_
    rintro e w4 ⟨hb4, out, hout, ⟨v, rfl, hown, hlen⟩ | ⟨rfl, hlen, hstuck⟩⟩
    · obtain ⟨A, nn, cc, rfl⟩ : ∃ A n c, v = .slice A n c := by
        rcases hown.2 with ⟨rfl, _⟩ | ⟨gg, cap, cur, rfl, _⟩
        · exact ⟨_, _, _, rfl⟩
        · exact ⟨_, _, _, rfl⟩
      have hp4 := (hb4.block _ (Array.getElem?_eq_some_iff.1 HP3.out).1).trans HP3.out
      have f7 : w4.frozen? ⟨w2.heap.size + 1, 7, none⟩ = false := by simp [World.frozen?, hp4]
      have p7 : w4.cell? ⟨w2.heap.size + 1, 7, none⟩ = some (.slice none 0 0) := by rw [Lib.cell_of_heap hp4]; rfl
      have HP4 := Lib.hid hp4
      have HB4 := Lib.hid (below_then HB3.out HB3.out.size hb4)
      have HOW := Lib.hid hown
      have HOUT := Lib.hid hout
      have HLEN := Lib.hid hlen
      have hlt3 := (Array.getElem?_eq_some_iff.1 HP3.out).1
      clear hp4 hb4 hown hout hlen
      dsimp only
      go_wp2_with fail
      go_ret2
      have hsz3 := HB3.out.size
      refine ⟨below_setCell' HB4.out (by omega), out, HOUT.out, .inl ⟨w2.heap.size + 1, rfl, ⟨_, World.cell?_setCell_same _ _ _ (by rw [Lib.cell_of_heap HP4.out]; rfl), ?_⟩, HLEN.out⟩⟩
      refine IntSlice.of_own (own_kept HOW.out fun k hk1 hk2 => ?_)
      exact Below.heap_setCell _ _ _ _ (show k ≠ w2.heap.size + 1 by omega)
    · have HB4 := Lib.hid (below_then HB3.out HB3.out.size hb4)
      have HOUT := Lib.hid hout
      have HLEN := Lib.hid hlen
      have HST := Lib.hid hstuck
      clear hb4 hout hlen hstuck
      dsimp only
      go_wp2_with fail
      go_ret2
      exact ⟨HB4.out, out, HOUT.out, .inr ⟨rfl, HLEN.out, HST.out⟩⟩
end Go.Proofs.YtaadhehcoegmhaaGreatDoor
/- Compile of a sheet without globals. -/
namespace Go.Proofs.YtaadhehcoegmhaaGreatDoor
open Go Go.RowKit

set_option maxRecDepth 100000 in
set_option maxHeartbeats 2000000 in
theorem size_none (w : World) : Calls Tryz.prog 41 #[.agg (sheet5 (.slice none 0 0))] w fun e w' => e = .returned (.int .i64 0) ∧ Below w.heap.size w w' := by
  obtain ⟨W, hW⟩ : ∃ W, W = (w.alloc (.cells #[.slice none 0 0, .slice none 0 0, .slice none 0 0, .int .i64 0, .bool false] 59)).alloc (.cells #[.int .i64 0, .int .i64 0, .bool false] 142) := ⟨_, rfl⟩
  have hb : Below w.heap.size w W := by rw [hW]; exact ((Below.refl _ _).alloc (Nat.le_refl _) _).alloc (by simp) _
  have HB := Lib.hid hb
  have hm : W.heap[w.heap.size + 1]? = some (.cells #[.int .i64 0, .int .i64 0, .bool false] 142 (0, 0)) := by rw [hW]; exact new_at _ _ (by simp)
  have hq : W.heap[w.heap.size]? = some (.cells #[.slice none 0 0, .slice none 0 0, .slice none 0 0, .int .i64 0, .bool false] 59 (0, 0)) := by rw [hW]; exact alloc_old _ (heap_alloc_new w _) rfl
  have m0 : W.cell? ⟨w.heap.size + 1, 0, none⟩ = some (.int .i64 0) := by rw [Lib.cell_of_heap hm]; rfl
  have m1 : W.cell? ⟨w.heap.size + 1, 1, none⟩ = some (.int .i64 0) := by rw [Lib.cell_of_heap hm]; rfl
  have m2 : W.cell? ⟨w.heap.size + 1, 2, none⟩ = some (.bool false) := by rw [Lib.cell_of_heap hm]; rfl
  have q0 : W.cell? ⟨w.heap.size, 0, none⟩ = some (.slice none 0 0) := by rw [Lib.cell_of_heap hq]; rfl
  have q1 : W.cell? ⟨w.heap.size, 1, none⟩ = some (.slice none 0 0) := by rw [Lib.cell_of_heap hq]; rfl
  clear hb hm hq
  go_enter Tryz.func41, Tryz.ntmps41
  go_wp2_with fail
  rw [← hW]
  clear hW
  refine Calls.mono (look_nil _ 1 _) ?_
  rintro e w1 ⟨rfl, rfl⟩
  dsimp only
  go_wp2_with fail
  go_loopw [19] (fun v wr => v = .int .i64 0 ∧ w1 = wr) (fun _ _ => 0)
  case atStart => exact ⟨rfl, rfl⟩
  case round =>
    obtain ⟨rfl, rfl⟩ := hrel
    go_wp2_with fail
    go_ret
    exact ⟨rfl, HB.out⟩

theorem copied_nil2 (w : World) : Calls Tryz.prog 102 #[.slice none 0 0] w fun e w' => e = .returned (.slice none 0 0) ∧ Below w.heap.size w w' := (copied_nil w).mono fun _ _ ⟨h1, h2⟩ => ⟨h1, h2 ▸ Below.refl _ _⟩

set_option maxRecDepth 100000 in
set_option maxHeartbeats 4000000 in
theorem sheet_none (w : World) :
    Calls Tryz.prog 42 #[.agg (sheet5 (.slice none 0 0))] w fun e w' => e = .returned (.agg (sheet5 (.slice none 0 0))) ∧ Below w.heap.size w w' := by
  obtain ⟨W, hW⟩ : ∃ W, W = (w.alloc (.cells (sheet5 (.slice none 0 0)) 59)).alloc (.cells (sheet5 (.slice none 0 0)) 59) := ⟨_, rfl⟩
  have hb : Below w.heap.size w W := by rw [hW]; exact ((Below.refl _ _).alloc (Nat.le_refl _) _).alloc (by simp) _
  have hq : W.heap[w.heap.size]? = some (.cells (sheet5 (.slice none 0 0)) 59 (0, 0)) := by rw [hW]; exact alloc_old _ (heap_alloc_new w _) rfl
  have hr : W.heap[w.heap.size + 1]? = some (.cells (sheet5 (.slice none 0 0)) 59 (0, 0)) := by rw [hW]; exact new_at _ _ (by simp)
  have hs : W.heap.size = w.heap.size + 2 := by rw [hW]; simp
  have q0 : W.cell? ⟨w.heap.size, 0, none⟩ = some (.slice none 0 0) := by rw [Lib.cell_of_heap hq]; rfl
  have q1 : W.cell? ⟨w.heap.size, 1, none⟩ = some (.slice none 0 0) := by rw [Lib.cell_of_heap hq]; rfl
  have q2 : W.cell? ⟨w.heap.size, 2, none⟩ = some (.slice none 0 0) := by rw [Lib.cell_of_heap hq]; rfl
  have z0 : W.frozen? ⟨w.heap.size, 0, none⟩ = false := by simp [World.frozen?, hq]
  have z1 : W.frozen? ⟨w.heap.size, 1, none⟩ = false := by simp [World.frozen?, hq]
  have z2 : W.frozen? ⟨w.heap.size, 2, none⟩ = false := by simp [World.frozen?, hq]
  have HQ := Lib.hid hq
  have HR := Lib.hid hr
  have HB := Lib.hid hb
  have HS := Lib.hid hs
  have HW := Lib.hid hW
  clear hq hr hb hs
  go_enter Tryz.func42, Tryz.ntmps42
  go_wp2_with fail
  rw [← hW]
  clear hW
  go_region_law (first
    | (go_simp; go_at_call 100; refine Calls.mono (cloneRules_nil _) ?_; rintro e w ⟨rfl, rfl⟩)
    | (go_simp; go_at_call 101; refine Calls.mono (cloneTexts_nil _) ?_; rintro e w ⟨rfl, rfl⟩)
    | (go_simp; go_at_call 102; refine Calls.mono (copied_nil2 _) ?_; rintro e w3 ⟨rfl, hb2⟩; have r0 := (hb2.cell (at_lt q0)).trans q0; have r1 := (hb2.cell (at_lt q1)).trans q1; have r2 := (hb2.cell (at_lt q2)).trans q2
       have y0 := (hb2.frozen (p := ⟨w.heap.size, 0, none⟩) (at_lt q0)).trans z0; have y1 := (hb2.frozen (p := ⟨w.heap.size, 1, none⟩) (at_lt q1)).trans z1; have y2 := (hb2.frozen (p := ⟨w.heap.size, 2, none⟩) (at_lt q2)).trans z2))
  all_goals
    have hbb : Below w.heap.size w w3 := by first | exact below_then HB.out.drew (by have := HS.out; simp; omega) hb2 | exact below_then HB.out (by have := HS.out; omega) hb2
    have hq3 : w3.heap[w.heap.size]? = some (.cells (sheet5 (.slice none 0 0)) 59 (0, 0)) := (hb2.block _ (Array.getElem?_eq_some_iff.1 HQ.out).1).trans HQ.out
    have hr3 : w3.heap[w.heap.size + 1]? = some (.cells (sheet5 (.slice none 0 0)) 59 (0, 0)) := (hb2.block _ (Array.getElem?_eq_some_iff.1 HR.out).1).trans HR.out
    have k := setCell_row (i := 1) (setCell_same (i := 2) (v := .slice none 0 0) (setCell_same (i := 0) (v := .slice none 0 0) hq3 rfl) rfl) (.slice none 0 0)
    have ho : ∀ k', k' ≠ w.heap.size → (((w3.setCell ⟨w.heap.size, 0, none⟩ (.slice none 0 0)).setCell ⟨w.heap.size, 2, none⟩ (.slice none 0 0)).setCell ⟨w.heap.size, 1, none⟩ (.slice none 0 0)).heap[k']? = w3.heap[k']? := fun k' hk => by
      rw [Below.heap_setCell _ _ _ _ hk, Below.heap_setCell _ _ _ _ hk, Below.heap_setCell _ _ _ _ hk]
    have hbX := ((hbb.setCell (p := ⟨w.heap.size, 0, none⟩) (Nat.le_refl _) (.slice none 0 0)).setCell (p := ⟨w.heap.size, 2, none⟩) (Nat.le_refl _) (.slice none 0 0)).setCell (p := ⟨w.heap.size, 1, none⟩) (Nat.le_refl _) (.slice none 0 0)
    have hsz : (((w3.setCell ⟨w.heap.size, 0, none⟩ (.slice none 0 0)).setCell ⟨w.heap.size, 2, none⟩ (.slice none 0 0)).setCell ⟨w.heap.size, 1, none⟩ (.slice none 0 0)).heap.size = w3.heap.size := by simp [World.setCell]
    generalize ((w3.setCell ⟨w.heap.size, 0, none⟩ (.slice none 0 0)).setCell ⟨w.heap.size, 2, none⟩ (.slice none 0 0)).setCell ⟨w.heap.size, 1, none⟩ (.slice none 0 0) = X at k ho hbX hsz ⊢
    have hX : X.heap[w.heap.size]? = some (.cells (sheet5 (.slice none 0 0)) 59 (0, 0)) := by rw [k]; rfl
    have hRX := (ho (w.heap.size + 1) (by omega)).trans hr3
    have x0 : X.cell? ⟨w.heap.size, 0, none⟩ = some (.slice none 0 0) := by rw [Lib.cell_of_heap hX]; rfl
    have x1 : X.cell? ⟨w.heap.size, 1, none⟩ = some (.slice none 0 0) := by rw [Lib.cell_of_heap hX]; rfl
    have x2 : X.cell? ⟨w.heap.size, 2, none⟩ = some (.slice none 0 0) := by rw [Lib.cell_of_heap hX]; rfl
    have x3 : X.cell? ⟨w.heap.size, 3, none⟩ = some (.int .i64 0) := by rw [Lib.cell_of_heap hX]; rfl
    have x4 : X.cell? ⟨w.heap.size, 4, none⟩ = some (.bool false) := by rw [Lib.cell_of_heap hX]; rfl
    have HRX := Lib.hid hRX
    have HBX := Lib.hid hbX
    clear k ho hX hRX hbX hbb hq3 hr3 hb2 r0 r1 r2 y0 y1 y2 q0 q1 q2 z0 z1 z2
    go_wp2_with fail
    go_loopw [19] (fun v wr => v = .int .i64 0 ∧ X = wr)
      (fun _ _ => 0)
    case atStart => exact ⟨rfl, rfl⟩
    case round =>
      obtain ⟨rfl, rfl⟩ := hrel
      go_wp2_with (refine wpList_store_row rfl 59 (.tmp 2) (.tmp 47) rfl (w.heap.size + 1) (sheet5 (.slice none 0 0)) rfl rfl 59 _ HRX.out (by kernel_rfl) rfl (by simp [Value.oneCell']) ?_)
      exact bodyPost_ret (results_cell_row Tryz.results42 _ _ (w.heap.size + 1) 59 _ (0, 0) _ rfl (setRow_heap _ _ _ _ 59 _ HRX.out) Tryz.underlying59 rfl (by kernel_rfl)) rfl ⟨rfl, below_setRow HBX.out (by omega)⟩
end Go.Proofs.YtaadhehcoegmhaaGreatDoor
/- Compile of a sheet without globals, whole. -/
namespace Go.Proofs.YtaadhehcoegmhaaGreatDoor
open Go Go.RowKit

set_option maxRecDepth 100000 in
set_option maxHeartbeats 2000000 in
theorem ordered_none (w : World) : Calls Tryz.prog 45 #[.slice none 0 0] w fun e w' => e = .returned (.tuple #[.slice none 0 0, .bool true]) ∧ Below w.heap.size w w' := by
  obtain ⟨W0, hW0⟩ : ∃ W, W = w.alloc (.map #[] 0) := ⟨_, rfl⟩
  have hb0 : Below w.heap.size w W0 := by rw [hW0]; exact (Below.refl _ _).alloc (Nat.le_refl _) _
  have hL0 : LeftAt w.heap.size [] W0 := ⟨#[], 0, by rw [hW0]; exact heap_alloc_new w _, trivial, by simp, by simp⟩
  have hlen := left_len hL0
  have HB0 := Lib.hid hb0
  clear hb0 hL0
  have hmk := run_makeMap_167
  go_enter Tryz.func45, Tryz.ntmps45
  go_wp2_with fail
  rw [← hW0]
  clear hW0
  go_loopw [17] (fun v wr => v = .int .i64 0 ∧ W0 = wr) (fun _ _ => 0)
  case atStart => exact ⟨rfl, rfl⟩
  case round =>
    obtain ⟨rfl, rfl⟩ := hrel
    go_wp2_with fail
    go_loopw [7] (fun v wr => v = .slice none 0 0 ∧ W0 = wr) (fun _ _ => 0)
    case atStart => exact ⟨rfl, rfl⟩
    case round =>
      obtain ⟨rfl, rfl⟩ := hrel
      go_wp2_with fail
      go_ret2
      exact ⟨rfl, HB0.out⟩

set_option maxRecDepth 100000 in
set_option maxHeartbeats 4000000 in
theorem compile_none (w : World) : Calls Tryz.prog 20 #[.agg (sheet5 (.slice none 0 0))] w fun e w' => ∃ pp, e = .returned (.tuple #[.pointer (some ⟨pp, 0, none⟩), .int .i64 0]) ∧ ProgAt pp [] w' ∧ Below w.heap.size w w' := by
  have hb : Below w.heap.size w (w.alloc (.cells (sheet5 (.slice none 0 0)) 59)) := (Below.refl _ _).alloc (Nat.le_refl _) _
  have hq := heap_alloc_new w (.cells (sheet5 (.slice none 0 0)) 59)
  go_enter Tryz.func20, Tryz.ntmps20
  go_wp2_with fail
  refine Calls.mono (size_none _) ?_
  rintro e w1 ⟨rfl, hb1⟩
  dsimp only
  have hbw1 := below_then hb hb.size hb1
  have hq1 := (hb1.block _ (by simp)).trans hq
  have q0 : w1.cell? ⟨w.heap.size, 0, none⟩ = some (.slice none 0 0) := by rw [Lib.cell_of_heap hq1]; rfl
  have q1 : w1.cell? ⟨w.heap.size, 1, none⟩ = some (.slice none 0 0) := by rw [Lib.cell_of_heap hq1]; rfl
  have q2 : w1.cell? ⟨w.heap.size, 2, none⟩ = some (.slice none 0 0) := by rw [Lib.cell_of_heap hq1]; rfl
  have q3 : w1.cell? ⟨w.heap.size, 3, none⟩ = some (.int .i64 0) := by rw [Lib.cell_of_heap hq1]; rfl
  have q4 : w1.cell? ⟨w.heap.size, 4, none⟩ = some (.bool false) := by rw [Lib.cell_of_heap hq1]; rfl
  have HB1 := Lib.hid hbw1
  clear hb hb1 hq hq1 hbw1
  go_wp2_with fail
  refine Calls.mono (sheet_none _) ?_
  rintro e w2 ⟨rfl, hb2⟩
  dsimp only
  have hbw2 := below_then HB1.out HB1.out.size hb2
  obtain ⟨W, hW⟩ : ∃ W, W = (w2.alloc (.map #[] 0)).alloc (.cells (prog8 (.slice none 0 0) (.map (some w2.heap.size)) (.slice none 0 0)) 98) := ⟨_, rfl⟩
  have hb2W : Below w2.heap.size w2 W := by rw [hW]; exact ((Below.refl _ _).alloc (Nat.le_refl _) _).alloc (by simp) _
  have hp : W.heap[w2.heap.size + 1]? = some (.cells (prog8 (.slice none 0 0) (.map (some w2.heap.size)) (.slice none 0 0)) 98 (0, 0)) := by rw [hW]; exact new_at _ _ (by simp)
  have hbW := below_then hbw2 hbw2.size hb2W
  have p0 : W.cell? ⟨w2.heap.size + 1, 0, none⟩ = some (.slice none 0 0) := by rw [Lib.cell_of_heap hp]; rfl
  have p1 : W.cell? ⟨w2.heap.size + 1, 1, none⟩ = some (.slice none 0 0) := by rw [Lib.cell_of_heap hp]; rfl
  have HP := Lib.hid hp
  have HBW := Lib.hid hbW
  have hws := hbw2.size
  clear hb2 hbw2 hb2W hp hbW q0 q1 q2 q3 q4
  have hmk := mk95
  go_wp2_with fail
  rw [← hW]
  clear hW
  go_loopw [31] (fun v wr => v = .int .i64 0 ∧ W = wr) (fun _ _ => 0)
  case atStart => exact ⟨rfl, rfl⟩
  case round =>
    obtain ⟨rfl, rfl⟩ := hrel
    go_wp2_with fail
    refine Calls.mono (instrs_nil _ _) ?_
    rintro e w3 ⟨rfl, hb3⟩
    dsimp only
    have hp3 := (hb3.block _ (Array.getElem?_eq_some_iff.1 HP.out).1).trans HP.out
    have p1' : w3.cell? ⟨w2.heap.size + 1, 1, none⟩ = some (.slice none 0 0) := by rw [Lib.cell_of_heap hp3]; rfl
    have HP3 := Lib.hid hp3
    have HB3 := Lib.hid (below_then HBW.out HBW.out.size hb3)
    clear hp3 hb3
    go_wp2_with fail
    refine Calls.mono (ordered_none _) ?_
    rintro e w4 ⟨rfl, hb4⟩
    have hp4 := (hb4.block _ (Array.getElem?_eq_some_iff.1 HP3.out).1).trans HP3.out
    have f7 : w4.frozen? ⟨w2.heap.size + 1, 7, none⟩ = false := by simp [World.frozen?, hp4]
    have p7 : w4.cell? ⟨w2.heap.size + 1, 7, none⟩ = some (.slice none 0 0) := by rw [Lib.cell_of_heap hp4]; rfl
    have HP4 := Lib.hid hp4
    have HB4 := Lib.hid (below_then HB3.out HB3.out.size hb4)
    clear hp4 hb4
    dsimp only
    go_wp2_with fail
    go_ret2
    exact ⟨w2.heap.size + 1, rfl, ⟨_, World.cell?_setCell_same _ _ _ (by rw [Lib.cell_of_heap HP4.out]; rfl), .inl ⟨rfl, rfl⟩⟩, below_setCell' HB4.out (by omega)⟩
end Go.Proofs.YtaadhehcoegmhaaGreatDoor
/- opOf: the operator of a text. -/
namespace Go.Proofs.YtaadhehcoegmhaaGreatDoor
open Go Go.RowKit

def opRows : List (ByteArray × Int) := [(⟨#[111, 114]⟩, 1), (⟨#[97, 110, 100]⟩, 2), (⟨#[61]⟩, 3), (⟨#[33, 61]⟩, 4), (⟨#[60]⟩, 5), (⟨#[60, 61]⟩, 6), (⟨#[62]⟩, 7), (⟨#[62, 61]⟩, 8), (⟨#[43]⟩, 9), (⟨#[45]⟩, 10), (⟨#[42]⟩, 11), (⟨#[100, 105, 118]⟩, 12), (⟨#[109, 111, 100]⟩, 13)]
def opV (s : ByteArray) : Int := (rowAt s opRows).getD 0

set_option maxRecDepth 100000 in
set_option maxHeartbeats 4000000 in
theorem opOf_any (s : ByteArray) (w : World) : Calls Tryz.prog 264 #[.string s] w fun e w' => e = .returned (.int .i64 (opV s)) ∧ Below w.heap.size w w' := by
  have hmm := @run_makeMap Tryz.prog
  have HM0 := Lib.hid (show (w.alloc (.map #[] 0)).heap[w.heap.size]? = some (.map #[] 0) from (MapKept.heap_alloc w _).1)
  have HG0 := Lib.hid ((Below.refl w.heap.size w).alloc (Nat.le_refl _) (.map #[] 0))
  have hge : w.heap.size ≤ w.heap.size := Nat.le_refl _
  go_enter Tryz.func264, Tryz.ntmps264
  go_wp2_with (first
    | (refine wpList_insert_new (w.alloc (.map #[] 0)) (R := fun v (x : Int) => v = .int .i64 x) (m := w.heap.size) (c := 0) (es := #[]) (rs := []) rfl (.tmp 3) (.const (.int .i64 1)) ⟨#[111, 114]⟩ rfl Tryz.underlying383 Tryz.underlying9 rfl HM0.out trivial rfl (.int .i64 1) rfl ?_
       intro w1 hm hg
       have HM1 := Lib.hid hm
       have HG1 := Lib.hid (HG0.out.grown hg HG0.out.size (fun k hk => by cases hk; exact hge))
       clear hm hg HM0)
    | (refine wpList_insert_new w1 (R := fun v (x : Int) => v = .int .i64 x) (m := w.heap.size) (c := 1) (es := #[⟨.string ⟨#[111, 114]⟩, .int .i64 1, 0⟩]) (rs := [(⟨#[111, 114]⟩, 1)]) rfl (.tmp 3) (.const (.int .i64 2)) ⟨#[97, 110, 100]⟩ rfl Tryz.underlying383 Tryz.underlying9 rfl HM1.out ⟨rfl, rfl, trivial⟩ rfl (.int .i64 2) rfl ?_
       intro w2 hm hg
       have HM2 := Lib.hid hm
       have HG2 := Lib.hid (HG1.out.grown hg HG1.out.size (fun k hk => by cases hk; exact hge))
       clear hm hg HM1)
    | (refine wpList_insert_new w2 (R := fun v (x : Int) => v = .int .i64 x) (m := w.heap.size) (c := 2) (es := #[⟨.string ⟨#[111, 114]⟩, .int .i64 1, 0⟩, ⟨.string ⟨#[97, 110, 100]⟩, .int .i64 2, 1⟩]) (rs := [(⟨#[111, 114]⟩, 1), (⟨#[97, 110, 100]⟩, 2)]) rfl (.tmp 3) (.const (.int .i64 3)) ⟨#[61]⟩ rfl Tryz.underlying383 Tryz.underlying9 rfl HM2.out ⟨rfl, rfl, rfl, rfl, trivial⟩ rfl (.int .i64 3) rfl ?_
       intro w3 hm hg
       have HM3 := Lib.hid hm
       have HG3 := Lib.hid (HG2.out.grown hg HG2.out.size (fun k hk => by cases hk; exact hge))
       clear hm hg HM2)
    | (refine wpList_insert_new w3 (R := fun v (x : Int) => v = .int .i64 x) (m := w.heap.size) (c := 3) (es := #[⟨.string ⟨#[111, 114]⟩, .int .i64 1, 0⟩, ⟨.string ⟨#[97, 110, 100]⟩, .int .i64 2, 1⟩, ⟨.string ⟨#[61]⟩, .int .i64 3, 2⟩]) (rs := [(⟨#[111, 114]⟩, 1), (⟨#[97, 110, 100]⟩, 2), (⟨#[61]⟩, 3)]) rfl (.tmp 3) (.const (.int .i64 4)) ⟨#[33, 61]⟩ rfl Tryz.underlying383 Tryz.underlying9 rfl HM3.out ⟨rfl, rfl, rfl, rfl, rfl, rfl, trivial⟩ rfl (.int .i64 4) rfl ?_
       intro w4 hm hg
       have HM4 := Lib.hid hm
       have HG4 := Lib.hid (HG3.out.grown hg HG3.out.size (fun k hk => by cases hk; exact hge))
       clear hm hg HM3)
    | (refine wpList_insert_new w4 (R := fun v (x : Int) => v = .int .i64 x) (m := w.heap.size) (c := 4) (es := #[⟨.string ⟨#[111, 114]⟩, .int .i64 1, 0⟩, ⟨.string ⟨#[97, 110, 100]⟩, .int .i64 2, 1⟩, ⟨.string ⟨#[61]⟩, .int .i64 3, 2⟩, ⟨.string ⟨#[33, 61]⟩, .int .i64 4, 3⟩]) (rs := [(⟨#[111, 114]⟩, 1), (⟨#[97, 110, 100]⟩, 2), (⟨#[61]⟩, 3), (⟨#[33, 61]⟩, 4)]) rfl (.tmp 3) (.const (.int .i64 5)) ⟨#[60]⟩ rfl Tryz.underlying383 Tryz.underlying9 rfl HM4.out ⟨rfl, rfl, rfl, rfl, rfl, rfl, rfl, rfl, trivial⟩ rfl (.int .i64 5) rfl ?_
       intro w5 hm hg
       have HM5 := Lib.hid hm
       have HG5 := Lib.hid (HG4.out.grown hg HG4.out.size (fun k hk => by cases hk; exact hge))
       clear hm hg HM4)
    | (refine wpList_insert_new w5 (R := fun v (x : Int) => v = .int .i64 x) (m := w.heap.size) (c := 5) (es := #[⟨.string ⟨#[111, 114]⟩, .int .i64 1, 0⟩, ⟨.string ⟨#[97, 110, 100]⟩, .int .i64 2, 1⟩, ⟨.string ⟨#[61]⟩, .int .i64 3, 2⟩, ⟨.string ⟨#[33, 61]⟩, .int .i64 4, 3⟩, ⟨.string ⟨#[60]⟩, .int .i64 5, 4⟩]) (rs := [(⟨#[111, 114]⟩, 1), (⟨#[97, 110, 100]⟩, 2), (⟨#[61]⟩, 3), (⟨#[33, 61]⟩, 4), (⟨#[60]⟩, 5)]) rfl (.tmp 3) (.const (.int .i64 6)) ⟨#[60, 61]⟩ rfl Tryz.underlying383 Tryz.underlying9 rfl HM5.out ⟨rfl, rfl, rfl, rfl, rfl, rfl, rfl, rfl, rfl, rfl, trivial⟩ rfl (.int .i64 6) rfl ?_
       intro w6 hm hg
       have HM6 := Lib.hid hm
       have HG6 := Lib.hid (HG5.out.grown hg HG5.out.size (fun k hk => by cases hk; exact hge))
       clear hm hg HM5)
    | (refine wpList_insert_new w6 (R := fun v (x : Int) => v = .int .i64 x) (m := w.heap.size) (c := 6) (es := #[⟨.string ⟨#[111, 114]⟩, .int .i64 1, 0⟩, ⟨.string ⟨#[97, 110, 100]⟩, .int .i64 2, 1⟩, ⟨.string ⟨#[61]⟩, .int .i64 3, 2⟩, ⟨.string ⟨#[33, 61]⟩, .int .i64 4, 3⟩, ⟨.string ⟨#[60]⟩, .int .i64 5, 4⟩, ⟨.string ⟨#[60, 61]⟩, .int .i64 6, 5⟩]) (rs := [(⟨#[111, 114]⟩, 1), (⟨#[97, 110, 100]⟩, 2), (⟨#[61]⟩, 3), (⟨#[33, 61]⟩, 4), (⟨#[60]⟩, 5), (⟨#[60, 61]⟩, 6)]) rfl (.tmp 3) (.const (.int .i64 7)) ⟨#[62]⟩ rfl Tryz.underlying383 Tryz.underlying9 rfl HM6.out ⟨rfl, rfl, rfl, rfl, rfl, rfl, rfl, rfl, rfl, rfl, rfl, rfl, trivial⟩ rfl (.int .i64 7) rfl ?_
       intro w7 hm hg
       have HM7 := Lib.hid hm
       have HG7 := Lib.hid (HG6.out.grown hg HG6.out.size (fun k hk => by cases hk; exact hge))
       clear hm hg HM6)
    | (refine wpList_insert_new w7 (R := fun v (x : Int) => v = .int .i64 x) (m := w.heap.size) (c := 7) (es := #[⟨.string ⟨#[111, 114]⟩, .int .i64 1, 0⟩, ⟨.string ⟨#[97, 110, 100]⟩, .int .i64 2, 1⟩, ⟨.string ⟨#[61]⟩, .int .i64 3, 2⟩, ⟨.string ⟨#[33, 61]⟩, .int .i64 4, 3⟩, ⟨.string ⟨#[60]⟩, .int .i64 5, 4⟩, ⟨.string ⟨#[60, 61]⟩, .int .i64 6, 5⟩, ⟨.string ⟨#[62]⟩, .int .i64 7, 6⟩]) (rs := [(⟨#[111, 114]⟩, 1), (⟨#[97, 110, 100]⟩, 2), (⟨#[61]⟩, 3), (⟨#[33, 61]⟩, 4), (⟨#[60]⟩, 5), (⟨#[60, 61]⟩, 6), (⟨#[62]⟩, 7)]) rfl (.tmp 3) (.const (.int .i64 8)) ⟨#[62, 61]⟩ rfl Tryz.underlying383 Tryz.underlying9 rfl HM7.out ⟨rfl, rfl, rfl, rfl, rfl, rfl, rfl, rfl, rfl, rfl, rfl, rfl, rfl, rfl, trivial⟩ rfl (.int .i64 8) rfl ?_
       intro w8 hm hg
       have HM8 := Lib.hid hm
       have HG8 := Lib.hid (HG7.out.grown hg HG7.out.size (fun k hk => by cases hk; exact hge))
       clear hm hg HM7)
    | (refine wpList_insert_new w8 (R := fun v (x : Int) => v = .int .i64 x) (m := w.heap.size) (c := 8) (es := #[⟨.string ⟨#[111, 114]⟩, .int .i64 1, 0⟩, ⟨.string ⟨#[97, 110, 100]⟩, .int .i64 2, 1⟩, ⟨.string ⟨#[61]⟩, .int .i64 3, 2⟩, ⟨.string ⟨#[33, 61]⟩, .int .i64 4, 3⟩, ⟨.string ⟨#[60]⟩, .int .i64 5, 4⟩, ⟨.string ⟨#[60, 61]⟩, .int .i64 6, 5⟩, ⟨.string ⟨#[62]⟩, .int .i64 7, 6⟩, ⟨.string ⟨#[62, 61]⟩, .int .i64 8, 7⟩]) (rs := [(⟨#[111, 114]⟩, 1), (⟨#[97, 110, 100]⟩, 2), (⟨#[61]⟩, 3), (⟨#[33, 61]⟩, 4), (⟨#[60]⟩, 5), (⟨#[60, 61]⟩, 6), (⟨#[62]⟩, 7), (⟨#[62, 61]⟩, 8)]) rfl (.tmp 3) (.const (.int .i64 9)) ⟨#[43]⟩ rfl Tryz.underlying383 Tryz.underlying9 rfl HM8.out ⟨rfl, rfl, rfl, rfl, rfl, rfl, rfl, rfl, rfl, rfl, rfl, rfl, rfl, rfl, rfl, rfl, trivial⟩ rfl (.int .i64 9) rfl ?_
       intro w9 hm hg
       have HM9 := Lib.hid hm
       have HG9 := Lib.hid (HG8.out.grown hg HG8.out.size (fun k hk => by cases hk; exact hge))
       clear hm hg HM8)
    | (refine wpList_insert_new w9 (R := fun v (x : Int) => v = .int .i64 x) (m := w.heap.size) (c := 9) (es := #[⟨.string ⟨#[111, 114]⟩, .int .i64 1, 0⟩, ⟨.string ⟨#[97, 110, 100]⟩, .int .i64 2, 1⟩, ⟨.string ⟨#[61]⟩, .int .i64 3, 2⟩, ⟨.string ⟨#[33, 61]⟩, .int .i64 4, 3⟩, ⟨.string ⟨#[60]⟩, .int .i64 5, 4⟩, ⟨.string ⟨#[60, 61]⟩, .int .i64 6, 5⟩, ⟨.string ⟨#[62]⟩, .int .i64 7, 6⟩, ⟨.string ⟨#[62, 61]⟩, .int .i64 8, 7⟩, ⟨.string ⟨#[43]⟩, .int .i64 9, 8⟩]) (rs := [(⟨#[111, 114]⟩, 1), (⟨#[97, 110, 100]⟩, 2), (⟨#[61]⟩, 3), (⟨#[33, 61]⟩, 4), (⟨#[60]⟩, 5), (⟨#[60, 61]⟩, 6), (⟨#[62]⟩, 7), (⟨#[62, 61]⟩, 8), (⟨#[43]⟩, 9)]) rfl (.tmp 3) (.const (.int .i64 10)) ⟨#[45]⟩ rfl Tryz.underlying383 Tryz.underlying9 rfl HM9.out ⟨rfl, rfl, rfl, rfl, rfl, rfl, rfl, rfl, rfl, rfl, rfl, rfl, rfl, rfl, rfl, rfl, rfl, rfl, trivial⟩ rfl (.int .i64 10) rfl ?_
       intro w10 hm hg
       have HM10 := Lib.hid hm
       have HG10 := Lib.hid (HG9.out.grown hg HG9.out.size (fun k hk => by cases hk; exact hge))
       clear hm hg HM9)
    | (refine wpList_insert_new w10 (R := fun v (x : Int) => v = .int .i64 x) (m := w.heap.size) (c := 10) (es := #[⟨.string ⟨#[111, 114]⟩, .int .i64 1, 0⟩, ⟨.string ⟨#[97, 110, 100]⟩, .int .i64 2, 1⟩, ⟨.string ⟨#[61]⟩, .int .i64 3, 2⟩, ⟨.string ⟨#[33, 61]⟩, .int .i64 4, 3⟩, ⟨.string ⟨#[60]⟩, .int .i64 5, 4⟩, ⟨.string ⟨#[60, 61]⟩, .int .i64 6, 5⟩, ⟨.string ⟨#[62]⟩, .int .i64 7, 6⟩, ⟨.string ⟨#[62, 61]⟩, .int .i64 8, 7⟩, ⟨.string ⟨#[43]⟩, .int .i64 9, 8⟩, ⟨.string ⟨#[45]⟩, .int .i64 10, 9⟩]) (rs := [(⟨#[111, 114]⟩, 1), (⟨#[97, 110, 100]⟩, 2), (⟨#[61]⟩, 3), (⟨#[33, 61]⟩, 4), (⟨#[60]⟩, 5), (⟨#[60, 61]⟩, 6), (⟨#[62]⟩, 7), (⟨#[62, 61]⟩, 8), (⟨#[43]⟩, 9), (⟨#[45]⟩, 10)]) rfl (.tmp 3) (.const (.int .i64 11)) ⟨#[42]⟩ rfl Tryz.underlying383 Tryz.underlying9 rfl HM10.out ⟨rfl, rfl, rfl, rfl, rfl, rfl, rfl, rfl, rfl, rfl, rfl, rfl, rfl, rfl, rfl, rfl, rfl, rfl, rfl, rfl, trivial⟩ rfl (.int .i64 11) rfl ?_
       intro w11 hm hg
       have HM11 := Lib.hid hm
       have HG11 := Lib.hid (HG10.out.grown hg HG10.out.size (fun k hk => by cases hk; exact hge))
       clear hm hg HM10)
    | (refine wpList_insert_new w11 (R := fun v (x : Int) => v = .int .i64 x) (m := w.heap.size) (c := 11) (es := #[⟨.string ⟨#[111, 114]⟩, .int .i64 1, 0⟩, ⟨.string ⟨#[97, 110, 100]⟩, .int .i64 2, 1⟩, ⟨.string ⟨#[61]⟩, .int .i64 3, 2⟩, ⟨.string ⟨#[33, 61]⟩, .int .i64 4, 3⟩, ⟨.string ⟨#[60]⟩, .int .i64 5, 4⟩, ⟨.string ⟨#[60, 61]⟩, .int .i64 6, 5⟩, ⟨.string ⟨#[62]⟩, .int .i64 7, 6⟩, ⟨.string ⟨#[62, 61]⟩, .int .i64 8, 7⟩, ⟨.string ⟨#[43]⟩, .int .i64 9, 8⟩, ⟨.string ⟨#[45]⟩, .int .i64 10, 9⟩, ⟨.string ⟨#[42]⟩, .int .i64 11, 10⟩]) (rs := [(⟨#[111, 114]⟩, 1), (⟨#[97, 110, 100]⟩, 2), (⟨#[61]⟩, 3), (⟨#[33, 61]⟩, 4), (⟨#[60]⟩, 5), (⟨#[60, 61]⟩, 6), (⟨#[62]⟩, 7), (⟨#[62, 61]⟩, 8), (⟨#[43]⟩, 9), (⟨#[45]⟩, 10), (⟨#[42]⟩, 11)]) rfl (.tmp 3) (.const (.int .i64 12)) ⟨#[100, 105, 118]⟩ rfl Tryz.underlying383 Tryz.underlying9 rfl HM11.out ⟨rfl, rfl, rfl, rfl, rfl, rfl, rfl, rfl, rfl, rfl, rfl, rfl, rfl, rfl, rfl, rfl, rfl, rfl, rfl, rfl, rfl, rfl, trivial⟩ rfl (.int .i64 12) rfl ?_
       intro w12 hm hg
       have HM12 := Lib.hid hm
       have HG12 := Lib.hid (HG11.out.grown hg HG11.out.size (fun k hk => by cases hk; exact hge))
       clear hm hg HM11)
    | (refine wpList_insert_new w12 (R := fun v (x : Int) => v = .int .i64 x) (m := w.heap.size) (c := 12) (es := #[⟨.string ⟨#[111, 114]⟩, .int .i64 1, 0⟩, ⟨.string ⟨#[97, 110, 100]⟩, .int .i64 2, 1⟩, ⟨.string ⟨#[61]⟩, .int .i64 3, 2⟩, ⟨.string ⟨#[33, 61]⟩, .int .i64 4, 3⟩, ⟨.string ⟨#[60]⟩, .int .i64 5, 4⟩, ⟨.string ⟨#[60, 61]⟩, .int .i64 6, 5⟩, ⟨.string ⟨#[62]⟩, .int .i64 7, 6⟩, ⟨.string ⟨#[62, 61]⟩, .int .i64 8, 7⟩, ⟨.string ⟨#[43]⟩, .int .i64 9, 8⟩, ⟨.string ⟨#[45]⟩, .int .i64 10, 9⟩, ⟨.string ⟨#[42]⟩, .int .i64 11, 10⟩, ⟨.string ⟨#[100, 105, 118]⟩, .int .i64 12, 11⟩]) (rs := [(⟨#[111, 114]⟩, 1), (⟨#[97, 110, 100]⟩, 2), (⟨#[61]⟩, 3), (⟨#[33, 61]⟩, 4), (⟨#[60]⟩, 5), (⟨#[60, 61]⟩, 6), (⟨#[62]⟩, 7), (⟨#[62, 61]⟩, 8), (⟨#[43]⟩, 9), (⟨#[45]⟩, 10), (⟨#[42]⟩, 11), (⟨#[100, 105, 118]⟩, 12)]) rfl (.tmp 3) (.const (.int .i64 13)) ⟨#[109, 111, 100]⟩ rfl Tryz.underlying383 Tryz.underlying9 rfl HM12.out ⟨rfl, rfl, rfl, rfl, rfl, rfl, rfl, rfl, rfl, rfl, rfl, rfl, rfl, rfl, rfl, rfl, rfl, rfl, rfl, rfl, rfl, rfl, rfl, rfl, trivial⟩ rfl (.int .i64 13) rfl ?_
       intro w13 hm hg
       have HM13 := Lib.hid hm
       have HG13 := Lib.hid (HG12.out.grown hg HG12.out.size (fun k hk => by cases hk; exact hge))
       clear hm hg HM12)
    | (refine wpList_lookup_rows (R := fun v (x : Int) => v = .int .i64 x) (m := w.heap.size) (rs := opRows) rfl (.tmp 4) (.tmp 5) false rfl Tryz.underlying383 Tryz.underlying9 HM13.out ⟨rfl, rfl, rfl, rfl, rfl, rfl, rfl, rfl, rfl, rfl, rfl, rfl, rfl, rfl, rfl, rfl, rfl, rfl, rfl, rfl, rfl, rfl, rfl, rfl, rfl, rfl, trivial⟩ (Tryz.zeroValue150 _) s rfl rfl (fun h0 => ?_) (fun v x hx hv => ?_)))
  · have he : opV s = 0 := by unfold opV; rw [h0]; rfl
    rw [he]
    clear he h0
    go_wp2_with fail
    go_ret
    exact ⟨rfl, HG13.out⟩
  · have he : opV s = x := by unfold opV; rw [hx]; rfl
    subst hv
    rw [he]
    clear he hx
    go_wp2_with fail
    go_ret
    exact ⟨rfl, HG13.out⟩
theorem opV_plus : opV (bs [43]) = 9 := by decide
end Go.Proofs.YtaadhehcoegmhaaGreatDoor
/-
  Laid by the kit's programs (lay-iter.mjs, lay-plain.mjs) at this program: slices.Sorted(maps.Keys(m)) and strconv.ParseUint: a starting text.
-/
namespace Go.Proofs
open Go.Shelf
def Tryz.keys219_ren : Go.Shelf.Ren := ⟨fun | 7 => 219 | 10 => 282 | n => n, fun | 23 => 168 | 26 => 9 | 3 => 4 | 28 => 241 | 0 => 0 | 27 => 240 | 33 => 37 | 4 => 4 | n => n, fun | n => n⟩
theorem Tryz.keys219 : Go.Proofs.SlLaysZ.n7 Tryz.prog Tryz.keys219_ren := {
  mixed := by kernel_rfl
  f7 := ⟨Tryz.f219.name, by decide, Tryz.func219.trans (congrArg some (by kernel_rfl))⟩
  f10 := ⟨Tryz.f282.name, by decide, Tryz.func282.trans (congrArg some (by kernel_rfl))⟩
  t0 := Tryz.underlying0
  a0 := Tryz.isAgg0
  z0 := Tryz.sizeOf0
  v0 := Tryz.zeroValue0
  t4 := Tryz.underlying4
  a4 := Tryz.isAgg4
  z4 := Tryz.sizeOf4
  v4 := Tryz.zeroValue4
  t23 := Tryz.underlying168
  a23 := Tryz.isAgg168
  z23 := Tryz.sizeOf168
  v23 := Tryz.zeroValue168
  t26 := Tryz.underlying9
  a26 := Tryz.isAgg9
  z26 := Tryz.sizeOf9
  v26 := Tryz.zeroValue9
  t27 := Tryz.underlying240
  a27 := Tryz.isAgg240
  z27 := Tryz.sizeOf240
  v27 := Tryz.zeroValue240
  t28 := Tryz.underlying241
  a28 := Tryz.isAgg241
  z28 := Tryz.sizeOf241
  v28 := Tryz.zeroValue241
  t33 := Tryz.underlying37
  a33 := Tryz.isAgg37
  z33 := Tryz.sizeOf37
  v33 := Tryz.zeroValue37 }
def Tryz.sorted218_ren : Go.Shelf.Ren := ⟨fun | 6 => 218 | 8 => 280 | 9 => 281 | 11 => 319 | 13 => 98 | 12 => 320 | 23 => 154 | 24 => 155 | 14 => 344 | 15 => 345 | 16 => 346 | 17 => 347 | 18 => 348 | 19 => 349 | 20 => 350 | 21 => 351 | 22 => 352 | 25 => 363 | 26 => 202 | 27 => 203 | 28 => 364 | 29 => 365 | 30 => 366 | 31 => 373 | n => n, fun | 26 => 9 | 28 => 241 | 24 => 56 | 0 => 0 | 3 => 3 | 37 => 139 | 48 => 218 | 50 => 205 | 4 => 4 | 40 => 211 | 39 => 210 | 45 => 72 | 5 => 5 | 9 => 9 | 51 => 286 | 55 => 290 | 57 => 333 | 58 => 334 | 33 => 37 | n => n, fun | n => n⟩
theorem Tryz.sorted218 : Go.Proofs.SlLaysZ.n6 Tryz.prog Tryz.sorted218_ren := {
  mixed := by kernel_rfl
  f6 := ⟨Tryz.f218.name, by decide, Tryz.func218.trans (congrArg some (by kernel_rfl))⟩
  f8 := ⟨Tryz.f280.name, by decide, Tryz.func280.trans (congrArg some (by kernel_rfl))⟩
  f11 := ⟨Tryz.f319.name, by decide, Tryz.func319.trans (congrArg some (by kernel_rfl))⟩
  t0 := Tryz.underlying0
  a0 := Tryz.isAgg0
  z0 := Tryz.sizeOf0
  v0 := Tryz.zeroValue0
  t24 := Tryz.underlying56
  a24 := Tryz.isAgg56
  z24 := Tryz.sizeOf56
  v24 := Tryz.zeroValue56
  t26 := Tryz.underlying9
  a26 := Tryz.isAgg9
  z26 := Tryz.sizeOf9
  v26 := Tryz.zeroValue9
  t28 := Tryz.underlying241
  a28 := Tryz.isAgg241
  z28 := Tryz.sizeOf241
  v28 := Tryz.zeroValue241
  i26 := by kernel_rfl }
def Tryz.sort281_ren : Go.Shelf.Ren := ⟨fun | 6 => 281 | 8 => 98 | 9 => 320 | 19 => 154 | 20 => 155 | 21 => 344 | 22 => 345 | 23 => 346 | 24 => 347 | 25 => 348 | 26 => 349 | 27 => 350 | 28 => 351 | 29 => 352 | 36 => 363 | 31 => 202 | 32 => 203 | 37 => 364 | 38 => 365 | 39 => 366 | 41 => 373 | n => n, fun | 27 => 56 | 29 => 9 | 3 => 3 | 32 => 139 | 26 => 56 | 0 => 0 | 44 => 218 | 46 => 205 | 4 => 4 | 36 => 211 | 35 => 210 | 41 => 72 | 5 => 5 | 9 => 9 | 53 => 286 | 57 => 290 | 63 => 333 | 64 => 334 | n => n, fun | n => n⟩
theorem Tryz.sort281 : Go.Proofs.SlLaysM.n6 Tryz.prog Tryz.sort281_ren := {
  mixed := by kernel_rfl
  f6 := ⟨Tryz.f281.name, by decide, Tryz.func281.trans (congrArg some (by kernel_rfl))⟩
  f8 := Tryz.func98.trans (congrArg some (by kernel_rfl))
  f9 := ⟨Tryz.f320.name, by decide, Tryz.func320.trans (congrArg some (by kernel_rfl))⟩
  f19 := Tryz.func154.trans (congrArg some (by kernel_rfl))
  f20 := Tryz.func155.trans (congrArg some (by kernel_rfl))
  f21 := ⟨Tryz.f344.name, by decide, Tryz.func344.trans (congrArg some (by kernel_rfl))⟩
  f22 := ⟨Tryz.f345.name, by decide, Tryz.func345.trans (congrArg some (by kernel_rfl))⟩
  f23 := ⟨Tryz.f346.name, by decide, Tryz.func346.trans (congrArg some (by kernel_rfl))⟩
  f24 := ⟨Tryz.f347.name, by decide, Tryz.func347.trans (congrArg some (by kernel_rfl))⟩
  f25 := ⟨Tryz.f348.name, by decide, Tryz.func348.trans (congrArg some (by kernel_rfl))⟩
  f26 := ⟨Tryz.f349.name, by decide, Tryz.func349.trans (congrArg some (by kernel_rfl))⟩
  f27 := ⟨Tryz.f350.name, by decide, Tryz.func350.trans (congrArg some (by kernel_rfl))⟩
  f28 := ⟨Tryz.f351.name, by decide, Tryz.func351.trans (congrArg some (by kernel_rfl))⟩
  f29 := ⟨Tryz.f352.name, by decide, Tryz.func352.trans (congrArg some (by kernel_rfl))⟩
  f31 := Tryz.func202.trans (congrArg some (by kernel_rfl))
  f32 := Tryz.func203.trans (congrArg some (by kernel_rfl))
  f36 := ⟨Tryz.f363.name, by decide, Tryz.func363.trans (congrArg some (by kernel_rfl))⟩
  f37 := ⟨Tryz.f364.name, by decide, Tryz.func364.trans (congrArg some (by kernel_rfl))⟩
  f38 := ⟨Tryz.f365.name, by decide, Tryz.func365.trans (congrArg some (by kernel_rfl))⟩
  f39 := ⟨Tryz.f366.name, by decide, Tryz.func366.trans (congrArg some (by kernel_rfl))⟩
  f41 := ⟨Tryz.f373.name, by decide, Tryz.func373.trans (congrArg some (by kernel_rfl))⟩
  t0 := Tryz.underlying0
  a0 := Tryz.isAgg0
  z0 := Tryz.sizeOf0
  v0 := Tryz.zeroValue0
  t3 := Tryz.underlying3
  a3 := Tryz.isAgg3
  z3 := Tryz.sizeOf3
  v3 := Tryz.zeroValue3
  t4 := Tryz.underlying4
  a4 := Tryz.isAgg4
  z4 := Tryz.sizeOf4
  v4 := Tryz.zeroValue4
  t5 := Tryz.underlying5
  a5 := Tryz.isAgg5
  z5 := Tryz.sizeOf5
  v5 := Tryz.zeroValue5
  t9 := Tryz.underlying9
  a9 := Tryz.isAgg9
  z9 := Tryz.sizeOf9
  v9 := Tryz.zeroValue9
  t26 := Tryz.underlying56
  a26 := Tryz.isAgg56
  z26 := Tryz.sizeOf56
  v26 := Tryz.zeroValue56
  t27 := Tryz.underlying56
  a27 := Tryz.isAgg56
  z27 := Tryz.sizeOf56
  v27 := Tryz.zeroValue56
  t29 := Tryz.underlying9
  a29 := Tryz.isAgg9
  z29 := Tryz.sizeOf9
  v29 := Tryz.zeroValue9
  t32 := Tryz.underlying139
  a32 := Tryz.isAgg139
  z32 := Tryz.sizeOf139
  v32 := Tryz.zeroValue139
  t35 := Tryz.underlying210
  a35 := Tryz.isAgg210
  z35 := Tryz.sizeOf210
  v35 := Tryz.zeroValue210
  t36 := Tryz.underlying211
  a36 := Tryz.isAgg211
  z36 := Tryz.sizeOf211
  v36 := Tryz.zeroValue211
  t41 := Tryz.underlying72
  a41 := Tryz.isAgg72
  z41 := Tryz.sizeOf72
  v41 := Tryz.zeroValue72
  t44 := Tryz.underlying218
  a44 := Tryz.isAgg218
  z44 := Tryz.sizeOf218
  v44 := Tryz.zeroValue218
  t46 := Tryz.underlying205
  a46 := Tryz.isAgg205
  z46 := Tryz.sizeOf205
  v46 := Tryz.zeroValue205
  t53 := Tryz.underlying286
  a53 := Tryz.isAgg286
  z53 := Tryz.sizeOf286
  v53 := Tryz.zeroValue286
  t57 := Tryz.underlying290
  a57 := Tryz.isAgg290
  z57 := Tryz.sizeOf290
  v57 := Tryz.zeroValue290
  t63 := Tryz.underlying333
  a63 := Tryz.isAgg333
  z63 := Tryz.sizeOf333
  v63 := Tryz.zeroValue333
  t64 := Tryz.underlying334
  a64 := Tryz.isAgg334
  z64 := Tryz.sizeOf334
  v64 := Tryz.zeroValue334 }
def Tryz.laysPu14_ren : Go.Shelf.Ren := ⟨fun | 14 => 174 | 16 => 232 | 17 => 233 | 19 => 286 | 20 => 287 | 21 => 288 | 22 => 289 | 23 => 290 | 24 => 291 | 25 => 323 | 27 => 325 | 26 => 324 | 28 => 356 | 29 => 370 | 30 => 295 | 31 => 296 | 32 => 297 | 33 => 298 | 35 => 155 | 34 => 326 | 36 => 327 | 37 => 328 | 38 => 329 | 39 => 357 | 40 => 358 | n => n, fun | 9 => 9 | 3 => 3 | 22 => 205 | 24 => 194 | 25 => 251 | 4 => 4 | 34 => 366 | 5 => 5 | 36 => 139 | 37 => 42 | 0 => 0 | 39 => 368 | 21 => 21 | 44 => 396 | 47 => 269 | 50 => 417 | 48 => 415 | 2 => 2 | 52 => 374 | 55 => 376 | 59 => 399 | 60 => 218 | 20 => 20 | 61 => 400 | 65 => 429 | 66 => 430 | 67 => 197 | n => n, fun | 0 => 3 | 1 => 4 | 2 => 5 | 3 => 11 | 4 => 12 | n => n⟩
theorem Tryz.laysPu14 : Go.Proofs.LaysPu.n14 Tryz.prog Tryz.laysPu14_ren := {
  mixed := by kernel_rfl
  f14 := Tryz.func174.trans (congrArg some (by kernel_rfl))
  f16 := Tryz.func232.trans (congrArg some (by kernel_rfl))
  f17 := Tryz.func233.trans (congrArg some (by kernel_rfl))
  f19 := Tryz.func286.trans (congrArg some (by kernel_rfl))
  f20 := Tryz.func287.trans (congrArg some (by kernel_rfl))
  f21 := Tryz.func288.trans (congrArg some (by kernel_rfl))
  f22 := Tryz.func289.trans (congrArg some (by kernel_rfl))
  f23 := Tryz.func290.trans (congrArg some (by kernel_rfl))
  f24 := Tryz.func291.trans (congrArg some (by kernel_rfl))
  f25 := Tryz.func323.trans (congrArg some (by kernel_rfl))
  f26 := Tryz.func324.trans (congrArg some (by kernel_rfl))
  f27 := Tryz.func325.trans (congrArg some (by kernel_rfl))
  f28 := Tryz.func356.trans (congrArg some (by kernel_rfl))
  f29 := Tryz.func370.trans (congrArg some (by kernel_rfl))
  f30 := Tryz.func295.trans (congrArg some (by kernel_rfl))
  f31 := Tryz.func296.trans (congrArg some (by kernel_rfl))
  f32 := Tryz.func297.trans (congrArg some (by kernel_rfl))
  f33 := Tryz.func298.trans (congrArg some (by kernel_rfl))
  f34 := Tryz.func326.trans (congrArg some (by kernel_rfl))
  f35 := Tryz.func155.trans (congrArg some (by kernel_rfl))
  f36 := Tryz.func327.trans (congrArg some (by kernel_rfl))
  f37 := Tryz.func328.trans (congrArg some (by kernel_rfl))
  f38 := Tryz.func329.trans (congrArg some (by kernel_rfl))
  f39 := Tryz.func357.trans (congrArg some (by kernel_rfl))
  f40 := Tryz.func358.trans (congrArg some (by kernel_rfl))
  t0 := Tryz.underlying0
  a0 := Tryz.isAgg0
  z0 := Tryz.sizeOf0
  v0 := Tryz.zeroValue0
  i0 := by kernel_rfl
  t2 := Tryz.underlying2
  a2 := Tryz.isAgg2
  z2 := Tryz.sizeOf2
  v2 := Tryz.zeroValue2
  i2 := by kernel_rfl
  t3 := Tryz.underlying3
  a3 := Tryz.isAgg3
  z3 := Tryz.sizeOf3
  v3 := Tryz.zeroValue3
  i3 := by kernel_rfl
  t4 := Tryz.underlying4
  a4 := Tryz.isAgg4
  z4 := Tryz.sizeOf4
  v4 := Tryz.zeroValue4
  i4 := by kernel_rfl
  t5 := Tryz.underlying5
  a5 := Tryz.isAgg5
  z5 := Tryz.sizeOf5
  v5 := Tryz.zeroValue5
  i5 := by kernel_rfl
  t9 := Tryz.underlying9
  a9 := Tryz.isAgg9
  z9 := Tryz.sizeOf9
  v9 := Tryz.zeroValue9
  i9 := by kernel_rfl
  t20 := Tryz.underlying20
  a20 := Tryz.isAgg20
  z20 := Tryz.sizeOf20
  v20 := Tryz.zeroValue20
  i20 := by kernel_rfl
  t21 := Tryz.underlying21
  a21 := Tryz.isAgg21
  z21 := Tryz.sizeOf21
  v21 := Tryz.zeroValue21
  i21 := by kernel_rfl
  t22 := Tryz.underlying205
  a22 := Tryz.isAgg205
  z22 := Tryz.sizeOf205
  v22 := Tryz.zeroValue205
  i22 := by kernel_rfl
  t24 := Tryz.underlying194
  a24 := Tryz.isAgg194
  z24 := Tryz.sizeOf194
  v24 := Tryz.zeroValue194
  i24 := by kernel_rfl
  t25 := Tryz.underlying251
  a25 := Tryz.isAgg251
  z25 := Tryz.sizeOf251
  v25 := Tryz.zeroValue251
  i25 := by kernel_rfl
  t34 := Tryz.underlying366
  a34 := Tryz.isAgg366
  z34 := Tryz.sizeOf366
  v34 := Tryz.zeroValue366
  i34 := by kernel_rfl
  c34 := by kernel_rfl
  t36 := Tryz.underlying139
  a36 := Tryz.isAgg139
  z36 := Tryz.sizeOf139
  v36 := Tryz.zeroValue139
  i36 := by kernel_rfl
  t37 := Tryz.underlying42
  a37 := Tryz.isAgg42
  z37 := Tryz.sizeOf42
  v37 := Tryz.zeroValue42
  i37 := by kernel_rfl
  t39 := Tryz.underlying368
  a39 := Tryz.isAgg368
  z39 := Tryz.sizeOf368
  v39 := Tryz.zeroValue368
  i39 := by kernel_rfl
  t44 := Tryz.underlying396
  a44 := Tryz.isAgg396
  z44 := Tryz.sizeOf396
  v44 := Tryz.zeroValue396
  i44 := by kernel_rfl
  t47 := Tryz.underlying269
  a47 := Tryz.isAgg269
  z47 := Tryz.sizeOf269
  v47 := Tryz.zeroValue269
  i47 := by kernel_rfl
  t48 := Tryz.underlying415
  a48 := Tryz.isAgg415
  z48 := Tryz.sizeOf415
  v48 := Tryz.zeroValue415
  i48 := by kernel_rfl
  t50 := Tryz.underlying417
  a50 := Tryz.isAgg417
  z50 := Tryz.sizeOf417
  v50 := Tryz.zeroValue417
  i50 := by kernel_rfl
  t52 := Tryz.underlying374
  a52 := Tryz.isAgg374
  z52 := Tryz.sizeOf374
  v52 := Tryz.zeroValue374
  i52 := by kernel_rfl
  t55 := Tryz.underlying376
  a55 := Tryz.isAgg376
  z55 := Tryz.sizeOf376
  v55 := Tryz.zeroValue376
  i55 := by kernel_rfl
  t59 := Tryz.underlying399
  a59 := Tryz.isAgg399
  z59 := Tryz.sizeOf399
  v59 := Tryz.zeroValue399
  i59 := by kernel_rfl
  t60 := Tryz.underlying218
  a60 := Tryz.isAgg218
  z60 := Tryz.sizeOf218
  v60 := Tryz.zeroValue218
  i60 := by kernel_rfl
  t61 := Tryz.underlying400
  a61 := Tryz.isAgg400
  z61 := Tryz.sizeOf400
  t65 := Tryz.underlying429
  a65 := Tryz.isAgg429
  z65 := Tryz.sizeOf429
  v65 := Tryz.zeroValue429
  i65 := by kernel_rfl
  t66 := Tryz.underlying430
  a66 := Tryz.isAgg430
  z66 := Tryz.sizeOf430
  v66 := Tryz.zeroValue430
  i66 := by kernel_rfl
  t67 := Tryz.underlying197
  a67 := Tryz.isAgg197
  z67 := Tryz.sizeOf197
  v67 := Tryz.zeroValue197
  i67 := by kernel_rfl
  g0 := by kernel_rfl
  m0 := by kernel_rfl
  g1 := by kernel_rfl
  m1 := by kernel_rfl
  g2 := by kernel_rfl
  m2 := by kernel_rfl
  g3 := by kernel_rfl
  m3 := by kernel_rfl
  g4 := by kernel_rfl
  m4 := by kernel_rfl }
open Go.RowKit Go.Maps Go.Sort
/-- slices.Sort's two contracts at this dump, at the fence that asks nothing. -/
theorem Tryz.sorts218 (m : Nat) : AnyZ.SortsIn Tryz.prog Tryz.sorted218_ren Fence.wide m :=
  ⟨fun blk off cap ss W hH hblk hsz => callsIn_wide.2 (AnyM.slices_Sort_string Tryz.sort281 blk off cap ss W hH hblk hsz),
   fun p cap W => callsIn_wide.2 (AnyM.slices_Sort_string_none Tryz.sort281 p cap W)⟩

/-- **maps.Keys[map[string]bool,string,bool], at whatever map, the nil one too:** a function value over ONE NEW BLOCK, which holds the map. -/
theorem Tryz.maps_Keys_219 (mb : Option Nat) (W : World) : CallsIn Fence.wide 5 Tryz.prog 219 #[.map mb] W fun e w' => e = .returned (.func (.func 282) #[] #[.pointer (some ⟨W.heap.size, 0, none⟩)]) ∧ w' = W.alloc (.cells #[.map mb] 168) :=
  AnyZ.keys_in Tryz.keys219 Fence.wide 5 trivial rfl mb W

set_option maxHeartbeats 1000000 in
/-- **slices.Sorted[string] AT WHAT maps.Keys[map[string]bool,string,bool] HANDED BACK FOR A MAP THAT IS NOT nil** ('w': the world AHEAD of maps.Keys' call): A NEW SLICE THAT HOLDS THE MAP's KEYS, SORTED; nil just where it has none; nothing that lay before has turned. -/
theorem Tryz.slices_Sorted_keys_218_219 {H : Type} (b nn : Nat) (D0 : DataW H) (R : Value → Option (DataW H × List MemPlace)) (w : World) (hown : w.ownsMap Tryz.prog 9 R b nn D0) (hmax : Maps.size D0 ≤ maxLen) (hbytes : Maps.size D0 * 16 ≤ 140737488355328) :
    CallsIn Fence.wide 5 Tryz.prog 218 #[.func (.func 282) #[] #[.pointer (some ⟨w.heap.size, 0, none⟩)]] (w.alloc (.cells #[.map (some b)] 168)) fun e w' => ∃ (v : Value) (ss : List (List UInt8)), e = .returned v ∧ ss.Perm (strKeys D0) ∧
      w'.ownsRow (w.alloc (.cells #[.map (some b)] 168)).heap.size 9 1 v ss.length ((ss.mergeSort (fun x y => decide (x ≤ y))).map encStr) ∧ (v = .slice none 0 0 ↔ ss = []) ∧ Below (w.alloc (.cells #[.map (some b)] 168)).heap.size (w.alloc (.cells #[.map (some b)] 168)) w' := by
  have hbl := hown.lt
  have hseq : SeqGives Fence.wide 2 Tryz.prog 282 #[.pointer (some ⟨w.heap.size, 0, none⟩)] encStr (fun ss => ss.Perm (strKeys D0)) (Maps.size D0) (w.alloc (.cells #[.map (some b)] 168)) :=
    AnyZ.keys_gives (ρ := Tryz.keys219_ren) { Tryz.keys219 with } Fence.wide _ trivial rfl (by omega) w.heap.size b nn D0 _ (by simp) (by simp) (by
      obtain ⟨es, clock, hb, Ft, hs, hD⟩ := hown
      exact ⟨es, clock, (Below.heap_alloc _ _ b hbl).trans hb, Ft, hs, hD⟩)
  exact AnyZ.sorted_in Tryz.sorted218 Fence.wide 5 trivial trivial trivial trivial rfl (by omega) (Tryz.sorts218 _) (enters_of Tryz.func281 (by kernel_rfl) rfl) 282 #[.pointer (some ⟨w.heap.size, 0, none⟩)] trivial (enters_of Tryz.func282 (by kernel_rfl) rfl) _ _ hmax hbytes _ hseq

set_option maxHeartbeats 1000000 in
/-- **.. AND FOR THE nil MAP: nil.** -/
theorem Tryz.slices_Sorted_keys_nil_218_219 (w : World) :
    CallsIn Fence.wide 5 Tryz.prog 218 #[.func (.func 282) #[] #[.pointer (some ⟨w.heap.size, 0, none⟩)]] (w.alloc (.cells #[.map none] 168)) fun e w' => ∃ (v : Value) (ss : List (List UInt8)), e = .returned v ∧ ss = [] ∧
      w'.ownsRow (w.alloc (.cells #[.map none] 168)).heap.size 9 1 v ss.length ((ss.mergeSort (fun x y => decide (x ≤ y))).map encStr) ∧ (v = .slice none 0 0 ↔ ss = []) ∧ Below (w.alloc (.cells #[.map none] 168)).heap.size (w.alloc (.cells #[.map none] 168)) w' := by
  have hseq : SeqGives Fence.wide 2 Tryz.prog 282 #[.pointer (some ⟨w.heap.size, 0, none⟩)] encStr (fun ss : List (List UInt8) => ss = []) 0 (w.alloc (.cells #[.map none] 168)) :=
    AnyZ.keys_gives_nil (ρ := Tryz.keys219_ren) { Tryz.keys219 with } Fence.wide _ trivial rfl w.heap.size _ (by simp) (by simp)
  exact AnyZ.sorted_in Tryz.sorted218 Fence.wide 5 trivial trivial trivial trivial rfl (by omega) (Tryz.sorts218 _) (enters_of Tryz.func281 (by kernel_rfl) rfl) 282 #[.pointer (some ⟨w.heap.size, 0, none⟩)] trivial (enters_of Tryz.func282 (by kernel_rfl) rfl) _ 0 (Nat.zero_le _) (by omega) _ hseq

end Go.Proofs
/- xnum.Parse at one digit; a number as primary; Parse at one number. -/
namespace Go.Proofs.YtaadhehcoegmhaaGreatDoor
open Go Go.RowKit

set_option maxRecDepth 100000 in
theorem info314 : (Tryz.prog.info? 314).map (·.size) = some 256 := by kernel_rfl

theorem trim_set (l cut : List UInt8) (w : World) (h2 : 2 ≤ cut.length) (h3 : cut.length ≤ 100) (hl0 : 0 < l.length) (hl : l.length ≤ 1000) (ha : cut.all (fun b => decide (b.toNat < 128)) = true) :
    Calls Tryz.prog 173 #[.string (bs l), .string (bs cut)] w fun e w' => e = .returned (.string (bs (Lib.trimS l cut))) ∧ Below w.heap.size w w' := by
  refine Calls.mono (Any.strings_Trim_set Tryz.lays160 zero314 info314 (bs l) (bs cut) w (by rw [bs_size]; omega) (by rw [bs_size]; omega) (by rw [bs_size]; omega) (by rw [bs_size]; omega) ?_) ?_
  · intro j b hj
    have := List.all_eq_true.1 ha b (List.mem_of_getElem? hj)
    simpa using this
  · rintro e w' ⟨rfl, q, rfl⟩
    exact ⟨rfl, below_drewN (((Below.refl _ _).alloc (Nat.le_refl _) _).alloc (by simp) _) q⟩
theorem cutPrefix_any (l p : List UInt8) (w : World) : Calls Tryz.prog 172 #[.string (bs l), .string (bs p)] w fun e w' => e = .returned (.tuple #[.string (bs (Lib.trimPrefix l p)), .bool (Lib.hasPrefix l p)]) ∧ Below w.heap.size w w' :=
  Calls.mono (Tryz.strings_CutPrefix (bs l) (bs p) w) fun _ _ ⟨h1, h2⟩ => ⟨h1, h2 ▸ Below.refl _ _⟩
theorem parseUint_ok (l : List UInt8) (u : Nat) (hl : l.length ≤ 1000) (h : Lib.parseUintB 64 l = .ok u) (w : World) :
    Calls Tryz.prog 174 #[.string (bs l), .int .i64 10, .int .i64 64] w fun e w' => e = .returned (.tuple #[.int .u64 u, .nilIface]) ∧ Below w.heap.size w w' := by
  refine Calls.mono (Any.strconv_ParseUint_10_at64_ok Tryz.laysPu14 (bs l) (by rw [bs_size]; omega) u h w) ?_
  rintro e w' ⟨h1, h2⟩
  refine ⟨h1, ?_⟩
  rcases h2 with rfl | rfl
  · exact Below.refl _ _
  · exact Lib.below_freeze (((Below.refl _ _).drew).alloc (Nat.le_refl _) _) (Nat.le_refl _) 1

/-- The number that one digit says. -/
def digV (d : UInt8) : Int := if d = 49 then 1000000 else 0

theorem bs_app (a b : List UInt8) : bs a ++ bs b = bs (a ++ b) := by
  apply ByteArray.ext
  simp

/-- A digit that the statements' texts name. -/
def IsDig (d : UInt8) : Prop := d = 48 ∨ d = 49

set_option maxRecDepth 100000 in
set_option maxHeartbeats 4000000 in
theorem numParse_dig (d : UInt8) (hd : IsDig d) (w : World) (hE : Env w) : Calls Tryz.prog 119 #[.string (bs [d])] w fun e w' => e = .returned (.agg #[.int .i64 0, .int .i64 (digV d)]) ∧ Below w.heap.size w w' := by
  have hg0 := heap_alloc_new w (.cells #[.int .i64 0, .int .i64 0] 29)
  have hb0 : Below w.heap.size w (w.alloc (.cells #[.int .i64 0, .int .i64 0] 29)) := (Below.refl _ _).alloc (Nat.le_refl _) _
  have t1 : Lib.trimS [d] [9, 10, 13, 32] = [d] := by rcases hd with rfl | rfl <;> decide
  have t2 : Lib.trimPrefix [d] [45] = [d] ∧ Lib.hasPrefix [d] [45] = false := by rcases hd with rfl | rfl <;> decide
  have t3 : Lib.cut [d] [46] = ([d], [], false) := by rcases hd with rfl | rfl <;> decide
  have t4 : Lib.trimS [d] [48, 49, 50, 51, 52, 53, 54, 55, 56, 57] = [] := by rcases hd with rfl | rfl <;> decide
  have t5 : Lib.parseUintB 64 [d, 48, 48, 48, 48, 48, 48] = .ok (digV d).toNat := by rcases hd with rfl | rfl <;> decide
  have t6 : 0 ≤ digV d ∧ digV d ≤ 1000000 := by rcases hd with rfl | rfl <;> decide
  have T1 := Lib.hid t1
  have T2 := Lib.hid t2
  have T3 := Lib.hid t3
  have T4 := Lib.hid t4
  have T5 := Lib.hid t5
  have T6 := Lib.hid t6
  have hs1 : (bs [d]).size = 1 := rfl
  clear t1 t2 t3 t4 t5 t6 hd
  go_enter Tryz.func119, Tryz.ntmps119
  go_wp2_with fail
  refine Calls.mono (trim_set [d] [9, 10, 13, 32] _ (by simp) (by simp) (by simp) (by simp) (by decide)) ?_
  rintro e w1 ⟨rfl, hb1⟩
  dsimp only
  rw [T1.out]
  have hb01 := below_then hb0 hb0.size hb1
  have hg1 := (hb1.block w.heap.size (by simp)).trans hg0
  have HB1 := Lib.hid hb01
  have HG1 := Lib.hid hg1
  clear hg0 hb0 hb1 hb01 hg1
  go_wp2_with fail
  refine Calls.mono (cutPrefix_any [d] [45] _) ?_
  rintro e w2 ⟨rfl, hb2⟩
  dsimp only
  rw [T2.out.1, T2.out.2]
  have HB2 := Lib.hid (below_then HB1.out HB1.out.size hb2)
  have HG2 := Lib.hid ((hb2.block w.heap.size (Array.getElem?_eq_some_iff.1 HG1.out).1).trans HG1.out)
  clear hb2
  go_wp2_with fail
  refine Calls.mono (str_cut (bs [d]) (bs [46]) _ (hE.below HB2.out) (by simp [ByteArray.size])) ?_
  rintro e w3 ⟨rfl, hb3⟩
  dsimp only
  rw [T3.out]
  have HB3 := Lib.hid (below_then HB2.out HB2.out.size hb3)
  have HG3 := Lib.hid ((hb3.block w.heap.size (Array.getElem?_eq_some_iff.1 HG2.out).1).trans HG2.out)
  clear hb3
  dsimp only
  have happ : (bs [d] ++ bs [] : ByteArray) = bs [d] := by rw [bs_app]; rfl
  have hne : (bs [d] == (⟨#[]⟩ : ByteArray)) = false := rfl
  have hno : ¬ 9223372036854775807 < (bs [d]).size + (bs []).size := by rw [bs_size, bs_size]; simp
  go_wp2_with fail
  refine Calls.mono (trim_set [d] [48, 49, 50, 51, 52, 53, 54, 55, 56, 57] _ (by simp) (by simp) (by simp) (by simp) (by decide)) ?_
  rintro e w4 ⟨rfl, hb4⟩
  dsimp only
  rw [T4.out]
  have HB4 := Lib.hid (below_then HB3.out HB3.out.size hb4)
  have HG4 := Lib.hid ((hb4.block w.heap.size (Array.getElem?_eq_some_iff.1 HG3.out).1).trans HG3.out)
  clear hb4
  have h6 : (bs [] ++ bs [48, 48, 48, 48, 48, 48] : ByteArray) = bs [48, 48, 48, 48, 48, 48] := by rw [bs_app]; rfl
  have h7 : (bs [48, 48, 48, 48, 48, 48]).size = 6 := rfl
  have h8 : (bs [48, 48, 48, 48, 48, 48]).extract 0 6 = bs [48, 48, 48, 48, 48, 48] := bs_take _ 6
  have h9 : (bs [d] ++ bs [48, 48, 48, 48, 48, 48] : ByteArray) = bs [d, 48, 48, 48, 48, 48, 48] := by rw [bs_app]; rfl
  have hno2 : ¬ 9223372036854775807 < (bs []).size + (bs [48, 48, 48, 48, 48, 48]).size := by rw [bs_size, bs_size]; simp
  have hno3 : ¬ 9223372036854775807 < (bs [d]).size + (bs [48, 48, 48, 48, 48, 48]).size := by rw [bs_size, bs_size]; simp
  go_wp2_with fail
  refine Calls.mono (parseUint_ok [d, 48, 48, 48, 48, 48, 48] _ (by simp) T5.out _) ?_
  rintro e w5 ⟨rfl, hb5⟩
  dsimp only
  have HB5 := Lib.hid (below_then HB4.out HB4.out.size hb5)
  have HG5 := Lib.hid ((hb5.block w.heap.size (Array.getElem?_eq_some_iff.1 HG4.out).1).trans HG4.out)
  clear hb5
  have hcast : ((digV d).toNat : Int) = digV d := by have := T6.out.1; omega
  rw [hcast]
  clear hcast
  go_wp2_with fail
  refine Calls.mono (fin_any (digV d) _ T6.out.1 (by have := T6.out.2; omega)) ?_
  rintro e w6 ⟨rfl, hb6⟩
  dsimp only
  have HB6 := Lib.hid (below_then HB5.out HB5.out.size hb6)
  have HG6 := Lib.hid ((hb6.block w.heap.size (Array.getElem?_eq_some_iff.1 HG5.out).1).trans HG5.out)
  clear hb6
  go_wp2_with (refine wpList_store_row rfl 29 (.tmp 2) (.tmp 49) rfl w.heap.size #[.int .i64 0, .int .i64 (digV d)] rfl rfl 29 _ HG6.out (by kernel_rfl) rfl (by simp [Value.oneCell']) ?_)
  exact bodyPost_ret (results_cell_row Tryz.results119 _ _ (w.heap.size) 29 _ (0, 0) _ rfl (setRow_heap _ _ _ _ 29 _ HG6.out) Tryz.underlying29 rfl (by kernel_rfl)) rfl ⟨rfl, below_setRow HB6.out (Nat.le_refl _)⟩

set_option maxRecDepth 100000 in
set_option maxHeartbeats 4000000 in
theorem primary_num (B p : Nat) (d : UInt8) (hd : IsDig d) (at_ : Nat) (ts : List Lx) (w : World) (h : Par B p (⟨1, [d], at_⟩ :: ts) w) (hn : ts.length ≤ 1000) :
    Calls Tryz.prog 330 #[.pointer (some ⟨p, 0, none⟩)] w fun e w' => e = .returned (.tuple #[.agg (leafCells 16 [] 0 (digV d) (.slice none 0 0)).toArray, .bool true]) ∧ Par B p ts w' ∧ w.grownBy w' (some p) := by
  have hpw : p < w.heap.size := Nat.lt_of_lt_of_le h.lt h.le
  have hBw := h.le
  have hg0 := heap_alloc_new w (.cells #[.int .i64 0, .string ⟨#[]⟩, .int .i64 0, .int .i64 0, .int .i64 0, .int .i64 0, .slice none 0 0] 155)
  have hb0 : Below w.heap.size w (w.alloc (.cells #[.int .i64 0, .string ⟨#[]⟩, .int .i64 0, .int .i64 0, .int .i64 0, .int .i64 0, .slice none 0 0] 155)) := (Below.refl _ _).alloc (Nat.le_refl _) _
  have hP0 := Lib.hid (h.below hb0)
  have HD := Lib.hid hd
  clear h hd
  go_enter Tryz.func330, Tryz.ntmps330
  go_wp2_with fail
  refine Calls.mono (peek_any B p _ _ hP0.out) ?_
  rintro e w1 ⟨rfl, hb1⟩
  dsimp only
  simp only [headLx, Lx.val]
  obtain ⟨hp1, hp2, hp3⟩ := put_new w1 #[.int .i64 0, .string ⟨#[]⟩, .int .i64 0] #[.int .i64 1, .string (bs [d]), .int .i64 at_] 347
  have HGA := Lib.hid (heap_alloc_new w1 (.cells #[.int .i64 0, .string ⟨#[]⟩, .int .i64 0] 347))
  obtain ⟨W, hW⟩ : ∃ W, W = (w1.alloc (.cells #[.int .i64 0, .string ⟨#[]⟩, .int .i64 0] 347)).setRow w1.heap.size #[.int .i64 1, .string (bs [d]), .int .i64 at_] := ⟨_, rfl⟩
  rw [← hW] at hp1 hp2 hp3
  have HW := Lib.hid hW
  have hbw1 := below_then hb0 hb0.size hb1
  have hbw := below_then hbw1 hbw1.size hp1
  have hgW := (hp1.block _ (by have := hb1.size; simp at this; omega)).trans ((hb1.block _ (by simp)).trans hg0)
  have hPW := Lib.hid ((hP0.out.below hb1).below hp1)
  have q0 : W.cell? ⟨w1.heap.size, 0, none⟩ = some (.int .i64 1) := by rw [Lib.cell_of_heap hp2]; rfl
  have HGW := Lib.hid hgW
  have HBW := Lib.hid hbw
  clear hp1 hp2 hb1 hbw hW hg0 hb0 hgW hbw1
  go_wp2_with (refine wpList_store_row rfl 347 (.tmp 4) (.tmp 12) rfl w1.heap.size #[.int .i64 1, .string (bs [d]), .int .i64 at_] rfl rfl 347 _ HGA.out (by kernel_rfl) rfl (by simp [Value.oneCell']) ?_; rw [← HW.out])
  refine Calls.mono (pass_any B p _ ts _ hPW.out hn) ?_
  rintro e w2 ⟨rfl, hP2, hgr⟩
  dsimp only
  simp only [Lx.val]
  have hg2 := (hgr.block w.heap.size (Array.getElem?_eq_some_iff.1 HGW.out).1 (by intro e; cases e; omega)).trans HGW.out
  have hE2 := hP2.env
  have hplow := hP2.low
  have HG2 := Lib.hid hg2
  have HP2 := Lib.hid hP2
  have hfd := field_text 1 at_ [d]
  have HGR := Lib.hid ((grown_of_below HBW.out (some p)).trans hgr)
  clear hg2 hP2 hgr
  go_wp2_with fail
  refine Calls.mono (numParse_dig d HD.out w2 hE2) ?_
  rintro e w3 ⟨rfl, hb3⟩
  dsimp only
  obtain ⟨hp1, hp2, hp3⟩ := put_new w3 #[.int .i64 0, .int .i64 0] #[.int .i64 0, .int .i64 (digV d)] 29
  have HGB := Lib.hid (heap_alloc_new w3 (.cells #[.int .i64 0, .int .i64 0] 29))
  obtain ⟨W4, hW4⟩ : ∃ W4, W4 = (w3.alloc (.cells #[.int .i64 0, .int .i64 0] 29)).setRow w3.heap.size #[.int .i64 0, .int .i64 (digV d)] := ⟨_, rfl⟩
  rw [← hW4] at hp1 hp2 hp3
  have HW4 := Lib.hid hW4
  have n0 : W4.cell? ⟨w3.heap.size, 0, none⟩ = some (.int .i64 0) := by rw [Lib.cell_of_heap hp2]; rfl
  have n1 : W4.cell? ⟨w3.heap.size, 1, none⟩ = some (.int .i64 (digV d)) := by rw [Lib.cell_of_heap hp2]; rfl
  have hb24 : Below w2.heap.size w2 W4 := below_then hb3 hb3.size hp1
  have HG4 := Lib.hid ((hb24.block _ (Array.getElem?_eq_some_iff.1 HG2.out).1).trans HG2.out)
  have HP4 := Lib.hid (HP2.out.below hb24)
  have HGR4 := Lib.hid (HGR.out.trans (grown_of_below hb24 _))
  clear hp1 hp2 hp3 hW4 hb24 hb3 hE2
  go_wp2_with (first
    | (refine wpList_store_row rfl 29 (.tmp 5) (.tmp 38) rfl w3.heap.size #[.int .i64 0, .int .i64 (digV d)] rfl rfl 29 _ HGB.out (by kernel_rfl) rfl (by simp [Value.oneCell']) ?_; rw [← HW4.out])
    | (refine wpList_store_row rfl 155 (.tmp 2) (.tmp 45) rfl w.heap.size #[.int .i64 16, .string ⟨#[]⟩, .int .i64 0, .int .i64 (digV d), .int .i64 0, .int .i64 0, .slice none 0 0] rfl rfl 155 _ HG4.out (by kernel_rfl) rfl (by simp [Value.oneCell']) ?_))
  exact bodyPost_ret (results_cell_tmp Tryz.results330 _ _ (w.heap.size) 155 _ (0, 0) _ rfl (setRow_heap _ _ _ _ 155 _ HG4.out) Tryz.underlying155 rfl (by kernel_rfl)) rfl ⟨rfl, HP4.out.setRow hBw, grown_setRow HGR4.out (Nat.le_refl _)⟩

theorem parse_dig (d : UInt8) (hd : IsDig d) (w : World) (hE : Env w) :
    Calls Tryz.prog 104 #[.string (bs [d])] w fun e w' => e = .returned (.tuple #[.agg (leaf7 16 [] 0 (digV d)), .int .i64 0]) ∧ Below w.heap.size w w' :=
  parse_leaf (.num d) hd 16 0 (digV d) [] (.num 0 (digV d)) (by show (1 : Int) ≠ 8; decide) (fun _ _ => rfl) (fun _ _ _ h => h) (fun B p w h => primary_num B p d hd 0 [] w h (by simp)) w hE
end Go.Proofs.YtaadhehcoegmhaaGreatDoor
