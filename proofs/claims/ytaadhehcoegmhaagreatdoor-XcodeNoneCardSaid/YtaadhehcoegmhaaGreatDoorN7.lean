/- compile at a text of which Parse, xeval.Compile and Names tell. -/
import Derived.Test.YtaadhehcoegmhaaGreatDoorN6
import Derived.Shelf.SlIter.Nil
import Derived.Shelf.SortM.Plain
import Derived.Shelf.SortM.SortNone
import Derived.Shelf.Pu.ParseUintPublic10
import Derived.Ground.GgzProg
import Derived.Ground.SlgmProg
import Derived.Ground.MpProg
import Derived.Test.YtaadhehcoegmhaaGreatDoorProg
import Derived.Test.YtaadhehcoegmhaaGreatDoorN5
import Derived.Shelf.Strings.SlTrimAscii
import Derived.Test.YtaadhehcoegmhaaGreatDoorN3
namespace Go.Proofs.YtaadhehcoegmhaaGreatDoor
open Go Go.RowKit

/-- A text that parses, whose expression gets its code, and of whose variables Names tells. -/
def TextOk (sel : List UInt8) (ns : List (List UInt8)) : Prop :=
  ns.Nodup ∧ ns.length ≤ 1000 ∧ ∀ w, Env w → Calls Tryz.prog 104 #[.string (bs sel)] w fun e w1 => ∃ a0 a1 a2 a3 a4 a5 a6, e = .returned (.tuple #[.agg #[a0, a1, a2, a3, a4, a5, a6], .int .i64 0]) ∧ (#[a0, a1, a2, a3, a4, a5, a6] : Array Value).all (·.oneCell') = true ∧ Below w.heap.size w w1 ∧
    (∀ w2, Env w2 → Below w1.heap.size w1 w2 → Calls Tryz.prog 106 #[.agg #[a0, a1, a2, a3, a4, a5, a6], .slice none 0 0] w2 fun e w3 => ∃ c, e = .returned (.tuple #[.pointer (some ⟨c, 0, none⟩), .int .i64 0]) ∧ Below w2.heap.size w2 w3) ∧
    (∀ w2, Env w2 → Below w1.heap.size w1 w2 → Calls Tryz.prog 167 #[.agg #[a0, a1, a2, a3, a4, a5, a6]] w2 fun e w3 => ∃ v, e = .returned v ∧ NamesIn w3 v ns ∧ Below w2.heap.size w2 w3)
theorem TextOk.names {sel : List UInt8} {ns : List (List UInt8)} (h : TextOk sel ns) : NamesAre sel ns :=
  ⟨h.1, h.2.1, fun w hE => (h.2.2 w hE).mono fun _ _ ⟨a0, a1, a2, a3, a4, a5, a6, h1, h2, h3, _, h5⟩ => ⟨a0, a1, a2, a3, a4, a5, a6, h1, h2, h3, h5⟩⟩

set_option maxRecDepth 100000 in
set_option maxHeartbeats 4000000 in
theorem compile_text (pp mb : Nat) (sel : List UInt8) (ns : List (List UInt8)) (w : World) (hE : Env w) (hp : w.cell? ⟨pp, 6, none⟩ = some (.map (some mb))) (hcodes : CodesAt mb w)
    (htx : TextOk sel ns) :
    Calls Tryz.prog 47 #[.pointer (some ⟨pp, 0, none⟩), .string (bs sel), .slice none 0 0] w fun e w' => ∃ c, e = .returned (.tuple #[.pointer (some ⟨c, 0, none⟩), .int .i64 0]) ∧
      CodesAt mb w' ∧ w.grownBy w' (some mb) := by
  obtain ⟨es, clock, hm, hborn, hnd, hk⟩ := hcodes.out
  clear hcodes
  have HTX := Lib.hid htx
  have HK := Lib.hid hk
  have HBO := Lib.hid hborn
  have HND := Lib.hid hnd
  have HMB := Lib.hid hm
  have HPP := Lib.hid hp
  clear htx hk hborn hnd hm hp
  go_enter Tryz.func47, Tryz.ntmps47
  go_wp2_with fail
  refine Calls.mono (keyOf_nil (bs sel) w) ?_
  rintro e w1 ⟨rfl, hb1⟩
  dsimp only
  obtain ⟨hp1, hp2, hp3⟩ := put_new w1 (key2 ⟨#[]⟩) (key2 (bs sel)) 172
  have HGA := Lib.hid (heap_alloc_new w1 (.cells (key2 ⟨#[]⟩) 172))
  obtain ⟨W, hW⟩ : ∃ W, W = (w1.alloc (.cells (key2 ⟨#[]⟩) 172)).setRow w1.heap.size (key2 (bs sel)) := ⟨_, rfl⟩
  rw [← hW] at hp1 hp2 hp3
  have HW := Lib.hid hW
  have hbw := below_then hb1 hb1.size hp1
  have hmW := (hbw.block mb (Array.getElem?_eq_some_iff.1 HMB.out).1).trans HMB.out
  have hpW := (hbw.cell (p := ⟨pp, 6, none⟩) (at_lt HPP.out)).trans HPP.out
  have hrg := run_range_map (P := Tryz.prog) W 95 172 69 mb es clock Tryz.underlying95 hmW
  have HMW := Lib.hid hmW
  have HBW := Lib.hid hbw
  have HKW := Lib.hid hp2
  have hmlt : mb < w.heap.size := (Array.getElem?_eq_some_iff.1 HMB.out).1
  have hsW := hbw.size
  have hs1 := hb1.size
  have HP3 := Lib.hid hp3
  clear hp1 hp2 hp3 hW hb1 hmW hbw
  go_wp2_with (refine wpList_store_row rfl 172 (.tmp 8) (.tmp 16) rfl w1.heap.size (key2 (bs sel)) rfl rfl 172 _ HGA.out (by kernel_rfl) rfl (by simp [Value.oneCell']) ?_; rw [← HW.out])
  go_loopw [10] (fun _ wr => ∃ seen c0, wr.heap[W.heap.size]? = some (.mapIter (some mb) clock seen c0) ∧ clock ≤ c0 ∧ Below W.heap.size W wr ∧ ∀ y ∈ es.toList, seen.contains y.born = true → ∃ k, y.key = .agg (key2 k) ∧ (bs sel == k) = false ∧ (k == bs sel) = false)
    (fun _ wr => leftIn es W.heap.size wr)
  case atStart => exact ⟨#[], clock, heap_alloc_new W _, Nat.le_refl _, (Below.refl _ _).alloc (Nat.le_refl _) _, fun y _ hy => by simp at hy⟩
  case round =>
    obtain ⟨seen, c0, hit, hc0, hbel, hsn⟩ := hrel
    rename World => wr
    have hmr := (hbel.block mb (by omega)).trans HMW.out
    rcases run_next_at (P := Tryz.prog) wr 0 W.heap.size mb clock c0 seen es clock hit hmr HBO.out hc0 with ⟨h0, hx⟩ | ⟨en, hen, w2, hw2, hx⟩
    · have HKN := Lib.hid (show KeysNot (bs sel) es.toList from fun y hy => hsn y hy (all_seen es seen h0 y hy))
      have HBR := Lib.hid hbel
      clear hit hbel h0 hsn
      go_wp2_with fail
      refine Calls.mono (HTX.out.2.2 wr (hE.below (HBW.out.trans (HBR.out.mono hsW)))) ?_
      rintro e w5 ⟨a0, a1, a2, a3, a4, a5, a6, rfl, h1c, hb5, hev, -⟩
      have HEV := Lib.hid hev
      have H1C := Lib.hid h1c
      clear hev h1c
      dsimp only
      have hmr5 := (hb5.block mb (Array.getElem?_eq_some_iff.1 hmr).1).trans hmr
      obtain ⟨hp1, hp2, hp3⟩ := put_new w5 (leaf7 0 [] 0 0) (#[a0, a1, a2, a3, a4, a5, a6]) 155
      have HG5 := Lib.hid (heap_alloc_new w5 (.cells (leaf7 0 [] 0 0) 155))
      obtain ⟨W6, hW6⟩ : ∃ W6, W6 = (w5.alloc (.cells (leaf7 0 [] 0 0) 155)).setRow w5.heap.size (#[a0, a1, a2, a3, a4, a5, a6]) := ⟨_, rfl⟩
      rw [← hW6] at hp1 hp2 hp3
      have HW6 := Lib.hid hW6
      have r0 : W6.cell? ⟨w5.heap.size, 0, none⟩ = some a0 := by rw [Lib.cell_of_heap hp2]; rfl
      have r1 : W6.cell? ⟨w5.heap.size, 1, none⟩ = some a1 := by rw [Lib.cell_of_heap hp2]; rfl
      have r2 : W6.cell? ⟨w5.heap.size, 2, none⟩ = some a2 := by rw [Lib.cell_of_heap hp2]; rfl
      have r3 : W6.cell? ⟨w5.heap.size, 3, none⟩ = some a3 := by rw [Lib.cell_of_heap hp2]; rfl
      have r4 : W6.cell? ⟨w5.heap.size, 4, none⟩ = some a4 := by rw [Lib.cell_of_heap hp2]; rfl
      have r5 : W6.cell? ⟨w5.heap.size, 5, none⟩ = some a5 := by rw [Lib.cell_of_heap hp2]; rfl
      have r6 : W6.cell? ⟨w5.heap.size, 6, none⟩ = some a6 := by rw [Lib.cell_of_heap hp2]; rfl
      have h56 := Lib.hid (HBR.out.trans ((below_then hb5 hb5.size hp1).mono HBR.out.size))
      have H5 := Lib.hid hb5.size
      have H56 := Lib.hid hp1
      clear hp1 hp2 hp3 hW6 hb5 hmr hmr5
      go_wp2_with (refine wpList_store_row rfl 155 (.tmp 11) (.tmp 34) rfl w5.heap.size (#[a0, a1, a2, a3, a4, a5, a6]) rfl rfl 155 _ HG5.out (by kernel_rfl) rfl H1C.out ?_; rw [← HW6.out])
      refine Calls.mono (HEV.out W6 (hE.below (HBW.out.trans (h56.out.mono hsW))) H56.out) ?_
      rintro e w7 ⟨c, rfl, hb7⟩
      dsimp only
      have h67 := below_then h56.out h56.out.size (show Below W6.heap.size W6 w7 from hb7)
      have hb07 : Below w.heap.size w w7 := HBW.out.trans (h67.mono hsW)
      have hm7 := (hb07.block mb hmlt).trans HMB.out
      have hp7 := (hb07.cell (p := ⟨pp, 6, none⟩) (at_lt HPP.out)).trans HPP.out
      have hk7 := (h67.block w1.heap.size (by have := HP3.out; omega)).trans HKW.out
      have b0 : w7.cell? ⟨w1.heap.size, 0, none⟩ = some (.string (bs sel)) := by rw [Lib.cell_of_heap hk7]; rfl
      have b1 : w7.cell? ⟨w1.heap.size, 1, none⟩ = some (.string ⟨#[]⟩) := by rw [Lib.cell_of_heap hk7]; rfl
      have hmu := run_mapUpdate_key (bs sel) (.pointer (some ⟨c, 0, none⟩)) mb clock es w7.drew hm7 HKN.out
      obtain ⟨W8, hW8⟩ : ∃ W8, W8 = { w7.drew with heap := w7.drew.heap.setIfInBounds mb (.map (es.push { key := .agg (key2 (bs sel)), val := .pointer (some ⟨c, 0, none⟩), born := clock }) (clock + 1)) } := ⟨_, rfl⟩
      rw [← hW8] at hmu
      have hlt7 : mb < w7.heap.size := (Array.getElem?_eq_some_iff.1 hm7).1
      have hfin : W8.heap[mb]? = some (.map (es.push { key := .agg (key2 (bs sel)), val := .pointer (some ⟨c, 0, none⟩), born := clock }) (clock + 1)) ∧ w.grownBy W8 (some mb) := by
        rw [hW8]
        refine ⟨by show (w7.heap.setIfInBounds mb _)[mb]? = _; simp [hlt7], (grown_of_below hb07.drew (some mb)).trans (grownBy_setIn _)⟩
      have HFIN := Lib.hid hfin
      have HCO := Lib.hid (show CodesAt mb W8 from ⟨_, _, hfin.1, fun y hy => by
          simp at hy
          rcases hy with hy | rfl
          · have := HBO.out y (by simpa using hy); omega
          · simp, by
          simp only [Array.toList_push, List.map_append, List.nodup_append, List.map_cons, List.map_nil]
          refine ⟨HND.out, by simp, ?_⟩
          rintro a ha b hb rfl
          obtain ⟨y, hy, rfl⟩ := List.mem_map.1 ha
          have := HBO.out y hy
          simp at hb
          omega, fun y hy => by
          simp at hy
          rcases hy with hy | rfl
          · exact HK.out y (by simpa using hy)
          · exact ⟨⟨_, rfl⟩, _, rfl⟩⟩)
      clear hfin hW8 hm7 hk7 h67 hb07 hb7 hlt7 r0 r1 r2 r3 r4 r5 r6
      go_wp2_with fail
      go_region_law (go_simp)
      all_goals first | (go_ret2; exact ⟨_, rfl, HCO.out, HFIN.out.2⟩) | (go_wp2_with fail; go_ret2; exact ⟨_, rfl, HCO.out, HFIN.out.2⟩)
    · obtain ⟨hmem, hnseen⟩ := mem_left hen
      obtain ⟨⟨kk, hkk⟩, vc, hvc⟩ := HK.out en hmem
      have hit2 : w2.heap[W.heap.size]? = some (.mapIter (some mb) clock seen c0) := by rcases hw2 with rfl | rfl <;> exact hit
      have hbel2 : Below W.heap.size W w2 := by rcases hw2 with rfl | rfl; exact hbel; exact hbel.drew
      obtain ⟨w3, hw3⟩ : ∃ w3, w3 = ChangeMaps.setBlock w2 W.heap.size (.mapIter (some mb) clock (seen.push en.born) clock) := ⟨_, rfl⟩
      have hit3 : w3.heap[W.heap.size]? = some (.mapIter (some mb) clock (seen.push en.born) clock) := by rw [hw3, heap_setBlock_at hit2, if_pos rfl]
      have hbel3 : Below W.heap.size W w3 := by rw [hw3]; exact below_setBlock hbel2 hit2 (Nat.le_refl _)
      rw [← hw3] at hx
      have hm3 := (hbel3.block mb (by omega)).trans HMW.out
      have hent := run_entry_at (P := Tryz.prog) w3 W.heap.size mb clock seen es clock en hit3 hm3 hmem HND.out
      rw [hkk, hvc] at hx hent
      obtain ⟨hp1, hp2, hp3⟩ := put_new w3 (key2 ⟨#[]⟩) (key2 kk) 172
      have HG3 := Lib.hid (heap_alloc_new w3 (.cells (key2 ⟨#[]⟩) 172))
      obtain ⟨W4, hW4⟩ : ∃ W4, W4 = (w3.alloc (.cells (key2 ⟨#[]⟩) 172)).setRow w3.heap.size (key2 kk) := ⟨_, rfl⟩
      rw [← hW4] at hp1 hp2 hp3
      have HW4 := Lib.hid hW4
      have hbel4 : Below W.heap.size W W4 := below_then hbel3 hbel3.size hp1
      have hk8 := (hbel4.block w1.heap.size (by have := HP3.out; omega)).trans HKW.out
      have a0 : W4.cell? ⟨w3.heap.size, 0, none⟩ = some (.string kk) := by rw [Lib.cell_of_heap hp2]; rfl
      have a1 : W4.cell? ⟨w3.heap.size, 1, none⟩ = some (.string ⟨#[]⟩) := by rw [Lib.cell_of_heap hp2]; rfl
      have b0 : W4.cell? ⟨w1.heap.size, 0, none⟩ = some (.string (bs sel)) := by rw [Lib.cell_of_heap hk8]; rfl
      have b1 : W4.cell? ⟨w1.heap.size, 1, none⟩ = some (.string ⟨#[]⟩) := by rw [Lib.cell_of_heap hk8]; rfl
      have hit4 : W4.heap[W.heap.size]? = some (.mapIter (some mb) clock (seen.push en.born) clock) := (hp1.block _ (Array.getElem?_eq_some_iff.1 hit3).1).trans hit3
      have HLE := Lib.hid (show leftIn es W.heap.size W4 < leftIn es W.heap.size wr by
        unfold leftIn; rw [hit4, hit]; exact left_shrinks es seen en hen)
      have HB4 := Lib.hid hbel4
      have HI4 := Lib.hid hit4
      have hcm : (Op.equalIn 10000 172 (.agg #[.string kk, .string ⟨#[]⟩]) (.agg #[.string (bs sel), .string ⟨#[]⟩])).run Tryz.prog W4 = .ok (kk == bs sel) W4 := run_equal_key kk (bs sel) W4
      clear hw3 hp1 hp2 hp3 hW4 hbel4 hk8 hit4 hbel3 hit3 hm3 hbel2 hit2
      have HSN := Lib.hid hsn
      have hHB := Lib.hid (HBW.out.trans (HB4.out.mono hsW))
      rcases hq : (kk == bs sel) with _ | _
      · rw [hq] at hcm
        have HS2 := Lib.hid (show ∀ y ∈ es.toList, (seen.push en.born).contains y.born = true → ∃ k, y.key = .agg (key2 k) ∧ (bs sel == k) = false ∧ (k == bs sel) = false from fun y hy hc => by
          rw [contains_push, Bool.or_eq_true] at hc
          rcases hc with hc | hc
          · exact HSN.out y hy hc
          · obtain rfl := born_inj HND.out hy hmem (eq_of_beq hc)
            exact ⟨kk, hkk, by rw [byte_comm]; exact hq, hq⟩)
        clear hsn
        go_wp2_with (refine wpList_store_row rfl 172 (.tmp 9) (.tmp 25) rfl w3.heap.size (key2 kk) rfl rfl 172 _ HG3.out (by kernel_rfl) rfl (by simp [Value.oneCell']) ?_; rw [← HW4.out])
        go_roundw
        case rel => exact ⟨_, _, HI4.out, Nat.le_refl _, HB4.out, HS2.out⟩
        case measure => exact HLE.out
      · rw [hq] at hcm
        clear hsn
        have HCO := Lib.hid (show CodesAt mb W4 from ⟨es, clock, ((HBW.out.trans (HB4.out.mono hsW)).block mb hmlt).trans HMB.out, HBO.out, HND.out, HK.out⟩)
        go_wp2_with (refine wpList_store_row rfl 172 (.tmp 9) (.tmp 25) rfl w3.heap.size (key2 kk) rfl rfl 172 _ HG3.out (by kernel_rfl) rfl (by simp [Value.oneCell']) ?_; rw [← HW4.out])
        go_ret2
        exact ⟨_, rfl, HCO.out, grown_of_below hHB.out _⟩

theorem TextOk.compiles {sel : List UInt8} {ns : List (List UInt8)} (h : TextOk sel ns) : Compiles sel := fun pp mb w hE hp hc => compile_text pp mb sel ns w hE hp hc h
end Go.Proofs.YtaadhehcoegmhaaGreatDoor
/- Compile of a sheet of lets. -/
namespace Go.Proofs.YtaadhehcoegmhaaGreatDoor
open Go Go.RowKit

/-- A program's cells: its sheet, its codes, its order. -/
abbrev prog8 (gl codes ord : Value) : Array Value := #[.slice none 0 0, gl, .slice none 0 0, .int .i64 0, .bool false, .slice none 0 0, codes, ord]
/-- What Order finds. -/
def ProgAt (pp : Nat) (out : List Nat) (w : World) : Prop := ∃ v, w.cell? ⟨pp, 7, none⟩ = some v ∧ IntSlice w v (outI out)
/-- How Compile ends at lets. -/
def CompilePost (ls : List Lt) (nd : Nat → List (List UInt8)) (w : World) (e : Ending) (w' : World) : Prop :=
  Below w.heap.size w w' ∧ ∃ out : List Nat, OrdOk (depB ls nd) ls.length out ∧
    ((∃ pp, e = .returned (.tuple #[.pointer (some ⟨pp, 0, none⟩), .int .i64 0]) ∧ ProgAt pp out w' ∧ out.length = ls.length) ∨
     (e = .returned (.tuple #[.pointer none, .int .i64 14]) ∧ out.length ≠ ls.length ∧ ∀ i, i < ls.length → i ∉ out → ∃ k, k < ls.length ∧ k ∉ out ∧ depB ls nd i k = true))

theorem below_setCell' {B b i : Nat} {w w' : World} {v : Value} (h : Below B w w') (hb : B ≤ b) : Below B w (w'.setCell ⟨b, i, none⟩ v) :=
  h.trans ⟨rfl, rfl, rfl, by simp [World.setCell], fun k hk => Below.heap_setCell _ _ _ _ (show k ≠ b by omega)⟩
theorem mk95 (w : World) : (Instr.makeMap 95 none).run Tryz.prog w = .ok (.map (some w.heap.size)) (w.alloc (.map #[] 0)) := by kernel_rfl

set_option maxRecDepth 100000 in
set_option maxHeartbeats 4000000 in
theorem compile_lets (g cap : Nat) (ls : List Lt) (nd : Nat → List (List UInt8)) (w : World) (hE : Env w) (hl : ls.length ≤ 1000) (h0 : 0 < ls.length)
    (hc : ∀ j u, (letCells ls)[j]? = some u → w.cell? ⟨g, j, none⟩ = some u) (hsel : ∀ t ∈ ls, t.sel.isEmpty = false) (htx : ∀ i t, ls[i]? = some t → TextOk t.sel (nd i)) :
    Calls Tryz.prog 20 #[.agg (sheet5 (.slice (some ⟨g, 0, none⟩) ls.length cap))] w (CompilePost ls nd w) := by
  have hcomp : ∀ t ∈ ls, Compiles t.sel := fun t ht => by
    obtain ⟨i, hi⟩ := List.getElem?_of_mem ht
    exact (htx i t hi).compiles
  have hns : ∀ i t, ls[i]? = some t → NamesAre t.sel (nd i) := fun i t ht => (htx i t ht).names
  have hgw : g < w.heap.size := by
    obtain ⟨t, ht⟩ : ∃ t, ls[0]? = some t := ⟨ls[0], by simp [h0]⟩
    exact at_lt (hc _ _ (letCells_at ls 0 t ht 0 _ rfl))
  have hb : Below w.heap.size w (w.alloc (.cells (sheet5 (.slice (some ⟨g, 0, none⟩) ls.length cap)) 59)) := (Below.refl _ _).alloc (Nat.le_refl _) _
  have hq := heap_alloc_new w (.cells (sheet5 (.slice (some ⟨g, 0, none⟩) ls.length cap)) 59)
  have HC := Lib.hid hc
  have HS := Lib.hid hsel
  have HCO := Lib.hid hcomp
  have HN := Lib.hid hns
  have HE := Lib.hid hE
  have HL := Lib.hid hl
  clear hc hsel hcomp hns hE htx
  have HSZ := Lib.hid (size_lets g cap ls _ hl (Nat.lt_of_lt_of_le hgw hb.size) (fun i t ht j u hu => (hb.cell (p := ⟨g, i * 9 + j, none⟩) hgw).trans (HC.out _ _ (letCells_at ls i t ht j u hu))))
  go_enter Tryz.func20, Tryz.ntmps20
  go_wp2_with fail
  refine Calls.mono HSZ.out ?_
  rintro e w1 ⟨rfl, hb1⟩
  dsimp only
  have hbw1 := below_then hb hb.size hb1
  have hq1 := (hb1.block _ (by simp)).trans hq
  have q0 : w1.cell? ⟨w.heap.size, 0, none⟩ = some (.slice none 0 0) := by rw [Lib.cell_of_heap hq1]; rfl
  have q1 : w1.cell? ⟨w.heap.size, 1, none⟩ = some (.slice (some ⟨g, 0, none⟩) ls.length cap) := by rw [Lib.cell_of_heap hq1]; rfl
  have q2 : w1.cell? ⟨w.heap.size, 2, none⟩ = some (.slice none 0 0) := by rw [Lib.cell_of_heap hq1]; rfl
  have q3 : w1.cell? ⟨w.heap.size, 3, none⟩ = some (.int .i64 0) := by rw [Lib.cell_of_heap hq1]; rfl
  have q4 : w1.cell? ⟨w.heap.size, 4, none⟩ = some (.bool false) := by rw [Lib.cell_of_heap hq1]; rfl
  have HSH := Lib.hid (sheet_lets g cap ls w1 hl h0 (Nat.lt_of_lt_of_le hgw hbw1.size) (fun j u hu => (hbw1.cell (p := ⟨g, j, none⟩) hgw).trans (HC.out j u hu)))
  have HB1 := Lib.hid hbw1
  clear hb hb1 hq hq1 hbw1
  go_wp2_with fail
  refine Calls.mono HSH.out ?_
  rintro e w2 ⟨g2, cap2, rfl, hg2a, hg2b, hc2, hb2⟩
  dsimp only
  have hbw2 := below_then HB1.out HB1.out.size hb2
  obtain ⟨W, hW⟩ : ∃ W, W = (w2.alloc (.map #[] 0)).alloc (.cells (prog8 (.slice (some ⟨g2, 0, none⟩) ls.length cap2) (.map (some w2.heap.size)) (.slice none 0 0)) 98) := ⟨_, rfl⟩
  have hb2W : Below w2.heap.size w2 W := by rw [hW]; exact ((Below.refl _ _).alloc (Nat.le_refl _) _).alloc (by simp) _
  have hp : W.heap[w2.heap.size + 1]? = some (.cells (prog8 (.slice (some ⟨g2, 0, none⟩) ls.length cap2) (.map (some w2.heap.size)) (.slice none 0 0)) 98 (0, 0)) := by rw [hW]; exact new_at _ _ (by simp)
  have hm : W.heap[w2.heap.size]? = some (.map #[] 0) := by rw [hW]; exact alloc_old _ (heap_alloc_new w2 _) rfl
  have hsW : W.heap.size = w2.heap.size + 2 := by rw [hW]; simp
  have hbW := below_then hbw2 hbw2.size hb2W
  have hcW : ∀ i t, ls[i]? = some t → ∀ j u, t.cells[j]? = some u → W.cell? ⟨g2, i * 9 + j, none⟩ = some u := fun i t ht j u hu => (hb2W.cell (p := ⟨g2, i * 9 + j, none⟩) hg2b).trans (hc2 _ _ (letCells_at ls i t ht j u hu))
  have p0 : W.cell? ⟨w2.heap.size + 1, 0, none⟩ = some (.slice none 0 0) := by rw [Lib.cell_of_heap hp]; rfl
  have p1 : W.cell? ⟨w2.heap.size + 1, 1, none⟩ = some (.slice (some ⟨g2, 0, none⟩) ls.length cap2) := by rw [Lib.cell_of_heap hp]; rfl
  have p6 : W.cell? ⟨w2.heap.size + 1, 6, none⟩ = some (.map (some w2.heap.size)) := by rw [Lib.cell_of_heap hp]; rfl
  have hcodes : CodesAt w2.heap.size W := ⟨#[], 0, hm, by simp, by simp, by simp⟩
  have HIN := Lib.hid (instrs_lets (w2.heap.size + 1) w2.heap.size g2 cap2 ls W (HE.out.below hbW) p6 hcodes HL.out hcW HS.out HCO.out)
  have HP := Lib.hid hp
  have HMM := Lib.hid hm
  have HBW := Lib.hid hbW
  have HCW := Lib.hid hcW
  have HP6 := Lib.hid p6
  have HSW := Lib.hid hsW
  have hg2W : g2 < W.heap.size := Nat.lt_of_lt_of_le hg2b hb2W.size
  have hne2 : g2 ≠ w2.heap.size := by omega
  have HNE := Lib.hid hne2
  have hwW := hbw2.size
  clear hc2 hb2 hbw2 hb2W hp hm hbW hcW hcodes p6 hsW hne2 q0 q1 q2 q3 q4
  have hmk := mk95
  go_wp2_with fail
  rw [← hW]
  clear hW
  go_loopw [31] (fun v wr => v = .int .i64 0 ∧ W = wr) (fun _ _ => 0)
  case atStart => exact ⟨rfl, rfl⟩
  case round =>
    obtain ⟨rfl, rfl⟩ := hrel
    go_wp2_with fail
    refine Calls.mono HIN.out ?_
    rintro e w3 ⟨rfl, hcd3, hg3⟩
    dsimp only
    have hp3 := (hg3.block _ (Array.getElem?_eq_some_iff.1 HP.out).1 (fun e => by have := Option.some.inj e; omega)).trans HP.out
    have p1' : w3.cell? ⟨w2.heap.size + 1, 1, none⟩ = some (.slice (some ⟨g2, 0, none⟩) ls.length cap2) := by rw [Lib.cell_of_heap hp3]; rfl
    have hb3 : Below w.heap.size w w3 := HBW.out.trans (below_of_grown hg3 hwW HBW.out.size)
    have HOR := Lib.hid (ordered_lets g2 cap2 ls nd w3 (HE.out.below hb3) HL.out (fun i t ht j u hu => (World.cell?_of_block (w := W) (a := ⟨g2, i * 9 + j, none⟩) (hg3.block g2 hg2W (fun e => HNE.out (Option.some.inj e)))).trans (HCW.out i t ht j u hu)) HS.out HN.out)
    have HP3 := Lib.hid hp3
    have HB3 := Lib.hid hb3
    clear hp3 hb3 hcd3 hg3
    go_wp2_with fail
    refine Calls.mono HOR.out ?_
    rintro e w4 ⟨hb4, out, hout, ⟨v, rfl, hown, hlen⟩ | ⟨rfl, hlen, hstuck⟩⟩
    · obtain ⟨A, nn, cc, rfl⟩ : ∃ A n c, v = .slice A n c := by
        rcases hown.2 with ⟨rfl, _⟩ | ⟨gg, cap, cur, rfl, _⟩
        · exact ⟨_, _, _, rfl⟩
        · exact ⟨_, _, _, rfl⟩
      have hp4 := (hb4.block _ (Array.getElem?_eq_some_iff.1 HP3.out).1).trans HP3.out
      have f7 : w4.frozen? ⟨w2.heap.size + 1, 7, none⟩ = false := by simp [World.frozen?, hp4]
      have p7 : w4.cell? ⟨w2.heap.size + 1, 7, none⟩ = some (.slice none 0 0) := by rw [Lib.cell_of_heap hp4]; rfl
      have HP4 := Lib.hid hp4
      have HB4 := Lib.hid (below_then HB3.out HB3.out.size hb4)
      have HOW := Lib.hid hown
      have HOUT := Lib.hid hout
      have HLEN := Lib.hid hlen
      have hlt3 := (Array.getElem?_eq_some_iff.1 HP3.out).1
      clear hp4 hb4 hown hout hlen
      dsimp only
      go_wp2_with fail
      go_ret2
      have hsz3 := HB3.out.size
      refine ⟨below_setCell' HB4.out (by omega), out, HOUT.out, .inl ⟨w2.heap.size + 1, rfl, ⟨_, World.cell?_setCell_same _ _ _ (by rw [Lib.cell_of_heap HP4.out]; rfl), ?_⟩, HLEN.out⟩⟩
      refine IntSlice.of_own (own_kept HOW.out fun k hk1 hk2 => ?_)
      exact Below.heap_setCell _ _ _ _ (show k ≠ w2.heap.size + 1 by omega)
    · have HB4 := Lib.hid (below_then HB3.out HB3.out.size hb4)
      have HOUT := Lib.hid hout
      have HLEN := Lib.hid hlen
      have HST := Lib.hid hstuck
      clear hb4 hout hlen hstuck
      dsimp only
      go_wp2_with fail
      go_ret2
      exact ⟨HB4.out, out, HOUT.out, .inr ⟨rfl, HLEN.out, HST.out⟩⟩
end Go.Proofs.YtaadhehcoegmhaaGreatDoor
/-
  Laid by the kit's programs (lay-iter.mjs, lay-plain.mjs) at this program: slices.Sorted(maps.Keys(m)) and strconv.ParseUint: a starting text.
-/
namespace Go.Proofs
open Go.Shelf
def Tryz.keys219_ren : Go.Shelf.Ren := ⟨fun | 7 => 219 | 10 => 282 | n => n, fun | 23 => 168 | 26 => 9 | 3 => 4 | 28 => 241 | 0 => 0 | 27 => 240 | 33 => 37 | 4 => 4 | n => n, fun | n => n⟩
theorem Tryz.keys219 : Go.Proofs.SlLaysZ.n7 Tryz.prog Tryz.keys219_ren := {
  mixed := by kernel_rfl
  f7 := ⟨Tryz.f219.name, by decide, Tryz.func219.trans (congrArg some (by kernel_rfl))⟩
  f10 := ⟨Tryz.f282.name, by decide, Tryz.func282.trans (congrArg some (by kernel_rfl))⟩
  t0 := Tryz.underlying0
  a0 := Tryz.isAgg0
  z0 := Tryz.sizeOf0
  v0 := Tryz.zeroValue0
  t4 := Tryz.underlying4
  a4 := Tryz.isAgg4
  z4 := Tryz.sizeOf4
  v4 := Tryz.zeroValue4
  t23 := Tryz.underlying168
  a23 := Tryz.isAgg168
  z23 := Tryz.sizeOf168
  v23 := Tryz.zeroValue168
  t26 := Tryz.underlying9
  a26 := Tryz.isAgg9
  z26 := Tryz.sizeOf9
  v26 := Tryz.zeroValue9
  t27 := Tryz.underlying240
  a27 := Tryz.isAgg240
  z27 := Tryz.sizeOf240
  v27 := Tryz.zeroValue240
  t28 := Tryz.underlying241
  a28 := Tryz.isAgg241
  z28 := Tryz.sizeOf241
  v28 := Tryz.zeroValue241
  t33 := Tryz.underlying37
  a33 := Tryz.isAgg37
  z33 := Tryz.sizeOf37
  v33 := Tryz.zeroValue37 }
def Tryz.sorted218_ren : Go.Shelf.Ren := ⟨fun | 6 => 218 | 8 => 280 | 9 => 281 | 11 => 319 | 13 => 98 | 12 => 320 | 23 => 154 | 24 => 155 | 14 => 344 | 15 => 345 | 16 => 346 | 17 => 347 | 18 => 348 | 19 => 349 | 20 => 350 | 21 => 351 | 22 => 352 | 25 => 363 | 26 => 202 | 27 => 203 | 28 => 364 | 29 => 365 | 30 => 366 | 31 => 373 | n => n, fun | 26 => 9 | 28 => 241 | 24 => 56 | 0 => 0 | 3 => 3 | 37 => 139 | 48 => 218 | 50 => 205 | 4 => 4 | 40 => 211 | 39 => 210 | 45 => 72 | 5 => 5 | 9 => 9 | 51 => 286 | 55 => 290 | 57 => 333 | 58 => 334 | 33 => 37 | n => n, fun | n => n⟩
theorem Tryz.sorted218 : Go.Proofs.SlLaysZ.n6 Tryz.prog Tryz.sorted218_ren := {
  mixed := by kernel_rfl
  f6 := ⟨Tryz.f218.name, by decide, Tryz.func218.trans (congrArg some (by kernel_rfl))⟩
  f8 := ⟨Tryz.f280.name, by decide, Tryz.func280.trans (congrArg some (by kernel_rfl))⟩
  f11 := ⟨Tryz.f319.name, by decide, Tryz.func319.trans (congrArg some (by kernel_rfl))⟩
  t0 := Tryz.underlying0
  a0 := Tryz.isAgg0
  z0 := Tryz.sizeOf0
  v0 := Tryz.zeroValue0
  t24 := Tryz.underlying56
  a24 := Tryz.isAgg56
  z24 := Tryz.sizeOf56
  v24 := Tryz.zeroValue56
  t26 := Tryz.underlying9
  a26 := Tryz.isAgg9
  z26 := Tryz.sizeOf9
  v26 := Tryz.zeroValue9
  t28 := Tryz.underlying241
  a28 := Tryz.isAgg241
  z28 := Tryz.sizeOf241
  v28 := Tryz.zeroValue241
  i26 := by kernel_rfl }
def Tryz.sort281_ren : Go.Shelf.Ren := ⟨fun | 6 => 281 | 8 => 98 | 9 => 320 | 19 => 154 | 20 => 155 | 21 => 344 | 22 => 345 | 23 => 346 | 24 => 347 | 25 => 348 | 26 => 349 | 27 => 350 | 28 => 351 | 29 => 352 | 36 => 363 | 31 => 202 | 32 => 203 | 37 => 364 | 38 => 365 | 39 => 366 | 41 => 373 | n => n, fun | 27 => 56 | 29 => 9 | 3 => 3 | 32 => 139 | 26 => 56 | 0 => 0 | 44 => 218 | 46 => 205 | 4 => 4 | 36 => 211 | 35 => 210 | 41 => 72 | 5 => 5 | 9 => 9 | 53 => 286 | 57 => 290 | 63 => 333 | 64 => 334 | n => n, fun | n => n⟩
theorem Tryz.sort281 : Go.Proofs.SlLaysM.n6 Tryz.prog Tryz.sort281_ren := {
  mixed := by kernel_rfl
  f6 := ⟨Tryz.f281.name, by decide, Tryz.func281.trans (congrArg some (by kernel_rfl))⟩
  f8 := Tryz.func98.trans (congrArg some (by kernel_rfl))
  f9 := ⟨Tryz.f320.name, by decide, Tryz.func320.trans (congrArg some (by kernel_rfl))⟩
  f19 := Tryz.func154.trans (congrArg some (by kernel_rfl))
  f20 := Tryz.func155.trans (congrArg some (by kernel_rfl))
  f21 := ⟨Tryz.f344.name, by decide, Tryz.func344.trans (congrArg some (by kernel_rfl))⟩
  f22 := ⟨Tryz.f345.name, by decide, Tryz.func345.trans (congrArg some (by kernel_rfl))⟩
  f23 := ⟨Tryz.f346.name, by decide, Tryz.func346.trans (congrArg some (by kernel_rfl))⟩
  f24 := ⟨Tryz.f347.name, by decide, Tryz.func347.trans (congrArg some (by kernel_rfl))⟩
  f25 := ⟨Tryz.f348.name, by decide, Tryz.func348.trans (congrArg some (by kernel_rfl))⟩
  f26 := ⟨Tryz.f349.name, by decide, Tryz.func349.trans (congrArg some (by kernel_rfl))⟩
  f27 := ⟨Tryz.f350.name, by decide, Tryz.func350.trans (congrArg some (by kernel_rfl))⟩
  f28 := ⟨Tryz.f351.name, by decide, Tryz.func351.trans (congrArg some (by kernel_rfl))⟩
  f29 := ⟨Tryz.f352.name, by decide, Tryz.func352.trans (congrArg some (by kernel_rfl))⟩
  f31 := Tryz.func202.trans (congrArg some (by kernel_rfl))
  f32 := Tryz.func203.trans (congrArg some (by kernel_rfl))
  f36 := ⟨Tryz.f363.name, by decide, Tryz.func363.trans (congrArg some (by kernel_rfl))⟩
  f37 := ⟨Tryz.f364.name, by decide, Tryz.func364.trans (congrArg some (by kernel_rfl))⟩
  f38 := ⟨Tryz.f365.name, by decide, Tryz.func365.trans (congrArg some (by kernel_rfl))⟩
  f39 := ⟨Tryz.f366.name, by decide, Tryz.func366.trans (congrArg some (by kernel_rfl))⟩
  f41 := ⟨Tryz.f373.name, by decide, Tryz.func373.trans (congrArg some (by kernel_rfl))⟩
  t0 := Tryz.underlying0
  a0 := Tryz.isAgg0
  z0 := Tryz.sizeOf0
  v0 := Tryz.zeroValue0
  t3 := Tryz.underlying3
  a3 := Tryz.isAgg3
  z3 := Tryz.sizeOf3
  v3 := Tryz.zeroValue3
  t4 := Tryz.underlying4
  a4 := Tryz.isAgg4
  z4 := Tryz.sizeOf4
  v4 := Tryz.zeroValue4
  t5 := Tryz.underlying5
  a5 := Tryz.isAgg5
  z5 := Tryz.sizeOf5
  v5 := Tryz.zeroValue5
  t9 := Tryz.underlying9
  a9 := Tryz.isAgg9
  z9 := Tryz.sizeOf9
  v9 := Tryz.zeroValue9
  t26 := Tryz.underlying56
  a26 := Tryz.isAgg56
  z26 := Tryz.sizeOf56
  v26 := Tryz.zeroValue56
  t27 := Tryz.underlying56
  a27 := Tryz.isAgg56
  z27 := Tryz.sizeOf56
  v27 := Tryz.zeroValue56
  t29 := Tryz.underlying9
  a29 := Tryz.isAgg9
  z29 := Tryz.sizeOf9
  v29 := Tryz.zeroValue9
  t32 := Tryz.underlying139
  a32 := Tryz.isAgg139
  z32 := Tryz.sizeOf139
  v32 := Tryz.zeroValue139
  t35 := Tryz.underlying210
  a35 := Tryz.isAgg210
  z35 := Tryz.sizeOf210
  v35 := Tryz.zeroValue210
  t36 := Tryz.underlying211
  a36 := Tryz.isAgg211
  z36 := Tryz.sizeOf211
  v36 := Tryz.zeroValue211
  t41 := Tryz.underlying72
  a41 := Tryz.isAgg72
  z41 := Tryz.sizeOf72
  v41 := Tryz.zeroValue72
  t44 := Tryz.underlying218
  a44 := Tryz.isAgg218
  z44 := Tryz.sizeOf218
  v44 := Tryz.zeroValue218
  t46 := Tryz.underlying205
  a46 := Tryz.isAgg205
  z46 := Tryz.sizeOf205
  v46 := Tryz.zeroValue205
  t53 := Tryz.underlying286
  a53 := Tryz.isAgg286
  z53 := Tryz.sizeOf286
  v53 := Tryz.zeroValue286
  t57 := Tryz.underlying290
  a57 := Tryz.isAgg290
  z57 := Tryz.sizeOf290
  v57 := Tryz.zeroValue290
  t63 := Tryz.underlying333
  a63 := Tryz.isAgg333
  z63 := Tryz.sizeOf333
  v63 := Tryz.zeroValue333
  t64 := Tryz.underlying334
  a64 := Tryz.isAgg334
  z64 := Tryz.sizeOf334
  v64 := Tryz.zeroValue334 }
def Tryz.laysPu14_ren : Go.Shelf.Ren := ⟨fun | 14 => 174 | 16 => 232 | 17 => 233 | 19 => 286 | 20 => 287 | 21 => 288 | 22 => 289 | 23 => 290 | 24 => 291 | 25 => 323 | 27 => 325 | 26 => 324 | 28 => 356 | 29 => 370 | 30 => 295 | 31 => 296 | 32 => 297 | 33 => 298 | 35 => 155 | 34 => 326 | 36 => 327 | 37 => 328 | 38 => 329 | 39 => 357 | 40 => 358 | n => n, fun | 9 => 9 | 3 => 3 | 22 => 205 | 24 => 194 | 25 => 251 | 4 => 4 | 34 => 366 | 5 => 5 | 36 => 139 | 37 => 42 | 0 => 0 | 39 => 368 | 21 => 21 | 44 => 396 | 47 => 269 | 50 => 417 | 48 => 415 | 2 => 2 | 52 => 374 | 55 => 376 | 59 => 399 | 60 => 218 | 20 => 20 | 61 => 400 | 65 => 429 | 66 => 430 | 67 => 197 | n => n, fun | 0 => 3 | 1 => 4 | 2 => 5 | 3 => 11 | 4 => 12 | n => n⟩
theorem Tryz.laysPu14 : Go.Proofs.LaysPu.n14 Tryz.prog Tryz.laysPu14_ren := {
  mixed := by kernel_rfl
  f14 := Tryz.func174.trans (congrArg some (by kernel_rfl))
  f16 := Tryz.func232.trans (congrArg some (by kernel_rfl))
  f17 := Tryz.func233.trans (congrArg some (by kernel_rfl))
  f19 := Tryz.func286.trans (congrArg some (by kernel_rfl))
  f20 := Tryz.func287.trans (congrArg some (by kernel_rfl))
  f21 := Tryz.func288.trans (congrArg some (by kernel_rfl))
  f22 := Tryz.func289.trans (congrArg some (by kernel_rfl))
  f23 := Tryz.func290.trans (congrArg some (by kernel_rfl))
  f24 := Tryz.func291.trans (congrArg some (by kernel_rfl))
  f25 := Tryz.func323.trans (congrArg some (by kernel_rfl))
  f26 := Tryz.func324.trans (congrArg some (by kernel_rfl))
  f27 := Tryz.func325.trans (congrArg some (by kernel_rfl))
  f28 := Tryz.func356.trans (congrArg some (by kernel_rfl))
  f29 := Tryz.func370.trans (congrArg some (by kernel_rfl))
  f30 := Tryz.func295.trans (congrArg some (by kernel_rfl))
  f31 := Tryz.func296.trans (congrArg some (by kernel_rfl))
  f32 := Tryz.func297.trans (congrArg some (by kernel_rfl))
  f33 := Tryz.func298.trans (congrArg some (by kernel_rfl))
  f34 := Tryz.func326.trans (congrArg some (by kernel_rfl))
  f35 := Tryz.func155.trans (congrArg some (by kernel_rfl))
  f36 := Tryz.func327.trans (congrArg some (by kernel_rfl))
  f37 := Tryz.func328.trans (congrArg some (by kernel_rfl))
  f38 := Tryz.func329.trans (congrArg some (by kernel_rfl))
  f39 := Tryz.func357.trans (congrArg some (by kernel_rfl))
  f40 := Tryz.func358.trans (congrArg some (by kernel_rfl))
  t0 := Tryz.underlying0
  a0 := Tryz.isAgg0
  z0 := Tryz.sizeOf0
  v0 := Tryz.zeroValue0
  i0 := by kernel_rfl
  t2 := Tryz.underlying2
  a2 := Tryz.isAgg2
  z2 := Tryz.sizeOf2
  v2 := Tryz.zeroValue2
  i2 := by kernel_rfl
  t3 := Tryz.underlying3
  a3 := Tryz.isAgg3
  z3 := Tryz.sizeOf3
  v3 := Tryz.zeroValue3
  i3 := by kernel_rfl
  t4 := Tryz.underlying4
  a4 := Tryz.isAgg4
  z4 := Tryz.sizeOf4
  v4 := Tryz.zeroValue4
  i4 := by kernel_rfl
  t5 := Tryz.underlying5
  a5 := Tryz.isAgg5
  z5 := Tryz.sizeOf5
  v5 := Tryz.zeroValue5
  i5 := by kernel_rfl
  t9 := Tryz.underlying9
  a9 := Tryz.isAgg9
  z9 := Tryz.sizeOf9
  v9 := Tryz.zeroValue9
  i9 := by kernel_rfl
  t20 := Tryz.underlying20
  a20 := Tryz.isAgg20
  z20 := Tryz.sizeOf20
  v20 := Tryz.zeroValue20
  i20 := by kernel_rfl
  t21 := Tryz.underlying21
  a21 := Tryz.isAgg21
  z21 := Tryz.sizeOf21
  v21 := Tryz.zeroValue21
  i21 := by kernel_rfl
  t22 := Tryz.underlying205
  a22 := Tryz.isAgg205
  z22 := Tryz.sizeOf205
  v22 := Tryz.zeroValue205
  i22 := by kernel_rfl
  t24 := Tryz.underlying194
  a24 := Tryz.isAgg194
  z24 := Tryz.sizeOf194
  v24 := Tryz.zeroValue194
  i24 := by kernel_rfl
  t25 := Tryz.underlying251
  a25 := Tryz.isAgg251
  z25 := Tryz.sizeOf251
  v25 := Tryz.zeroValue251
  i25 := by kernel_rfl
  t34 := Tryz.underlying366
  a34 := Tryz.isAgg366
  z34 := Tryz.sizeOf366
  v34 := Tryz.zeroValue366
  i34 := by kernel_rfl
  c34 := by kernel_rfl
  t36 := Tryz.underlying139
  a36 := Tryz.isAgg139
  z36 := Tryz.sizeOf139
  v36 := Tryz.zeroValue139
  i36 := by kernel_rfl
  t37 := Tryz.underlying42
  a37 := Tryz.isAgg42
  z37 := Tryz.sizeOf42
  v37 := Tryz.zeroValue42
  i37 := by kernel_rfl
  t39 := Tryz.underlying368
  a39 := Tryz.isAgg368
  z39 := Tryz.sizeOf368
  v39 := Tryz.zeroValue368
  i39 := by kernel_rfl
  t44 := Tryz.underlying396
  a44 := Tryz.isAgg396
  z44 := Tryz.sizeOf396
  v44 := Tryz.zeroValue396
  i44 := by kernel_rfl
  t47 := Tryz.underlying269
  a47 := Tryz.isAgg269
  z47 := Tryz.sizeOf269
  v47 := Tryz.zeroValue269
  i47 := by kernel_rfl
  t48 := Tryz.underlying415
  a48 := Tryz.isAgg415
  z48 := Tryz.sizeOf415
  v48 := Tryz.zeroValue415
  i48 := by kernel_rfl
  t50 := Tryz.underlying417
  a50 := Tryz.isAgg417
  z50 := Tryz.sizeOf417
  v50 := Tryz.zeroValue417
  i50 := by kernel_rfl
  t52 := Tryz.underlying374
  a52 := Tryz.isAgg374
  z52 := Tryz.sizeOf374
  v52 := Tryz.zeroValue374
  i52 := by kernel_rfl
  t55 := Tryz.underlying376
  a55 := Tryz.isAgg376
  z55 := Tryz.sizeOf376
  v55 := Tryz.zeroValue376
  i55 := by kernel_rfl
  t59 := Tryz.underlying399
  a59 := Tryz.isAgg399
  z59 := Tryz.sizeOf399
  v59 := Tryz.zeroValue399
  i59 := by kernel_rfl
  t60 := Tryz.underlying218
  a60 := Tryz.isAgg218
  z60 := Tryz.sizeOf218
  v60 := Tryz.zeroValue218
  i60 := by kernel_rfl
  t61 := Tryz.underlying400
  a61 := Tryz.isAgg400
  z61 := Tryz.sizeOf400
  t65 := Tryz.underlying429
  a65 := Tryz.isAgg429
  z65 := Tryz.sizeOf429
  v65 := Tryz.zeroValue429
  i65 := by kernel_rfl
  t66 := Tryz.underlying430
  a66 := Tryz.isAgg430
  z66 := Tryz.sizeOf430
  v66 := Tryz.zeroValue430
  i66 := by kernel_rfl
  t67 := Tryz.underlying197
  a67 := Tryz.isAgg197
  z67 := Tryz.sizeOf197
  v67 := Tryz.zeroValue197
  i67 := by kernel_rfl
  g0 := by kernel_rfl
  m0 := by kernel_rfl
  g1 := by kernel_rfl
  m1 := by kernel_rfl
  g2 := by kernel_rfl
  m2 := by kernel_rfl
  g3 := by kernel_rfl
  m3 := by kernel_rfl
  g4 := by kernel_rfl
  m4 := by kernel_rfl }
open Go.RowKit Go.Maps Go.Sort
/-- slices.Sort's two contracts at this dump, at the fence that asks nothing. -/
theorem Tryz.sorts218 (m : Nat) : AnyZ.SortsIn Tryz.prog Tryz.sorted218_ren Fence.wide m :=
  ⟨fun blk off cap ss W hH hblk hsz => callsIn_wide.2 (AnyM.slices_Sort_string Tryz.sort281 blk off cap ss W hH hblk hsz),
   fun p cap W => callsIn_wide.2 (AnyM.slices_Sort_string_none Tryz.sort281 p cap W)⟩

/-- **maps.Keys[map[string]bool,string,bool], at whatever map, the nil one too:** a function value over ONE NEW BLOCK, which holds the map. -/
theorem Tryz.maps_Keys_219 (mb : Option Nat) (W : World) : CallsIn Fence.wide 5 Tryz.prog 219 #[.map mb] W fun e w' => e = .returned (.func (.func 282) #[] #[.pointer (some ⟨W.heap.size, 0, none⟩)]) ∧ w' = W.alloc (.cells #[.map mb] 168) :=
  AnyZ.keys_in Tryz.keys219 Fence.wide 5 trivial rfl mb W

set_option maxHeartbeats 1000000 in
/-- **slices.Sorted[string] AT WHAT maps.Keys[map[string]bool,string,bool] HANDED BACK FOR A MAP THAT IS NOT nil** ('w': the world AHEAD of maps.Keys' call): A NEW SLICE THAT HOLDS THE MAP's KEYS, SORTED; nil just where it has none; nothing that lay before has turned. -/
theorem Tryz.slices_Sorted_keys_218_219 {H : Type} (b nn : Nat) (D0 : DataW H) (R : Value → Option (DataW H × List MemPlace)) (w : World) (hown : w.ownsMap Tryz.prog 9 R b nn D0) (hmax : Maps.size D0 ≤ maxLen) (hbytes : Maps.size D0 * 16 ≤ 140737488355328) :
    CallsIn Fence.wide 5 Tryz.prog 218 #[.func (.func 282) #[] #[.pointer (some ⟨w.heap.size, 0, none⟩)]] (w.alloc (.cells #[.map (some b)] 168)) fun e w' => ∃ (v : Value) (ss : List (List UInt8)), e = .returned v ∧ ss.Perm (strKeys D0) ∧
      w'.ownsRow (w.alloc (.cells #[.map (some b)] 168)).heap.size 9 1 v ss.length ((ss.mergeSort (fun x y => decide (x ≤ y))).map encStr) ∧ (v = .slice none 0 0 ↔ ss = []) ∧ Below (w.alloc (.cells #[.map (some b)] 168)).heap.size (w.alloc (.cells #[.map (some b)] 168)) w' := by
  have hbl := hown.lt
  have hseq : SeqGives Fence.wide 2 Tryz.prog 282 #[.pointer (some ⟨w.heap.size, 0, none⟩)] encStr (fun ss => ss.Perm (strKeys D0)) (Maps.size D0) (w.alloc (.cells #[.map (some b)] 168)) :=
    AnyZ.keys_gives (ρ := Tryz.keys219_ren) { Tryz.keys219 with } Fence.wide _ trivial rfl (by omega) w.heap.size b nn D0 _ (by simp) (by simp) (by
      obtain ⟨es, clock, hb, Ft, hs, hD⟩ := hown
      exact ⟨es, clock, (Below.heap_alloc _ _ b hbl).trans hb, Ft, hs, hD⟩)
  exact AnyZ.sorted_in Tryz.sorted218 Fence.wide 5 trivial trivial trivial trivial rfl (by omega) (Tryz.sorts218 _) (enters_of Tryz.func281 (by kernel_rfl) rfl) 282 #[.pointer (some ⟨w.heap.size, 0, none⟩)] trivial (enters_of Tryz.func282 (by kernel_rfl) rfl) _ _ hmax hbytes _ hseq

set_option maxHeartbeats 1000000 in
/-- **.. AND FOR THE nil MAP: nil.** -/
theorem Tryz.slices_Sorted_keys_nil_218_219 (w : World) :
    CallsIn Fence.wide 5 Tryz.prog 218 #[.func (.func 282) #[] #[.pointer (some ⟨w.heap.size, 0, none⟩)]] (w.alloc (.cells #[.map none] 168)) fun e w' => ∃ (v : Value) (ss : List (List UInt8)), e = .returned v ∧ ss = [] ∧
      w'.ownsRow (w.alloc (.cells #[.map none] 168)).heap.size 9 1 v ss.length ((ss.mergeSort (fun x y => decide (x ≤ y))).map encStr) ∧ (v = .slice none 0 0 ↔ ss = []) ∧ Below (w.alloc (.cells #[.map none] 168)).heap.size (w.alloc (.cells #[.map none] 168)) w' := by
  have hseq : SeqGives Fence.wide 2 Tryz.prog 282 #[.pointer (some ⟨w.heap.size, 0, none⟩)] encStr (fun ss : List (List UInt8) => ss = []) 0 (w.alloc (.cells #[.map none] 168)) :=
    AnyZ.keys_gives_nil (ρ := Tryz.keys219_ren) { Tryz.keys219 with } Fence.wide _ trivial rfl w.heap.size _ (by simp) (by simp)
  exact AnyZ.sorted_in Tryz.sorted218 Fence.wide 5 trivial trivial trivial trivial rfl (by omega) (Tryz.sorts218 _) (enters_of Tryz.func281 (by kernel_rfl) rfl) 282 #[.pointer (some ⟨w.heap.size, 0, none⟩)] trivial (enters_of Tryz.func282 (by kernel_rfl) rfl) _ 0 (Nat.zero_le _) (by omega) _ hseq

end Go.Proofs
/- xnum.Parse at one digit; a number as primary; Parse at one number. -/
namespace Go.Proofs.YtaadhehcoegmhaaGreatDoor
open Go Go.RowKit

set_option maxRecDepth 100000 in
theorem info314 : (Tryz.prog.info? 314).map (·.size) = some 256 := by kernel_rfl

theorem trim_set (l cut : List UInt8) (w : World) (h2 : 2 ≤ cut.length) (h3 : cut.length ≤ 100) (hl0 : 0 < l.length) (hl : l.length ≤ 1000) (ha : cut.all (fun b => decide (b.toNat < 128)) = true) :
    Calls Tryz.prog 173 #[.string (bs l), .string (bs cut)] w fun e w' => e = .returned (.string (bs (Lib.trimS l cut))) ∧ Below w.heap.size w w' := by
  refine Calls.mono (Any.strings_Trim_set Tryz.lays160 zero314 info314 (bs l) (bs cut) w (by rw [bs_size]; omega) (by rw [bs_size]; omega) (by rw [bs_size]; omega) (by rw [bs_size]; omega) ?_) ?_
  · intro j b hj
    have := List.all_eq_true.1 ha b (List.mem_of_getElem? hj)
    simpa using this
  · rintro e w' ⟨rfl, q, rfl⟩
    exact ⟨rfl, below_drewN (((Below.refl _ _).alloc (Nat.le_refl _) _).alloc (by simp) _) q⟩
theorem cutPrefix_any (l p : List UInt8) (w : World) : Calls Tryz.prog 172 #[.string (bs l), .string (bs p)] w fun e w' => e = .returned (.tuple #[.string (bs (Lib.trimPrefix l p)), .bool (Lib.hasPrefix l p)]) ∧ Below w.heap.size w w' :=
  Calls.mono (Tryz.strings_CutPrefix (bs l) (bs p) w) fun _ _ ⟨h1, h2⟩ => ⟨h1, h2 ▸ Below.refl _ _⟩
theorem parseUint_ok (l : List UInt8) (u : Nat) (hl : l.length ≤ 1000) (h : Lib.parseUintB 64 l = .ok u) (w : World) :
    Calls Tryz.prog 174 #[.string (bs l), .int .i64 10, .int .i64 64] w fun e w' => e = .returned (.tuple #[.int .u64 u, .nilIface]) ∧ Below w.heap.size w w' := by
  refine Calls.mono (Any.strconv_ParseUint_10_at64_ok Tryz.laysPu14 (bs l) (by rw [bs_size]; omega) u h w) ?_
  rintro e w' ⟨h1, h2⟩
  refine ⟨h1, ?_⟩
  rcases h2 with rfl | rfl
  · exact Below.refl _ _
  · exact Lib.below_freeze (((Below.refl _ _).drew).alloc (Nat.le_refl _) _) (Nat.le_refl _) 1

/-- The number that one digit says. -/
def digV (d : UInt8) : Int := if d = 49 then 1000000 else 0

theorem bs_app (a b : List UInt8) : bs a ++ bs b = bs (a ++ b) := by
  apply ByteArray.ext
  simp

/-- A digit that the statements' texts name. -/
def IsDig (d : UInt8) : Prop := d = 48 ∨ d = 49

set_option maxRecDepth 100000 in
set_option maxHeartbeats 4000000 in
theorem numParse_dig (d : UInt8) (hd : IsDig d) (w : World) (hE : Env w) : Calls Tryz.prog 119 #[.string (bs [d])] w fun e w' => e = .returned (.agg #[.int .i64 0, .int .i64 (digV d)]) ∧ Below w.heap.size w w' := by
  have hg0 := heap_alloc_new w (.cells #[.int .i64 0, .int .i64 0] 29)
  have hb0 : Below w.heap.size w (w.alloc (.cells #[.int .i64 0, .int .i64 0] 29)) := (Below.refl _ _).alloc (Nat.le_refl _) _
  have t1 : Lib.trimS [d] [9, 10, 13, 32] = [d] := by rcases hd with rfl | rfl <;> decide
  have t2 : Lib.trimPrefix [d] [45] = [d] ∧ Lib.hasPrefix [d] [45] = false := by rcases hd with rfl | rfl <;> decide
  have t3 : Lib.cut [d] [46] = ([d], [], false) := by rcases hd with rfl | rfl <;> decide
  have t4 : Lib.trimS [d] [48, 49, 50, 51, 52, 53, 54, 55, 56, 57] = [] := by rcases hd with rfl | rfl <;> decide
  have t5 : Lib.parseUintB 64 [d, 48, 48, 48, 48, 48, 48] = .ok (digV d).toNat := by rcases hd with rfl | rfl <;> decide
  have t6 : 0 ≤ digV d ∧ digV d ≤ 1000000 := by rcases hd with rfl | rfl <;> decide
  have T1 := Lib.hid t1
  have T2 := Lib.hid t2
  have T3 := Lib.hid t3
  have T4 := Lib.hid t4
  have T5 := Lib.hid t5
  have T6 := Lib.hid t6
  have hs1 : (bs [d]).size = 1 := rfl
  clear t1 t2 t3 t4 t5 t6 hd
  go_enter Tryz.func119, Tryz.ntmps119
  go_wp2_with fail
  refine Calls.mono (trim_set [d] [9, 10, 13, 32] _ (by simp) (by simp) (by simp) (by simp) (by decide)) ?_
  rintro e w1 ⟨rfl, hb1⟩
  dsimp only
  rw [T1.out]
  have hb01 := below_then hb0 hb0.size hb1
  have hg1 := (hb1.block w.heap.size (by simp)).trans hg0
  have HB1 := Lib.hid hb01
  have HG1 := Lib.hid hg1
  clear hg0 hb0 hb1 hb01 hg1
  go_wp2_with fail
  refine Calls.mono (cutPrefix_any [d] [45] _) ?_
  rintro e w2 ⟨rfl, hb2⟩
  dsimp only
  rw [T2.out.1, T2.out.2]
  have HB2 := Lib.hid (below_then HB1.out HB1.out.size hb2)
  have HG2 := Lib.hid ((hb2.block w.heap.size (Array.getElem?_eq_some_iff.1 HG1.out).1).trans HG1.out)
  clear hb2
  go_wp2_with fail
  refine Calls.mono (str_cut (bs [d]) (bs [46]) _ (hE.below HB2.out) (by simp [ByteArray.size])) ?_
  rintro e w3 ⟨rfl, hb3⟩
  dsimp only
  rw [T3.out]
  have HB3 := Lib.hid (below_then HB2.out HB2.out.size hb3)
  have HG3 := Lib.hid ((hb3.block w.heap.size (Array.getElem?_eq_some_iff.1 HG2.out).1).trans HG2.out)
  clear hb3
  dsimp only
  have happ : (bs [d] ++ bs [] : ByteArray) = bs [d] := by rw [bs_app]; rfl
  have hne : (bs [d] == (⟨#[]⟩ : ByteArray)) = false := rfl
  have hno : ¬ 9223372036854775807 < (bs [d]).size + (bs []).size := by rw [bs_size, bs_size]; simp
  go_wp2_with fail
  refine Calls.mono (trim_set [d] [48, 49, 50, 51, 52, 53, 54, 55, 56, 57] _ (by simp) (by simp) (by simp) (by simp) (by decide)) ?_
  rintro e w4 ⟨rfl, hb4⟩
  dsimp only
  rw [T4.out]
  have HB4 := Lib.hid (below_then HB3.out HB3.out.size hb4)
  have HG4 := Lib.hid ((hb4.block w.heap.size (Array.getElem?_eq_some_iff.1 HG3.out).1).trans HG3.out)
  clear hb4
  have h6 : (bs [] ++ bs [48, 48, 48, 48, 48, 48] : ByteArray) = bs [48, 48, 48, 48, 48, 48] := by rw [bs_app]; rfl
  have h7 : (bs [48, 48, 48, 48, 48, 48]).size = 6 := rfl
  have h8 : (bs [48, 48, 48, 48, 48, 48]).extract 0 6 = bs [48, 48, 48, 48, 48, 48] := bs_take _ 6
  have h9 : (bs [d] ++ bs [48, 48, 48, 48, 48, 48] : ByteArray) = bs [d, 48, 48, 48, 48, 48, 48] := by rw [bs_app]; rfl
  have hno2 : ¬ 9223372036854775807 < (bs []).size + (bs [48, 48, 48, 48, 48, 48]).size := by rw [bs_size, bs_size]; simp
  have hno3 : ¬ 9223372036854775807 < (bs [d]).size + (bs [48, 48, 48, 48, 48, 48]).size := by rw [bs_size, bs_size]; simp
  go_wp2_with fail
  refine Calls.mono (parseUint_ok [d, 48, 48, 48, 48, 48, 48] _ (by simp) T5.out _) ?_
  rintro e w5 ⟨rfl, hb5⟩
  dsimp only
  have HB5 := Lib.hid (below_then HB4.out HB4.out.size hb5)
  have HG5 := Lib.hid ((hb5.block w.heap.size (Array.getElem?_eq_some_iff.1 HG4.out).1).trans HG4.out)
  clear hb5
  have hcast : ((digV d).toNat : Int) = digV d := by have := T6.out.1; omega
  rw [hcast]
  clear hcast
  go_wp2_with fail
  refine Calls.mono (fin_any (digV d) _ T6.out.1 (by have := T6.out.2; omega)) ?_
  rintro e w6 ⟨rfl, hb6⟩
  dsimp only
  have HB6 := Lib.hid (below_then HB5.out HB5.out.size hb6)
  have HG6 := Lib.hid ((hb6.block w.heap.size (Array.getElem?_eq_some_iff.1 HG5.out).1).trans HG5.out)
  clear hb6
  go_wp2_with (refine wpList_store_row rfl 29 (.tmp 2) (.tmp 49) rfl w.heap.size #[.int .i64 0, .int .i64 (digV d)] rfl rfl 29 _ HG6.out (by kernel_rfl) rfl (by simp [Value.oneCell']) ?_)
  exact bodyPost_ret (results_cell_row Tryz.results119 _ _ (w.heap.size) 29 _ (0, 0) _ rfl (setRow_heap _ _ _ _ 29 _ HG6.out) Tryz.underlying29 rfl (by kernel_rfl)) rfl ⟨rfl, below_setRow HB6.out (Nat.le_refl _)⟩

set_option maxRecDepth 100000 in
set_option maxHeartbeats 4000000 in
theorem primary_num (B p : Nat) (d : UInt8) (hd : IsDig d) (at_ : Nat) (ts : List Lx) (w : World) (h : Par B p (⟨1, [d], at_⟩ :: ts) w) (hn : ts.length ≤ 1000) :
    Calls Tryz.prog 330 #[.pointer (some ⟨p, 0, none⟩)] w fun e w' => e = .returned (.tuple #[.agg (leafCells 16 [] 0 (digV d) (.slice none 0 0)).toArray, .bool true]) ∧ Par B p ts w' ∧ w.grownBy w' (some p) := by
  have hpw : p < w.heap.size := Nat.lt_of_lt_of_le h.lt h.le
  have hBw := h.le
  have hg0 := heap_alloc_new w (.cells #[.int .i64 0, .string ⟨#[]⟩, .int .i64 0, .int .i64 0, .int .i64 0, .int .i64 0, .slice none 0 0] 155)
  have hb0 : Below w.heap.size w (w.alloc (.cells #[.int .i64 0, .string ⟨#[]⟩, .int .i64 0, .int .i64 0, .int .i64 0, .int .i64 0, .slice none 0 0] 155)) := (Below.refl _ _).alloc (Nat.le_refl _) _
  have hP0 := Lib.hid (h.below hb0)
  have HD := Lib.hid hd
  clear h hd
  go_enter Tryz.func330, Tryz.ntmps330
  go_wp2_with fail
  refine Calls.mono (peek_any B p _ _ hP0.out) ?_
  rintro e w1 ⟨rfl, hb1⟩
  dsimp only
  simp only [headLx, Lx.val]
  obtain ⟨hp1, hp2, hp3⟩ := put_new w1 #[.int .i64 0, .string ⟨#[]⟩, .int .i64 0] #[.int .i64 1, .string (bs [d]), .int .i64 at_] 347
  have HGA := Lib.hid (heap_alloc_new w1 (.cells #[.int .i64 0, .string ⟨#[]⟩, .int .i64 0] 347))
  obtain ⟨W, hW⟩ : ∃ W, W = (w1.alloc (.cells #[.int .i64 0, .string ⟨#[]⟩, .int .i64 0] 347)).setRow w1.heap.size #[.int .i64 1, .string (bs [d]), .int .i64 at_] := ⟨_, rfl⟩
  rw [← hW] at hp1 hp2 hp3
  have HW := Lib.hid hW
  have hbw1 := below_then hb0 hb0.size hb1
  have hbw := below_then hbw1 hbw1.size hp1
  have hgW := (hp1.block _ (by have := hb1.size; simp at this; omega)).trans ((hb1.block _ (by simp)).trans hg0)
  have hPW := Lib.hid ((hP0.out.below hb1).below hp1)
  have q0 : W.cell? ⟨w1.heap.size, 0, none⟩ = some (.int .i64 1) := by rw [Lib.cell_of_heap hp2]; rfl
  have HGW := Lib.hid hgW
  have HBW := Lib.hid hbw
  clear hp1 hp2 hb1 hbw hW hg0 hb0 hgW hbw1
  go_wp2_with (refine wpList_store_row rfl 347 (.tmp 4) (.tmp 12) rfl w1.heap.size #[.int .i64 1, .string (bs [d]), .int .i64 at_] rfl rfl 347 _ HGA.out (by kernel_rfl) rfl (by simp [Value.oneCell']) ?_; rw [← HW.out])
  refine Calls.mono (pass_any B p _ ts _ hPW.out hn) ?_
  rintro e w2 ⟨rfl, hP2, hgr⟩
  dsimp only
  simp only [Lx.val]
  have hg2 := (hgr.block w.heap.size (Array.getElem?_eq_some_iff.1 HGW.out).1 (by intro e; cases e; omega)).trans HGW.out
  have hE2 := hP2.env
  have hplow := hP2.low
  have HG2 := Lib.hid hg2
  have HP2 := Lib.hid hP2
  have hfd := field_text 1 at_ [d]
  have HGR := Lib.hid ((grown_of_below HBW.out (some p)).trans hgr)
  clear hg2 hP2 hgr
  go_wp2_with fail
  refine Calls.mono (numParse_dig d HD.out w2 hE2) ?_
  rintro e w3 ⟨rfl, hb3⟩
  dsimp only
  obtain ⟨hp1, hp2, hp3⟩ := put_new w3 #[.int .i64 0, .int .i64 0] #[.int .i64 0, .int .i64 (digV d)] 29
  have HGB := Lib.hid (heap_alloc_new w3 (.cells #[.int .i64 0, .int .i64 0] 29))
  obtain ⟨W4, hW4⟩ : ∃ W4, W4 = (w3.alloc (.cells #[.int .i64 0, .int .i64 0] 29)).setRow w3.heap.size #[.int .i64 0, .int .i64 (digV d)] := ⟨_, rfl⟩
  rw [← hW4] at hp1 hp2 hp3
  have HW4 := Lib.hid hW4
  have n0 : W4.cell? ⟨w3.heap.size, 0, none⟩ = some (.int .i64 0) := by rw [Lib.cell_of_heap hp2]; rfl
  have n1 : W4.cell? ⟨w3.heap.size, 1, none⟩ = some (.int .i64 (digV d)) := by rw [Lib.cell_of_heap hp2]; rfl
  have hb24 : Below w2.heap.size w2 W4 := below_then hb3 hb3.size hp1
  have HG4 := Lib.hid ((hb24.block _ (Array.getElem?_eq_some_iff.1 HG2.out).1).trans HG2.out)
  have HP4 := Lib.hid (HP2.out.below hb24)
  have HGR4 := Lib.hid (HGR.out.trans (grown_of_below hb24 _))
  clear hp1 hp2 hp3 hW4 hb24 hb3 hE2
  go_wp2_with (first
    | (refine wpList_store_row rfl 29 (.tmp 5) (.tmp 38) rfl w3.heap.size #[.int .i64 0, .int .i64 (digV d)] rfl rfl 29 _ HGB.out (by kernel_rfl) rfl (by simp [Value.oneCell']) ?_; rw [← HW4.out])
    | (refine wpList_store_row rfl 155 (.tmp 2) (.tmp 45) rfl w.heap.size #[.int .i64 16, .string ⟨#[]⟩, .int .i64 0, .int .i64 (digV d), .int .i64 0, .int .i64 0, .slice none 0 0] rfl rfl 155 _ HG4.out (by kernel_rfl) rfl (by simp [Value.oneCell']) ?_))
  exact bodyPost_ret (results_cell_tmp Tryz.results330 _ _ (w.heap.size) 155 _ (0, 0) _ rfl (setRow_heap _ _ _ _ 155 _ HG4.out) Tryz.underlying155 rfl (by kernel_rfl)) rfl ⟨rfl, HP4.out.setRow hBw, grown_setRow HGR4.out (Nat.le_refl _)⟩

theorem parse_dig (d : UInt8) (hd : IsDig d) (w : World) (hE : Env w) :
    Calls Tryz.prog 104 #[.string (bs [d])] w fun e w' => e = .returned (.tuple #[.agg (leaf7 16 [] 0 (digV d)), .int .i64 0]) ∧ Below w.heap.size w w' :=
  parse_leaf (.num d) hd 16 0 (digV d) [] (.num 0 (digV d)) (by show (1 : Int) ≠ 8; decide) (fun _ _ => rfl) (fun _ _ _ h => h) (fun B p w h => primary_num B p d hd 0 [] w h (by simp)) w hE
end Go.Proofs.YtaadhehcoegmhaaGreatDoor
/- The set of names that Names collects; its keys sorted. -/
namespace Go.Proofs.YtaadhehcoegmhaaGreatDoor
open Go Go.RowKit Go.Shelf

/-- The variables of an expression, from left to right. -/
def Ex.vars : Ex → List (List UInt8)
  | .num _ _ => []
  | .var t => [t]
  | .add a b => a.vars ++ b.vars

/-- A set of names whose entries are stamped. -/
structure NameSet (m : Nat) (ns : List (List UInt8)) (w : World) : Prop where
  out : ∃ es clock, w.heap[m]? = some (.map es clock) ∧ SetRows es.toList ns ∧ (∀ y ∈ es.toList, y.born < clock) ∧ (es.toList.map (·.born)).Nodup
theorem NameSet.grown {m : Nat} {ns : List (List UInt8)} {w w' : World} {row : Option Nat} (h : NameSet m ns w) (hg : w.grownBy w' row) (hr : some m ≠ row) : NameSet m ns w' := by
  obtain ⟨es, clock, hm, rest⟩ := h.out
  exact ⟨es, clock, (hg.block m (Array.getElem?_eq_some_iff.1 hm).1 hr).trans hm, rest⟩
theorem NameSet.below {m : Nat} {ns : List (List UInt8)} {w w' : World} (h : NameSet m ns w) (hb : Below w.heap.size w w') : NameSet m ns w' := h.grown (grown_of_below hb none) (by simp)
theorem NameSet.lt {m : Nat} {ns : List (List UInt8)} {w : World} (h : NameSet m ns w) : m < w.heap.size := by
  obtain ⟨es, clock, hm, _⟩ := h.out
  exact (Array.getElem?_eq_some_iff.1 hm).1
theorem nameSet_insert {m : Nat} {ns : List (List UInt8)} {w : World} (h : NameSet m ns w) (s : List UInt8) (hs : s ∉ ns) :
    ∃ W, (Instr.mapUpdate 168 (.map (some m)) (.string (bs s)) (.bool true)).run Tryz.prog w = .ok () W ∧ NameSet m (ns ++ [s]) W ∧ w.grownBy W (some m) ∧ W.heap.size = w.heap.size := by
  obtain ⟨es, clock, hm, hr, hb, hnd⟩ := h.out
  have hlt : m < w.heap.size := (Array.getElem?_eq_some_iff.1 hm).1
  refine ⟨_, run_insert_new Tryz.underlying168 Tryz.underlying9 hm hr (bs s) (rowAt_none s _ hs) (.bool true), ?_, grownBy_setIn _, by simp⟩
  refine ⟨es.push ⟨.string (bs s), .bool true, clock⟩, clock + 1, by simp [hlt], ?_, fun y hy => ?_, ?_⟩
  · unfold SetRows
    rw [Array.toList_push, List.map_append]
    exact KeyRows.snoc (x := ()) rfl hr
  · rw [Array.toList_push, List.mem_append] at hy
    rcases hy with hy | hy
    · have := hb y hy; omega
    · simp at hy; subst hy; simp
  · simp only [Array.toList_push, List.map_append, List.nodup_append, List.map_cons, List.map_nil]
    refine ⟨hnd, by simp, ?_⟩
    rintro a ha b hb' rfl
    obtain ⟨y, hy, rfl⟩ := List.mem_map.1 ha
    have := hb y hy
    simp at hb'
    omega

theorem setRows_mem : ∀ {es : List MapEntry} {ns : List (List UInt8)}, SetRows es ns → ∀ y ∈ es, ∃ s ∈ ns, y.key = .string (bs s) ∧ y.val = .bool true
  | [], [], _, y, hy => by simp at hy
  | [], _ :: _, h, _, _ => h.elim
  | _ :: _, [], h, _, _ => h.elim
  | e :: es, n :: ns, h, y, hy => by
    rcases List.mem_cons.1 hy with rfl | hy
    · exact ⟨n, by simp, h.1, h.2.1⟩
    · obtain ⟨s, h1, h2⟩ := setRows_mem (es := es) (ns := ns) h.2.2 y hy
      exact ⟨s, by simp [h1], h2⟩
theorem setRows_keys : ∀ {es : List MapEntry} {ns : List (List UInt8)}, SetRows es ns → es.map (·.key) = ns.map fun s => Value.string (bs s)
  | [], [], _ => rfl
  | [], _ :: _, h => h.elim
  | _ :: _, [], h => h.elim
  | e :: es, n :: ns, h => by
    simp only [List.map_cons]
    rw [h.1, setRows_keys (es := es) (ns := ns) h.2.2]
theorem setRows_length : ∀ {es : List MapEntry} {ns : List (List UInt8)}, SetRows es ns → es.length = ns.length
  | [], [], _ => rfl
  | [], _ :: _, h => h.elim
  | _ :: _, [], h => h.elim
  | e :: es, n :: ns, h => by simp [setRows_length (es := es) (ns := ns) h.2.2]

noncomputable abbrev plainB : Value → Option (DataW Unit × List MemPlace) := plainElem Tryz.prog 4
theorem rd_name (e : MapEntry) (s : List UInt8) (hs : s.length ≤ 1000) (hk : e.key = .string (bs s)) (hv : e.val = .bool true) : WideElems.rd Tryz.prog 9 plainB e = some (.string s, .lit (.bool true)) := by
  have h1 : keyOf Tryz.prog 9 (.string (bs s)) = some (.string s) := by
    have := WideMaps.keyOf_string_mk (P := Tryz.prog) Tryz.underlying9 (s := bs s) (by rw [bs_size]; simp [maxLen]; omega)
    simpa using this
  unfold WideElems.rd
  rw [hk, hv, h1]
  simp [plainB, plainElem_bool Tryz.underlying4]

/-- As the kit's laws have it. -/
theorem NameSet.owns {m : Nat} {ns : List (List UInt8)} {w : World} (h : NameSet m ns w) (hn : ns.Nodup) (hl : ns.length ≤ 1000) (hs : ∀ s ∈ ns, s.length ≤ 1000) :
    ∃ D : DataW Unit, w.ownsMap Tryz.prog 9 plainB m ns.length D ∧ Maps.size D = ns.length ∧ (strKeys D).Perm ns := by
  obtain ⟨es, clock, hm, hr, hb, hnd⟩ := h.out
  have hlen := setRows_length hr
  have hrg : es.toList.map (WideElems.rg Tryz.prog 9 plainB) = ns.map fun s => ((.string s, .lit (.bool true)) : Lit × DataW Unit) := by
    have : ∀ (l : List MapEntry) (k : List (List UInt8)), SetRows l k → (∀ s ∈ k, s.length ≤ 1000) → l.map (WideElems.rg Tryz.prog 9 plainB) = k.map fun s => ((.string s, .lit (.bool true)) : Lit × DataW Unit) := by
      intro l
      induction l with
      | nil => intro k hk _; cases k with
        | nil => rfl
        | cons _ _ => exact hk.elim
      | cons e l ih => intro k hk hs; cases k with
        | nil => exact hk.elim
        | cons n k =>
          simp only [List.map_cons]
          rw [ih k hk.2.2 (fun s hs' => hs s (by simp [hs'])), WideElems.rg, rd_name e n (hs n (by simp)) hk.1 hk.2.1]
          rfl
    exact this _ _ hr hs
  refine ⟨.map ((es.toList.map (WideElems.rg Tryz.prog 9 plainB)).foldr DataW.insert []), ⟨es, clock, hm, ⟨?_, ⟨hb, hnd, ?_⟩, ?_⟩, ?_, rfl⟩, ?_, ?_⟩
  · have : es.size = ns.length := by rw [← hlen]; simp
    rw [this]; simp [maxLen]; omega
  · rw [setRows_keys hr, List.nodup_iff_pairwise_ne, List.pairwise_map]
    refine List.Pairwise.imp ?_ (List.nodup_iff_pairwise_ne.1 hn)
    intro a b hab e
    simp at e
    exact hab e
  · intro x hx
    obtain ⟨s, h1, h2, h3⟩ := setRows_mem hr x hx
    exact ⟨_, rd_name x s (hs s h1) h2 h3⟩
  · have : es.size = ns.length := by rw [← hlen]; simp
    omega
  · rw [Maps.size_eq, (Go.WideShapes.sorted_perm _).length_eq, hrg]; simp
  · show (List.map _ _).Perm ns
    refine ((Go.WideShapes.sorted_perm _).map _).trans ?_
    rw [hrg, List.map_map]
    refine List.Perm.of_eq ?_
    conv => rhs; rw [← List.map_id ns]
    rfl
end Go.Proofs.YtaadhehcoegmhaaGreatDoor
/- Names: the closure that looks; Names of an expression. -/
namespace Go.Proofs.YtaadhehcoegmhaaGreatDoor
open Go Go.RowKit Go.Shelf

theorem ExIs.one {lo : Nat} {w : World} : ∀ {e : Ex} {cs : List Value}, ExIs lo w e cs → (cs.toArray : Array Value).all (·.oneCell') = true
  | .num _ _, _, h => by rw [h]; simp [leafCells, Value.oneCell']
  | .var _, _, h => by rw [h]; simp [leafCells, Value.oneCell']
  | .add a b, _, ⟨g, cap, ca, cb, h1, _⟩ => by rw [h1]; simp [leafCells, Value.oneCell']
theorem ExIs.seven {lo : Nat} {w : World} {e : Ex} {cs : List Value} (h : ExIs lo w e cs) : ∃ a0 a1 a2 a3 a4 a5 a6, cs = [a0, a1, a2, a3, a4, a5, a6] := by
  have hl := h.length
  match cs, hl with
  | [a0, a1, a2, a3, a4, a5, a6], _ => exact ⟨a0, a1, a2, a3, a4, a5, a6, rfl⟩

theorem ExIs.mapped {lo m : Nat} {w w' : World} {es : Array MapEntry} {clock : Nat} (hm : w.heap[m]? = some (.map es clock)) (hg : w.grownBy w' (some m)) : ∀ {e : Ex} {cs : List Value}, ExIs lo w e cs → ExIs lo w' e cs
  | .num _ _, _, h => h
  | .var _, _, h => h
  | .add _ _, _, ⟨g, cap, ca, cb, h1, h2, h6, h3, h4, h5⟩ => ⟨g, cap, ca, cb, h1, h2, h6, h3.mapped hm hg, h4.mapped hm hg, fun i v hv => cell_mapped hm hg (h5 i v hv)⟩
/-- What the closure finds: its map's cell, its own cell. -/
structure LookAt (mc fc m : Nat) (w : World) : Prop where
  map : w.heap[mc]? = some (.cells #[.map (some m)] 168 (0, 0))
  self : w.heap[fc]? = some (.cells #[.func (.func 217) #[] #[.pointer (some ⟨mc, 0, none⟩), .pointer (some ⟨fc, 0, none⟩)]] 304 (0, 0))
theorem LookAt.grown {mc fc m : Nat} {w w' : World} {row : Option Nat} (h : LookAt mc fc m w) (hg : w.grownBy w' row) (h1 : row ≠ some mc) (h2 : row ≠ some fc) : LookAt mc fc m w' :=
  ⟨(hg.block mc (Array.getElem?_eq_some_iff.1 h.map).1 (Ne.symm h1)).trans h.map, (hg.block fc (Array.getElem?_eq_some_iff.1 h.self).1 (Ne.symm h2)).trans h.self⟩
theorem LookAt.below {mc fc m : Nat} {w w' : World} (h : LookAt mc fc m w) (hb : Below w.heap.size w w') : LookAt mc fc m w' := h.grown (grown_of_below hb none) (by simp) (by simp)

/-- What the closure does at an expression. -/
def Looks (ex : Ex) : Prop := ∀ (lo mc fc m : Nat) (ns : List (List UInt8)) (cs : List Value) (w : World), ExIs lo w ex cs → LookAt mc fc m w → NameSet m ns w → (ns ++ ex.vars).Nodup →
  Calls Tryz.prog 217 #[.agg cs.toArray, .pointer (some ⟨mc, 0, none⟩), .pointer (some ⟨fc, 0, none⟩)] w fun e w' => e = .returned (.tuple #[]) ∧ NameSet m (ns ++ ex.vars) w' ∧ w.grownBy w' (some m)

set_option maxRecDepth 100000 in
set_option maxHeartbeats 2000000 in
theorem looks_num (k v : Int) : Looks (.num k v) := by
  intro lo mc fc m ns cs w he hla hns hnd
  obtain rfl : cs = _ := he
  have hb : Below w.heap.size w (w.alloc (.cells #[.int .i64 16, .string ⟨#[]⟩, .int .i64 k, .int .i64 v, .int .i64 0, .int .i64 0, .slice none 0 0] 155)) := (Below.refl _ _).alloc (Nat.le_refl _) _
  have HNS := Lib.hid (hns.below hb)
  have HB := Lib.hid hb
  clear hns hb hla hnd
  simp only [leafCells]
  go_enter Tryz.func217, Tryz.ntmps217
  go_wp2_with fail
  go_loopw [15] (fun v' wr => v' = .int .i64 0 ∧ wr = w.alloc (.cells #[.int .i64 16, .string ⟨#[]⟩, .int .i64 k, .int .i64 v, .int .i64 0, .int .i64 0, .slice none 0 0] 155)) (fun _ _ => 0)
  case atStart => exact ⟨rfl, rfl⟩
  case round =>
    obtain ⟨rfl, rfl⟩ := hrel
    go_wp2_with fail
    go_end0
    exact ⟨rfl, by simpa [Ex.vars] using HNS.out, grown_of_below HB.out _⟩

set_option maxRecDepth 100000 in
set_option maxHeartbeats 2000000 in
theorem looks_var (t : List UInt8) : Looks (.var t) := by
  intro lo mc fc m ns cs w he hla hns hnd
  obtain rfl : cs = _ := he
  have hb : Below w.heap.size w (w.alloc (.cells #[.int .i64 18, .string (bs t), .int .i64 0, .int .i64 0, .int .i64 0, .int .i64 0, .slice none 0 0] 155)) := (Below.refl _ _).alloc (Nat.le_refl _) _
  have hg0 := heap_alloc_new w (.cells #[.int .i64 18, .string (bs t), .int .i64 0, .int .i64 0, .int .i64 0, .int .i64 0, .slice none 0 0] 155)
  have hm0 : (w.alloc (.cells #[.int .i64 18, .string (bs t), .int .i64 0, .int .i64 0, .int .i64 0, .int .i64 0, .slice none 0 0] 155)).cell? ⟨mc, 0, none⟩ = some (.map (some m)) := by rw [Lib.cell_of_heap (hla.below hb).map]; rfl
  have hnot : t ∉ ns := by
    simp only [Ex.vars, List.nodup_append] at hnd
    intro h
    exact hnd.2.2 t h t (by simp) rfl
  obtain ⟨W1, hins, hns1, hg1, hs1⟩ := nameSet_insert (hns.below hb) t hnot
  have hmw := hns.lt
  have hq1 := (hg1.block w.heap.size (by simp) (fun e => by have := Option.some.inj e; omega)).trans hg0
  have s6 : W1.cell? ⟨w.heap.size, 6, none⟩ = some (.slice none 0 0) := by rw [Lib.cell_of_heap hq1]; rfl
  have HNS := Lib.hid hns1
  have HG := Lib.hid ((grown_of_below hb (some m)).trans hg1)
  clear hns hb hla hnd hns1 hg1 hs1 hq1 hg0 hnot
  simp only [leafCells]
  go_enter Tryz.func217, Tryz.ntmps217
  go_wp2_with fail
  go_loopw [15] (fun v' wr => v' = .int .i64 0 ∧ wr = W1) (fun _ _ => 0)
  case atStart => exact ⟨rfl, rfl⟩
  case round =>
    obtain ⟨rfl, rfl⟩ := hrel
    go_wp2_with fail
    go_end0
    exact ⟨rfl, HNS.out, HG.out⟩

set_option maxRecDepth 100000 in
set_option maxHeartbeats 4000000 in
theorem looks_add (a b : Ex) (iha : Looks a) (ihb : Looks b) : Looks (.add a b) := by
  intro lo mc fc m ns cs w he hla hns hnd
  obtain ⟨g, cap, ca, cb, rfl, hcap, hlg, hea, heb, hcells⟩ := he
  obtain ⟨a0, a1, a2, a3, a4, a5, a6, rfl⟩ := hea.seven
  obtain ⟨b0, b1, b2, b3, b4, b5, b6, rfl⟩ := heb.seven
  have hnda : (ns ++ a.vars).Nodup := by
    simp only [Ex.vars, ← List.append_assoc] at hnd
    exact (List.nodup_append.1 hnd).1
  have hndb : (ns ++ a.vars ++ b.vars).Nodup := by simpa only [Ex.vars, ← List.append_assoc] using hnd
  have hoa := hea.one
  have hob := heb.one
  have hb : Below w.heap.size w (w.alloc (.cells #[.int .i64 9, .string ⟨#[]⟩, .int .i64 0, .int .i64 0, .int .i64 0, .int .i64 0, .slice (some ⟨g, 0, none⟩) 2 cap] 155)) := (Below.refl _ _).alloc (Nat.le_refl _) _
  obtain ⟨W0, hW0⟩ : ∃ W, W = w.alloc (.cells #[.int .i64 9, .string ⟨#[]⟩, .int .i64 0, .int .i64 0, .int .i64 0, .int .i64 0, .slice (some ⟨g, 0, none⟩) 2 cap] 155) := ⟨_, rfl⟩
  have hgw : g < w.heap.size := at_lt (hcells 0 a0 rfl)
  have hgm : g ≠ m := by
    obtain ⟨es, clock, hm, _⟩ := hns.out
    rintro rfl
    have := hcells 0 a0 rfl
    simp [World.cell?, hm] at this
  have hmcm : mc ≠ m := by
    obtain ⟨es, clock, hm, _⟩ := hns.out
    rintro rfl
    have := hla.map
    rw [hm] at this; cases this
  have hfcm : fc ≠ m := by
    obtain ⟨es, clock, hm, _⟩ := hns.out
    rintro rfl
    have := hla.self
    rw [hm] at this; cases this
  have hmw := hns.lt
  have HEA := Lib.hid hea
  have HEB := Lib.hid heb
  have HC := Lib.hid hcells
  have HLA := Lib.hid hla
  have HNS := Lib.hid hns
  have HNA := Lib.hid hnda
  have HNB := Lib.hid hndb
  have HOA := Lib.hid hoa
  have HOB := Lib.hid hob
  have HIA := Lib.hid iha
  have HIB := Lib.hid ihb
  rw [← hW0] at hb
  have HB := Lib.hid hb
  have HN1 := Lib.hid hgm
  have HN2 := Lib.hid hmcm
  have HN3 := Lib.hid hfcm
  clear hea heb hcells hla hns hnd hnda hndb hoa hob iha ihb hb hgm hmcm hfcm
  simp only [leafCells]
  go_enter Tryz.func217, Tryz.ntmps217
  go_wp2_with fail
  rw [← hW0]
  clear hW0
  go_loopw [15] (fun v' wr => ∃ i : Nat, v' = .int .i64 i ∧ i ≤ 2 ∧ w.grownBy wr (some m) ∧ NameSet m (if i = 0 then ns else if i = 1 then ns ++ a.vars else ns ++ a.vars ++ b.vars) wr) (fun v' _ => 2 - (intOf v').toNat)
  case atStart => exact ⟨0, rfl, by omega, grown_of_below HB.out _, HNS.out.below HB.out⟩
  case round =>
    obtain ⟨i, rfl, hi, hgr, hset⟩ := hrel
    rename World => wr
    have hkc : ∀ j v, ([a0, a1, a2, a3, a4, a5, a6] ++ [b0, b1, b2, b3, b4, b5, b6])[j]? = some v → wr.cell? ⟨g, j, none⟩ = some v := fun j v hv =>
      (World.cell?_of_block (w := w) (a := ⟨g, j, none⟩) (hgr.block g hgw (fun e => HN1.out (Option.some.inj e)))).trans (HC.out j v hv)
    by_cases h0 : i = 0
    · subst h0
      rw [if_pos rfl] at hset
      have c0 := hkc 0 a0 rfl
      have c1 := hkc 1 a1 rfl
      have c2 := hkc 2 a2 rfl
      have c3 := hkc 3 a3 rfl
      have c4 := hkc 4 a4 rfl
      have c5 := hkc 5 a5 rfl
      have c6 := hkc 6 a6 rfl
      obtain ⟨hp1, hp2, hp3⟩ := put_new wr (leaf7 0 [] 0 0) #[a0, a1, a2, a3, a4, a5, a6] 155
      have HGA := Lib.hid (heap_alloc_new wr (.cells (leaf7 0 [] 0 0) 155))
      obtain ⟨W, hW⟩ : ∃ W, W = (wr.alloc (.cells (leaf7 0 [] 0 0) 155)).setRow wr.heap.size #[a0, a1, a2, a3, a4, a5, a6] := ⟨_, rfl⟩
      rw [← hW] at hp1 hp2 hp3
      have HW := Lib.hid hW
      have d0 : W.cell? ⟨wr.heap.size, 0, none⟩ = some a0 := by rw [Lib.cell_of_heap hp2]; rfl
      have d1 : W.cell? ⟨wr.heap.size, 1, none⟩ = some a1 := by rw [Lib.cell_of_heap hp2]; rfl
      have d2 : W.cell? ⟨wr.heap.size, 2, none⟩ = some a2 := by rw [Lib.cell_of_heap hp2]; rfl
      have d3 : W.cell? ⟨wr.heap.size, 3, none⟩ = some a3 := by rw [Lib.cell_of_heap hp2]; rfl
      have d4 : W.cell? ⟨wr.heap.size, 4, none⟩ = some a4 := by rw [Lib.cell_of_heap hp2]; rfl
      have d5 : W.cell? ⟨wr.heap.size, 5, none⟩ = some a5 := by rw [Lib.cell_of_heap hp2]; rfl
      have d6 : W.cell? ⟨wr.heap.size, 6, none⟩ = some a6 := by rw [Lib.cell_of_heap hp2]; rfl
      have hlaW := (HLA.out.grown hgr (fun e => HN2.out (Option.some.inj e).symm) (fun e => HN3.out (Option.some.inj e).symm)).below hp1
      have hfc : W.cell? ⟨fc, 0, none⟩ = some (.func (.func 217) #[] #[.pointer (some ⟨mc, 0, none⟩), .pointer (some ⟨fc, 0, none⟩)]) := by rw [Lib.cell_of_heap hlaW.self]; rfl
      have HGR := Lib.hid (hgr.trans (grown_of_below hp1 (some m)))
      have hm0 := HNS.out.out
      obtain ⟨es0, ck0, hm0, -⟩ := hm0
      have HCALL := Lib.hid (HIA.out lo mc fc m (ns) [a0, a1, a2, a3, a4, a5, a6] W ((HEA.out.mapped hm0 hgr).below hp1) hlaW (hset.below hp1) HNA.out)
      clear hp1 hp2 hp3 hW hkc hgr hset hlaW hm0
      go_wp2_with (refine wpList_store_row rfl 155 (.tmp 5) (.tmp 18) rfl wr.heap.size #[a0, a1, a2, a3, a4, a5, a6] rfl rfl 155 _ HGA.out (by kernel_rfl) rfl HOA.out ?_; rw [← HW.out])
      refine Calls.mono HCALL.out ?_
      rintro e w2 ⟨rfl, hset2, hg2⟩
      dsimp only
      have HS2 := Lib.hid hset2
      have HG2 := Lib.hid (HGR.out.trans hg2)
      clear hset2 hg2 c0 c1 c2 c3 c4 c5 c6 d0 d1 d2 d3 d4 d5 d6 hfc
      go_wp2_with fail
      go_roundw
      case rel => exact ⟨1, by go_num, by omega, HG2.out, by simpa using HS2.out⟩
      case measure => simp [intOf]
    by_cases h1 : i = 1
    · subst h1
      rw [if_neg (by decide), if_pos rfl] at hset
      have c0 := hkc 7 b0 rfl
      have c1 := hkc 8 b1 rfl
      have c2 := hkc 9 b2 rfl
      have c3 := hkc 10 b3 rfl
      have c4 := hkc 11 b4 rfl
      have c5 := hkc 12 b5 rfl
      have c6 := hkc 13 b6 rfl
      obtain ⟨hp1, hp2, hp3⟩ := put_new wr (leaf7 0 [] 0 0) #[b0, b1, b2, b3, b4, b5, b6] 155
      have HGA := Lib.hid (heap_alloc_new wr (.cells (leaf7 0 [] 0 0) 155))
      obtain ⟨W, hW⟩ : ∃ W, W = (wr.alloc (.cells (leaf7 0 [] 0 0) 155)).setRow wr.heap.size #[b0, b1, b2, b3, b4, b5, b6] := ⟨_, rfl⟩
      rw [← hW] at hp1 hp2 hp3
      have HW := Lib.hid hW
      have d0 : W.cell? ⟨wr.heap.size, 0, none⟩ = some b0 := by rw [Lib.cell_of_heap hp2]; rfl
      have d1 : W.cell? ⟨wr.heap.size, 1, none⟩ = some b1 := by rw [Lib.cell_of_heap hp2]; rfl
      have d2 : W.cell? ⟨wr.heap.size, 2, none⟩ = some b2 := by rw [Lib.cell_of_heap hp2]; rfl
      have d3 : W.cell? ⟨wr.heap.size, 3, none⟩ = some b3 := by rw [Lib.cell_of_heap hp2]; rfl
      have d4 : W.cell? ⟨wr.heap.size, 4, none⟩ = some b4 := by rw [Lib.cell_of_heap hp2]; rfl
      have d5 : W.cell? ⟨wr.heap.size, 5, none⟩ = some b5 := by rw [Lib.cell_of_heap hp2]; rfl
      have d6 : W.cell? ⟨wr.heap.size, 6, none⟩ = some b6 := by rw [Lib.cell_of_heap hp2]; rfl
      have hlaW := (HLA.out.grown hgr (fun e => HN2.out (Option.some.inj e).symm) (fun e => HN3.out (Option.some.inj e).symm)).below hp1
      have hfc : W.cell? ⟨fc, 0, none⟩ = some (.func (.func 217) #[] #[.pointer (some ⟨mc, 0, none⟩), .pointer (some ⟨fc, 0, none⟩)]) := by rw [Lib.cell_of_heap hlaW.self]; rfl
      have HGR := Lib.hid (hgr.trans (grown_of_below hp1 (some m)))
      have hm0 := HNS.out.out
      obtain ⟨es0, ck0, hm0, -⟩ := hm0
      have HCALL := Lib.hid (HIB.out lo mc fc m (ns ++ a.vars) [b0, b1, b2, b3, b4, b5, b6] W ((HEB.out.mapped hm0 hgr).below hp1) hlaW (hset.below hp1) HNB.out)
      clear hp1 hp2 hp3 hW hkc hgr hset hlaW hm0
      go_wp2_with (refine wpList_store_row rfl 155 (.tmp 5) (.tmp 18) rfl wr.heap.size #[b0, b1, b2, b3, b4, b5, b6] rfl rfl 155 _ HGA.out (by kernel_rfl) rfl HOB.out ?_; rw [← HW.out])
      refine Calls.mono HCALL.out ?_
      rintro e w2 ⟨rfl, hset2, hg2⟩
      dsimp only
      have HS2 := Lib.hid hset2
      have HG2 := Lib.hid (HGR.out.trans hg2)
      clear hset2 hg2 c0 c1 c2 c3 c4 c5 c6 d0 d1 d2 d3 d4 d5 d6 hfc
      go_wp2_with fail
      go_roundw
      case rel => exact ⟨2, by go_num, by omega, HG2.out, by simpa using HS2.out⟩
      case measure => simp [intOf]
    obtain rfl : i = 2 := by omega
    rw [if_neg (by decide), if_neg (by decide)] at hset
    have HS2 := Lib.hid hset
    have HG2 := Lib.hid hgr
    clear hset hgr hkc h0 h1
    go_wp2_with fail
    go_end0
    exact ⟨rfl, by simpa [Ex.vars] using HS2.out, HG2.out⟩

theorem looks_any : ∀ ex : Ex, Looks ex
  | .num k v => looks_num k v
  | .var t => looks_var t
  | .add a b => looks_add a b (looks_any a) (looks_any b)
end Go.Proofs.YtaadhehcoegmhaaGreatDoor
/- Names of an expression: its variables, sorted. -/
namespace Go.Proofs.YtaadhehcoegmhaaGreatDoor
open Go Go.RowKit Go.Shelf

theorem namesIn_of_own {w : World} {B : Nat} {v : Value} {ns : List (List UInt8)} (h : w.ownsRow B 9 1 v ns.length (ns.map encStr)) : NamesIn w v ns := by
  rcases h.2 with ⟨rfl, h2⟩ | ⟨g, cap, cur, rfl, _, hg, hc, _⟩
  · exact .inl ⟨rfl, List.eq_nil_of_length_eq_zero h2⟩
  · refine .inr ⟨g, 0, cap, rfl, fun i s hs => ?_⟩
    have := h.cells (g := g) rfl i (.string (bs s)) (by simp [hs, encStr])
    rw [addr_add] at this
    exact this

theorem below_of_grown' {B m : Nat} {w w' : World} (hg : w.grownBy w' (some m)) (hm : B ≤ m) (hB : B ≤ w.heap.size) : Below B w w' :=
  ⟨hg.os, hg.tape, hg.output, hg.size, fun k hk => hg.block k (by omega) (fun e => by have := Option.some.inj e; omega)⟩
theorem mk168 (w : World) : (Instr.makeMap 168 none).run Tryz.prog w = .ok (.map (some w.heap.size)) (w.alloc (.map #[] 0)) := by kernel_rfl

set_option maxRecDepth 100000 in
set_option maxHeartbeats 4000000 in
theorem names_any (ex : Ex) (lo : Nat) (a0 a1 a2 a3 a4 a5 a6 : Value) (w : World) (hE : Env w) (he : ExIs lo w ex [a0, a1, a2, a3, a4, a5, a6]) (hnd : ex.vars.Nodup) (hl : ex.vars.length ≤ 1000) (hs : ∀ s ∈ ex.vars, s.length ≤ 1000)
    (hR : ∀ w', Env w' → Below w.heap.size w w' → Calls Tryz.prog 161 #[.agg #[a0, a1, a2, a3, a4, a5, a6]] w' fun e w'' => e = .returned (.bool true) ∧ Below w'.heap.size w' w'') :
    Calls Tryz.prog 167 #[.agg #[a0, a1, a2, a3, a4, a5, a6]] w fun e w' => ∃ v, e = .returned v ∧ NamesIn w' v (ex.vars.mergeSort Go.leB) ∧ Below w.heap.size w w' := by
  have hb : Below w.heap.size w (w.alloc (.cells #[a0, a1, a2, a3, a4, a5, a6] 155)) := (Below.refl _ _).alloc (Nat.le_refl _) _
  have hg := heap_alloc_new w (.cells #[a0, a1, a2, a3, a4, a5, a6] 155)
  have HR := Lib.hid (hR _ (hE.below hb) hb)
  have HX := Lib.hid he
  have HND := Lib.hid hnd
  have HS := Lib.hid hs
  clear hR he hnd hs
  go_enter Tryz.func167, Tryz.ntmps167
  go_wp2_with fail
  refine Calls.mono HR.out ?_
  rintro e w1 ⟨rfl, hb1⟩
  dsimp only
  have hg1 := (hb1.block _ (by simp)).trans hg
  have hbw1 := below_then hb hb.size hb1
  have hs1 := hbw1.size
  obtain ⟨W2, hW2⟩ : ∃ W, W = ((w1.alloc (.map #[] 0)).alloc (.cells #[.map (some w1.heap.size)] 168)) := ⟨_, rfl⟩
  obtain ⟨W3, hW3⟩ : ∃ W, W = W2.alloc (.cells #[.func (.func 217) #[] #[.pointer (some ⟨w1.heap.size + 1, 0, none⟩), .pointer (some ⟨w1.heap.size + 1 + 1, 0, none⟩)]] 304) := ⟨_, rfl⟩
  have hz2 : W2.heap.size = w1.heap.size + 1 + 1 := by rw [hW2]; simp
  have hb13 : Below w1.heap.size w1 W3 := by rw [hW3, hW2]; exact (((Below.refl _ _).alloc (Nat.le_refl _) _).alloc (by simp) _).alloc (by simp; omega) _
  have hm3 : W3.heap[w1.heap.size]? = some (.map #[] 0) := by
    rw [hW3, heap_alloc_old _ _ (by omega), hW2, heap_alloc_old _ _ (by simp)]; exact heap_alloc_new w1 _
  have hc3 : W3.heap[w1.heap.size + 1]? = some (.cells #[.map (some w1.heap.size)] 168 (0, 0)) := by
    rw [hW3, heap_alloc_old _ _ (by omega), hW2]; exact new_at _ _ (by simp)
  have hf3 : W3.heap[w1.heap.size + 1 + 1]? = some (.cells #[.func (.func 217) #[] #[.pointer (some ⟨w1.heap.size + 1, 0, none⟩), .pointer (some ⟨w1.heap.size + 1 + 1, 0, none⟩)]] 304 (0, 0)) := by
    rw [hW3]; exact new_at _ _ (by rw [hz2])
  have hg3 := (hb13.block w.heap.size (Nat.lt_of_lt_of_le (by simp) hb1.size)).trans hg1
  have HG3 := Lib.hid hg3
  have hns : NameSet w1.heap.size [] W3 := ⟨#[], 0, hm3, trivial, by simp, by simp⟩
  have hex3 : ExIs lo W3 ex [a0, a1, a2, a3, a4, a5, a6] := HX.out.below (hbw1.trans (hb13.mono hs1))
  have HL := Lib.hid (looks_any ex lo (w1.heap.size + 1) (w1.heap.size + 1 + 1) w1.heap.size [] _ W3 hex3 ⟨hc3, hf3⟩ hns (by simpa using HND.out))
  have HB3 := Lib.hid (hbw1.trans (hb13.mono hs1))
  have HC3 := Lib.hid hc3
  have HM3 := Lib.hid hm3
  have q0 : w1.cell? ⟨w.heap.size, 0, none⟩ = some a0 := by rw [Lib.cell_of_heap hg1]; rfl
  have d0 : W3.cell? ⟨w.heap.size, 0, none⟩ = some a0 := by rw [Lib.cell_of_heap hg3]; rfl
  have d1 : W3.cell? ⟨w.heap.size, 1, none⟩ = some a1 := by rw [Lib.cell_of_heap hg3]; rfl
  have d2 : W3.cell? ⟨w.heap.size, 2, none⟩ = some a2 := by rw [Lib.cell_of_heap hg3]; rfl
  have d3 : W3.cell? ⟨w.heap.size, 3, none⟩ = some a3 := by rw [Lib.cell_of_heap hg3]; rfl
  have d4 : W3.cell? ⟨w.heap.size, 4, none⟩ = some a4 := by rw [Lib.cell_of_heap hg3]; rfl
  have d5 : W3.cell? ⟨w.heap.size, 5, none⟩ = some a5 := by rw [Lib.cell_of_heap hg3]; rfl
  have d6 : W3.cell? ⟨w.heap.size, 6, none⟩ = some a6 := by rw [Lib.cell_of_heap hg3]; rfl
  have hsz := HB3.out.size
  clear hb hg hg1 hbw1 hb1 hb13 hm3 hc3 hf3 hns hex3 hg3 hz2
  subst hW3
  subst hW2
  have hmk := mk168
  go_wp2_with fail
  refine Calls.mono HL.out ?_
  rintro e w2 ⟨rfl, hns2, hg2⟩
  dsimp only
  have hc2 := (hg2.block (w1.heap.size + 1) (Array.getElem?_eq_some_iff.1 HC3.out).1 (fun e => by have := Option.some.inj e; omega)).trans HC3.out
  have m2 : w2.cell? ⟨w1.heap.size + 1, 0, none⟩ = some (.map (some w1.heap.size)) := by rw [Lib.cell_of_heap hc2]; rfl
  have hB2 := HB3.out.trans (below_of_grown' hg2 hs1 HB3.out.size)
  have HNS2 := Lib.hid hns2
  have HB2 := Lib.hid hB2
  clear hns2 hg2 hc2 hB2 d0 d1 d2 d3 d4 d5 d6 q0
  go_wp2_with fail
  refine Calls.mono ((callsIn_wide (n := 5)).1 (Tryz.maps_Keys_219 (some w1.heap.size) w2)) ?_
  rintro e w3 ⟨rfl, rfl⟩
  dsimp only
  go_wp2_with fail
  obtain ⟨D, hown, hDs, hperm⟩ := HNS2.out.owns (by simpa using HND.out) (by simpa using hl) (by simpa using HS.out)
  simp only [List.nil_append] at hown hDs hperm
  refine Calls.mono ((callsIn_wide (n := 5)).1 (Tryz.slices_Sorted_keys_218_219 w1.heap.size _ D _ w2 hown (by rw [hDs]; simp [maxLen]; omega) (by rw [hDs]; omega))) ?_
  rintro e w4 ⟨v, ss, rfl, hp, how, _, hb4⟩
  dsimp only
  have hsort : ss.mergeSort (fun x y => decide (x ≤ y)) = ex.vars.mergeSort Go.leB := mergeSort_of_perm (hp.trans hperm)
  rw [hsort] at how
  have hlen : ss.length = (ex.vars.mergeSort Go.leB).length := by rw [(hp.trans hperm).length_eq, List.length_mergeSort]
  rw [hlen] at how
  have HN4 := Lib.hid (namesIn_of_own how)
  have HB4 := Lib.hid ((HB2.out.alloc HB2.out.size _).trans (hb4.mono (by have := HB2.out.size; simp; omega)))
  clear how hsort hlen hb4 hown hDs hperm hp
  go_wp2_with fail
  go_ret
  exact ⟨v, rfl, HN4.out, HB4.out⟩
end Go.Proofs.YtaadhehcoegmhaaGreatDoor
/- Order; live. -/
namespace Go.Proofs.YtaadhehcoegmhaaGreatDoor
open Go Go.RowKit

theorem cloneInts_any (v : Value) (zs : List Int) (w : World) (h : IntSlice w v zs) (hl : zs.length ≤ 1000) :
    Calls Tryz.prog 46 #[v] w fun e w' => ∃ v', e = .returned v' ∧ IntSlice w' v' zs ∧ Below w.heap.size w w' := by
  rcases h with ⟨rfl, rfl⟩ | ⟨b, off, cap, rfl, hc, hcell⟩
  · refine Calls.mono (Tryz.slices_Clone_int_nil 0 0 w) ?_
    rintro e w' ⟨rfl, rfl⟩
    exact ⟨_, rfl, .inl ⟨rfl, rfl⟩, Below.refl _ _⟩
  · refine Calls.mono (Tryz.slices_Clone_int b off zs.length cap zs w (Nat.le_refl _) (by omega) (fun j hj => hcell j _ (by simp [hj]))) ?_
    rintro e w' ⟨v', rfl, hown, _, hb⟩
    exact ⟨v', rfl, IntSlice.of_own (by simpa [ints] using hown), hb⟩

set_option maxRecDepth 100000 in
set_option maxHeartbeats 1000000 in
theorem order_any (pp : Nat) (out : List Nat) (w : World) (h : ProgAt pp out w) (hl : out.length ≤ 1000) :
    Calls Tryz.prog 23 #[.pointer (some ⟨pp, 0, none⟩)] w fun e w' => ∃ v, e = .returned v ∧ IntSlice w' v (outI out) ∧ Below w.heap.size w w' := by
  obtain ⟨v, hv, hs⟩ := h
  have hlen : (outI out).length ≤ 1000 := by simpa [outI] using hl
  have HCL := Lib.hid (cloneInts_any v (outI out) w hs hlen)
  clear hs hlen
  go_enter Tryz.func23, Tryz.ntmps23
  go_wp2_with fail
  refine Calls.mono HCL.out ?_
  rintro e w1 ⟨v', rfl, hs1, hb1⟩
  have HS1 := Lib.hid hs1
  have HB1 := Lib.hid hb1
  clear hs1 hb1
  dsimp only
  go_wp2_with fail
  go_ret
  exact ⟨v', rfl, HS1.out, HB1.out⟩

theorem textOk_leaf (t : Tok) (op k v : Int) (x : List UInt8) (ex : Ex) (hex : ∀ lo w, ExIs lo w ex [.int .i64 op, .string (bs x), .int .i64 k, .int .i64 v, .int .i64 0, .int .i64 0, .slice none 0 0])
    (hnd : ex.vars.Nodup) (hl : ex.vars.length ≤ 1000) (hs : ∀ s ∈ ex.vars, s.length ≤ 1000) (hcl : CodeLeaf op k v x)
    (hp : ∀ w, Env w → Calls Tryz.prog 104 #[.string (bs t.bytes)] w fun e w' => e = .returned (.tuple #[.agg (leaf7 op x k v), .int .i64 0]) ∧ Below w.heap.size w w')
    (hr : ∀ w, Env w → Calls Tryz.prog 212 #[.agg (leaf7 op x k v)] w fun e w' => e = .returned (.bool true) ∧ Below w.heap.size w w') : TextOk t.bytes (ex.vars.mergeSort Go.leB) := by
  refine ⟨((List.mergeSort_perm _ _).nodup_iff).2 hnd, by rw [List.length_mergeSort]; exact hl, fun w hE => (hp w hE).mono ?_⟩
  rintro e w1 ⟨rfl, hb1⟩
  refine ⟨_, _, _, _, _, _, _, rfl, by simp [Value.oneCell'], hb1, fun w2 hE2 _ => evalCompile_leaf op k v x hcl hr w2 hE2, fun w2 hE2 _ => ?_⟩
  exact names_any ex 0 _ _ _ _ _ _ _ w2 hE2 (hex _ _) hnd hl hs (fun w' hE' _ => Right_leaf op k v x hr w' hE')

theorem textOk_var (c : UInt8) (h1 : 97 ≤ c.toNat) (h2 : c.toNat ≤ 104) : TextOk [36, c] [[c]] := by
  have := textOk_leaf (.var c) 18 0 0 [c] (.var [c]) (fun _ _ => rfl) (by simp [Ex.vars]) (by simp [Ex.vars]) (by simp [Ex.vars]) (codeExpr_var [c]) (fun w hE => parse_var c h1 h2 w hE) (fun w hE => right_var c h1 h2 w hE)
  simpa [Ex.vars, Tok.bytes] using this
theorem textOk_dig (d : UInt8) (hd : IsDig d) : TextOk [d] [] := by
  have hv : 0 ≤ digV d ∧ digV d ≤ 1000000 := by rcases hd with rfl | rfl <;> decide
  have := textOk_leaf (.num d) 16 0 (digV d) [] (.num 0 (digV d)) (fun _ _ => rfl) (by simp [Ex.vars]) (by simp [Ex.vars]) (by simp [Ex.vars]) (codeExpr_num 0 (digV d)) (fun w hE => parse_dig d hd w hE) (fun w _ => right_num (digV d) hv.1 hv.2 w)
  simpa [Ex.vars, Tok.bytes] using this
end Go.Proofs.YtaadhehcoegmhaaGreatDoor
/- live: it answers true. -/
namespace Go.Proofs.YtaadhehcoegmhaaGreatDoor
open Go Go.RowKit

def liveA : List Lt := [⟨[97], [36, 98]⟩, ⟨[98], [49]⟩]
def liveB : List Lt := [⟨[97], [36, 97]⟩]
def ndA (i : Nat) : List (List UInt8) := if i = 0 then [[98]] else []
def ndB (_ : Nat) : List (List UInt8) := [[97]]

theorem liveA_order {out : List Nat} (h : OrdOk (depB liveA ndA) 2 out) (hn : out.length = 2) : out = [1, 0] := by
  match out, hn with
  | [x, y], _ =>
    have hx := h.lt x (by simp)
    have hy := h.lt y (by simp)
    have hxy : x ≠ y := by have := h.nodup; simp at this; exact this
    have h0 : x ≠ 0 := by
      rintro rfl
      have := h.behind 0 0 rfl 1 (by omega) (by decide)
      simp at this
    have : x = 1 := by omega
    have : y = 0 := by omega
    subst x y
    rfl
theorem liveA_goes {out : List Nat} (h : OrdOk (depB liveA ndA) 2 out) (hn : out.length ≠ 2) (hs : ∀ i, i < 2 → i ∉ out → ∃ k, k < 2 ∧ k ∉ out ∧ depB liveA ndA i k = true) : False := by
  have d1 : ∀ k, k < 2 → depB liveA ndA 1 k = false := by intro k hk; match k, hk with
    | 0, _ => decide
    | 1, _ => decide
  have d0 : depB liveA ndA 0 0 = false := by decide
  have h1 : 1 ∈ out := by
    apply Classical.byContradiction
    intro hno
    obtain ⟨k, hk, _, hd⟩ := hs 1 (by omega) hno
    rw [d1 k hk] at hd; cases hd
  have h0 : 0 ∈ out := by
    apply Classical.byContradiction
    intro hno
    obtain ⟨k, hk, hko, hd⟩ := hs 0 (by omega) hno
    match k, hk with
    | 0, _ => rw [d0] at hd; cases hd
    | 1, _ => exact hko h1
  obtain ⟨k, hk, hko⟩ := h.left hn
  match k, hk with
  | 0, _ => exact hko h0
  | 1, _ => exact hko h1
theorem liveB_stops {out : List Nat} (h : OrdOk (depB liveB ndB) 1 out) (hn : out.length = 1) : False := by
  match out, hn with
  | [x], _ =>
    have hx := h.lt x (by simp)
    obtain rfl : x = 0 := by omega
    have := h.behind 0 0 rfl 0 (by omega) (by decide)
    simp at this

set_option maxRecDepth 100000 in
set_option maxHeartbeats 4000000 in
theorem live12_any (w : World) (hE : Env w) : Calls Tryz.prog 21 #[] w fun e w' => e = .returned (.bool true) ∧ Below w.heap.size w w' := by
  obtain ⟨W0, hW0⟩ : ∃ W, W = w.alloc (.cells (letCells liveA).toArray 51) := ⟨_, rfl⟩
  have hb0 : Below w.heap.size w W0 := by rw [hW0]; exact (Below.refl _ _).alloc (Nat.le_refl _) _
  have hcA : ∀ j u, (letCells liveA)[j]? = some u → W0.cell? ⟨w.heap.size, j, none⟩ = some u := fun j u hu => by
    have : W0.heap[w.heap.size]? = some (.cells (letCells liveA).toArray 51 (0, 0)) := by rw [hW0]; exact heap_alloc_new w _
    rw [Lib.cell_of_heap this]; simpa using hu
  have htA : ∀ i t, liveA[i]? = some t → TextOk t.sel (ndA i) := fun i t ht => by
    match i, ht with
    | 0, ht => simp [liveA] at ht; subst ht; exact textOk_var 98 (by decide) (by decide)
    | 1, ht => simp [liveA] at ht; subst ht; exact textOk_dig 49 (.inr rfl)
    | i + 2, ht => simp [liveA] at ht
  have HCA := Lib.hid (compile_lets w.heap.size 2 liveA ndA W0 (hE.below hb0) (by decide) (by decide) hcA (fun t ht => by simp [liveA] at ht; rcases ht with rfl | rfl <;> rfl) htA)
  have HB0 := Lib.hid hb0
  have HE := Lib.hid hE
  clear hcA htA hb0 hE
  go_enter Tryz.func21, Tryz.ntmps21
  go_wp2_with fail
  subst hW0
  refine Calls.mono HCA.out ?_
  rintro e w1 ⟨hb1, out, hord, ⟨pp, rfl, hpr, hlen⟩ | ⟨rfl, hlen, hst⟩⟩
  · obtain rfl := liveA_order hord hlen
    have hb01 := below_then HB0.out HB0.out.size hb1
    have hbB : Below w1.heap.size w1 (w1.alloc (.cells (letCells liveB).toArray 51)) := (Below.refl _ _).alloc (Nat.le_refl _) _
    have hcB : ∀ j u, (letCells liveB)[j]? = some u → (w1.alloc (.cells (letCells liveB).toArray 51)).cell? ⟨w1.heap.size, j, none⟩ = some u := fun j u hu => by
      rw [Lib.cell_of_heap (heap_alloc_new w1 _)]; simpa using hu
    have htB : ∀ i t, liveB[i]? = some t → TextOk t.sel (ndB i) := fun i t ht => by
      match i, ht with
      | 0, ht => simp [liveB] at ht; subst ht; exact textOk_var 97 (by decide) (by decide)
      | i + 1, ht => simp [liveB] at ht
    have HCB := Lib.hid (compile_lets w1.heap.size 1 liveB ndB _ ((HE.out.below hb01).below hbB) (by decide) (by decide) hcB (fun t ht => by simp [liveB] at ht; subst ht; rfl) htB)
    have HB1 := Lib.hid (below_then hb01 hb01.size hbB)
    have HPR := Lib.hid (show ProgAt pp [1, 0] (w1.alloc (.cells (letCells liveB).toArray 51)) by
      obtain ⟨v, h1, h2⟩ := hpr
      exact ⟨v, (hbB.cell (at_lt h1)).trans h1, h2.below hbB⟩)
    clear hord hlen hb1 hb01 hbB hcB htB hpr
    dsimp only
    go_wp2_with fail
    refine Calls.mono HCB.out ?_
    rintro e w2 ⟨hb2, out, hord, ⟨pp2, rfl, hpr, hlen⟩ | ⟨rfl, hlen, hst⟩⟩
    · exact (liveB_stops hord hlen).elim
    · have HB2 := Lib.hid (below_then HB1.out HB1.out.size hb2)
      have HPR2 := Lib.hid (show ProgAt pp [1, 0] w2 by
        obtain ⟨v, h1, h2⟩ := HPR.out
        exact ⟨v, (hb2.cell (at_lt h1)).trans h1, h2.below hb2⟩)
      clear hord hlen hst hb2
      dsimp only
      go_wp2_with fail
      refine Calls.mono (order_any pp [1, 0] w2 HPR2.out (by simp)) ?_
      rintro e w3 ⟨v, rfl, hs3, hb3⟩
      obtain ⟨A, cap, rfl, hia⟩ := (hs3.below ((Below.refl _ _).alloc (Nat.le_refl _) (.cells #[.int .i64 1, .int .i64 0] 3))).at
      have hib : IntsAt (w3.alloc (.cells #[.int .i64 1, .int .i64 0] 3)) (some ⟨w3.heap.size, 0, none⟩) [1, 0] := fun i z hz => by
        refine ⟨_, rfl, by rw [addr_add]; simp, ?_⟩
        rw [addr_add, Nat.zero_add, Lib.cell_of_heap (heap_alloc_new w3 _)]
        match i, hz with
        | 0, hz => simp at hz; subst hz; rfl
        | 1, hz => simp at hz; subst hz; rfl
        | i + 2, hz => simp at hz
      have HSM := Lib.hid (same_any A (some ⟨w3.heap.size, 0, none⟩) cap 2 (outI [1, 0]) [1, 0] _ hia hib (by simp [outI]))
      have HB3 := Lib.hid ((below_then HB2.out HB2.out.size hb3).alloc (below_then HB2.out HB2.out.size hb3).size (.cells #[.int .i64 1, .int .i64 0] 3))
      clear hs3 hia hib hb3
      dsimp only
      go_wp2_with fail
      refine Calls.mono HSM.out ?_
      rintro e w4 ⟨rfl, hb4⟩
      have HB4 := Lib.hid (below_then HB3.out HB3.out.size hb4)
      have heq : decide (outI [1, 0] = [1, 0]) = true := by decide
      rw [heq]
      clear hb4 heq
      dsimp only
      go_wp2_with fail
      go_ret
      exact ⟨rfl, HB4.out⟩
  · exact (liveA_goes hord hlen hst).elim
end Go.Proofs.YtaadhehcoegmhaaGreatDoor
/- What a nil program answers. -/
namespace Go.Proofs.YtaadhehcoegmhaaGreatDoor
open Go Go.RowKit

set_option maxRecDepth 100000 in
set_option maxHeartbeats 1000000 in
theorem code_nil (s : ByteArray) (A : Value) (w : World) : Calls Tryz.prog 27 #[.pointer none, .string s, A] w fun e w' => e = .returned (.tuple #[.pointer none, .int .i64 1]) ∧ w' = w := by
  go_enter Tryz.func27, Tryz.ntmps27
  go_wp2_with fail
  go_ret2
  exact ⟨rfl, rfl⟩

set_option maxRecDepth 100000 in
set_option maxHeartbeats 1000000 in
theorem rules_nil (w : World) : Calls Tryz.prog 24 #[.pointer none] w fun e w' => e = .returned (.int .i64 0) ∧ w' = w := by
  go_enter Tryz.func24, Tryz.ntmps24
  go_wp2_with fail
  go_ret
  exact ⟨rfl, rfl⟩

set_option maxRecDepth 100000 in
set_option maxHeartbeats 1000000 in
theorem rule_nil (i : Int) (w : World) : Calls Tryz.prog 25 #[.pointer none, .int .i64 i] w fun e w' => e = .returned (.pointer none) ∧ w' = w := by
  go_enter Tryz.func25, Tryz.ntmps25
  go_wp2_with fail
  go_ret
  exact ⟨rfl, rfl⟩

set_option maxRecDepth 100000 in
set_option maxHeartbeats 1000000 in
theorem order_nil (w : World) : Calls Tryz.prog 23 #[.pointer none] w fun e w' => e = .returned (.slice none 0 0) ∧ w' = w := by
  go_enter Tryz.func23, Tryz.ntmps23
  go_wp2_with fail
  go_ret
  exact ⟨rfl, rfl⟩

set_option maxRecDepth 100000 in
set_option maxHeartbeats 1000000 in
theorem named_nil (s : ByteArray) (w : World) : Calls Tryz.prog 28 #[.pointer none, .string s] w fun e w' => e = .returned (.tuple #[.int .i64 0, .bool false]) ∧ Below w.heap.size w w' := by
  go_enter Tryz.func28, Tryz.ntmps28
  go_wp2_with fail
  refine bodyPost_ret (v := .tuple #[.int .i64 0, .bool false]) (by simp [results, Tryz.results28, go_sem]) rfl ⟨rfl, ?_⟩
  exact (((Below.refl _ _).alloc (Nat.le_refl _) _).alloc (by simp) _).alloc (by simp <;> omega) _

abbrev noSheet : Array Value := #[.slice none 0 0, .slice none 0 0, .slice none 0 0, .int .i64 0, .bool false]
set_option maxRecDepth 100000 in
set_option maxHeartbeats 1000000 in
theorem sheet_nil (w : World) : Calls Tryz.prog 30 #[.pointer none] w fun e w' => e = .returned (.agg noSheet) ∧ Below w.heap.size w w' := by
  have HG := Lib.hid (heap_alloc_new w (.cells noSheet 59))
  go_enter Tryz.func30, Tryz.ntmps30
  go_wp2_with (refine wpList_store_row rfl 59 (.tmp 2) (.tmp 5) rfl w.heap.size noSheet rfl rfl 59 _ HG.out (by kernel_rfl) rfl (by simp [Value.oneCell']) ?_)
  exact bodyPost_ret (results_cell_row Tryz.results30 _ _ (w.heap.size) 59 _ (0, 0) _ rfl (setRow_heap _ _ _ _ 59 _ HG.out) Tryz.underlying59 rfl (by kernel_rfl)) rfl ⟨rfl, below_setRow ((Below.refl _ _).alloc (Nat.le_refl _) _) (by omega)⟩

set_option maxRecDepth 100000 in
set_option maxHeartbeats 1000000 in
theorem sameRules_nil (w : World) : Calls Tryz.prog 49 #[.slice none 0 0, .slice none 0 0] w fun e w' => e = .returned (.bool true) ∧ w' = w := by
  go_enter Tryz.func49, Tryz.ntmps49
  go_wp2_with fail
  go_loopw [5] (fun v wr => v = .int .i64 0 ∧ w = wr)
    (fun _ _ => 0)
  case atStart => exact ⟨rfl, rfl⟩
  case round =>
    obtain ⟨rfl, rfl⟩ := hrel
    go_wp2_with fail
    go_ret
    exact ⟨rfl, rfl⟩

set_option maxRecDepth 100000 in
set_option maxHeartbeats 1000000 in
theorem sameInstrs_nil (w : World) : Calls Tryz.prog 50 #[.slice none 0 0, .slice none 0 0] w fun e w' => e = .returned (.bool true) ∧ w' = w := by
  go_enter Tryz.func50, Tryz.ntmps50
  go_wp2_with fail
  go_loopw [5] (fun v wr => v = .int .i64 0 ∧ w = wr)
    (fun _ _ => 0)
  case atStart => exact ⟨rfl, rfl⟩
  case round =>
    obtain ⟨rfl, rfl⟩ := hrel
    go_wp2_with fail
    go_ret
    exact ⟨rfl, rfl⟩

set_option maxRecDepth 100000 in
set_option maxHeartbeats 1000000 in
theorem sameTexts_nil (w : World) : Calls Tryz.prog 51 #[.slice none 0 0, .slice none 0 0] w fun e w' => e = .returned (.bool true) ∧ w' = w := by
  go_enter Tryz.func51, Tryz.ntmps51
  go_wp2_with fail
  go_loopw [5] (fun v wr => v = .int .i64 0 ∧ w = wr)
    (fun _ _ => 0)
  case atStart => exact ⟨rfl, rfl⟩
  case round =>
    obtain ⟨rfl, rfl⟩ := hrel
    go_wp2_with fail
    go_ret
    exact ⟨rfl, rfl⟩

set_option maxRecDepth 100000 in
set_option maxHeartbeats 1000000 in
theorem same_nil (w : World) : Calls Tryz.prog 29 #[.agg noSheet, .agg noSheet] w fun e w' => e = .returned (.bool true) ∧ Below w.heap.size w w' := by
  go_enter Tryz.func29, Tryz.ntmps29
  go_wp2_with fail
  refine Calls.mono (sameRules_nil _) ?_
  rintro e w1 ⟨rfl, rfl⟩
  dsimp only
  go_wp2_with fail
  refine Calls.mono (sameInstrs_nil _) ?_
  rintro e w1 ⟨rfl, rfl⟩
  dsimp only
  go_wp2_with fail
  refine Calls.mono (sameTexts_nil _) ?_
  rintro e w1 ⟨rfl, rfl⟩
  dsimp only
  go_wp2_with fail
  go_ret
  exact ⟨rfl, ((Below.refl _ _).alloc (Nat.le_refl _) _).alloc (by simp) _⟩
end Go.Proofs.YtaadhehcoegmhaaGreatDoor
/- XcodeNone, walked, over what live says. -/
namespace Go.Proofs.YtaadhehcoegmhaaGreatDoor
open Go Go.RowKit

set_option maxRecDepth 100000 in
set_option maxHeartbeats 2000000 in
theorem xcodeNone_walk (s : ByteArray) (n : Int) (w : World) (hlive : ∀ w1, Below w.heap.size w w1 → Calls Tryz.prog 21 #[] w1 fun e w' => e = .returned (.bool true) ∧ Below w1.heap.size w1 w') :
    Calls Tryz.prog 10 #[.string s, .int .i64 n] w fun e w' => e = .returned (.bool true) ∧ Below w.heap.size w w' := by
  have HL := Lib.hid hlive
  clear hlive
  go_enter Tryz.func10, Tryz.ntmps10
  go_wp2_with fail
  refine Calls.mono (code_nil s _ _) ?_
  rintro e w1 ⟨rfl, rfl⟩
  dsimp only
  go_wp2_with fail
  refine Calls.mono (named_nil s _) ?_
  rintro e w2 ⟨rfl, hb2⟩
  dsimp only
  go_wp2_with fail
  refine Calls.mono (HL.out _ hb2) ?_
  rintro e w3 ⟨rfl, hb3⟩
  dsimp only
  have hbb3 := below_then hb2 hb2.size hb3
  clear hb2 hb3
  go_wp2_with fail
  refine Calls.mono (rules_nil _) ?_
  rintro e w4 ⟨rfl, rfl⟩
  dsimp only
  go_wp2_with fail
  refine Calls.mono (rule_nil n _) ?_
  rintro e w5 ⟨rfl, rfl⟩
  dsimp only
  go_wp2_with fail
  refine Calls.mono (order_nil _) ?_
  rintro e w6 ⟨rfl, rfl⟩
  dsimp only
  go_wp2_with fail
  refine Calls.mono (sheet_nil _) ?_
  rintro e w7 ⟨rfl, hb7⟩
  dsimp only
  have hbb7 := below_then hbb3 hbb3.size hb7
  clear hbb3 hb7
  go_wp2_with fail
  refine Calls.mono (same_nil _) ?_
  rintro e w8 ⟨rfl, hb8⟩
  dsimp only
  have hbb8 := below_then hbb7 hbb7.size hb8
  clear hbb7 hb8
  go_wp2_with fail
  go_ret
  exact ⟨rfl, hbb8⟩
end Go.Proofs.YtaadhehcoegmhaaGreatDoor
/- XcodeNone answers true. -/
namespace Go.Proofs.YtaadhehcoegmhaaGreatDoor
open Go Go.RowKit
theorem xcodeNone_true (s : ByteArray) (n : Int) (w : World) (hE : Env w) : Calls Tryz.prog 10 #[.string s, .int .i64 n] w fun e w' => e = .returned (.bool true) ∧ Below w.heap.size w w' :=
  xcodeNone_walk s n w fun w1 hb => live12_any w1 (hE.below hb)
end Go.Proofs.YtaadhehcoegmhaaGreatDoor
