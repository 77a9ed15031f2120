/- Union, walked: Concat, Sort, Compact. -/
import Derived.Test.YtaadhehcoegmhaaGreatDoorA34
import Derived.Sort.Grow
namespace Go.Proofs.YtaadhehcoegmhaaGreatDoor
open Go Go.RowKit

open Go.Sort in
theorem below_putRow {B : Nat} (w : World) (b : Nat) (d : Array Int) (q : Nat) (os : Array Obj) (hB : B ≤ b) (hs : B ≤ w.heap.size) : Below B w (grow (putRow (Value.int .i64) (Sort.ahead w q) b 0 d) os) := by
  refine ⟨rfl, rfl, rfl, ?_, fun k hk => ?_⟩
  · simp [Sort.ahead]
  · rw [heap_grow_old _ _ (by simp [Sort.ahead]; omega)]
    simp only [putRow, mapBlock, Array.getElem?_modify, Sort.ahead]
    rw [if_neg (by omega)]

open Go.Sort in
theorem sort_row (B b cap : Nat) (zs : List Int) (w : World) (hB : B ≤ b) (hs : B ≤ w.heap.size) (hb : b < w.heap.size) (hH : Holds (Value.int .i64) w b 0 zs.toArray) (hsz : zs.length ≤ 1000000000) :
    Calls Tryz.prog 38 #[.slice (some ⟨b, 0, none⟩) zs.length cap] w fun e w' =>
      e = .returned (.tuple #[]) ∧ Holds (Value.int .i64) w' b 0 (zs.mergeSort fun x y => decide (x ≤ y)).toArray ∧ Below B w w' := by
  refine (Tryz.slices_Sort_int b 0 cap zs w hH hb (by omega)).mono ?_
  rintro e w' ⟨rfl, n, os, rfl⟩
  exact ⟨rfl, holds_grow _ _ _ _ _ _ (by simpa [Sort.ahead] using hb) (holds_putRow _ _ _ _ zs.toArray _ (holds_ahead _ _ _ _ _ _ hH) (by simp)), below_putRow w b _ n os hB hs⟩

open Go.Sort in
theorem compact_row (B b cap : Nat) (zs : List Int) (w : World) (hB : B ≤ b) (hs : B ≤ w.heap.size) (hH : Holds (Value.int .i64) w b 0 zs.toArray) (hsz : zs.length ≤ 1000000000) (hcap : zs.length ≤ cap) :
    Calls Tryz.prog 39 #[.slice (some ⟨b, 0, none⟩) zs.length cap] w fun e w' =>
      e = .returned (.slice (some ⟨b, 0, none⟩) (Lib.compact zs).length cap) ∧ IntSlice w' (.slice (some ⟨b, 0, none⟩) (Lib.compact zs).length cap) (Lib.compact zs) ∧ Below B w w' := by
  refine (Tryz.slices_Compact_int b 0 cap zs w hH (by omega) hcap).mono ?_
  rintro e w' ⟨rfl, q, rfl⟩
  have hlc := Lib.compact_length_le zs
  refine ⟨rfl, .inr ⟨b, 0, cap, rfl, by omega, fun i z hz => ?_⟩, ?_⟩
  · have hi := (List.getElem?_eq_some_iff.1 hz).1
    have hp := holds_putRow (Value.int .i64) (Sort.ahead w q) b 0 zs.toArray (Lib.compact zs ++ List.replicate (zs.length - (Lib.compact zs).length) 0).toArray (holds_ahead _ _ _ _ _ _ hH) (by simp; omega)
    have := (hp i (by simp; omega)).1
    rw [this, get_bang]
    simp [List.getD, List.getElem?_append_left hi, hz]
  · have := below_putRow (B := B) w b (Lib.compact zs ++ List.replicate (zs.length - (Lib.compact zs).length) 0).toArray q #[] hB hs
    rwa [grow_empty] at this

open Go.Sort in
theorem holds_of_own {w : World} {B g cap : Nat} {zs : List Int} (h : w.ownsRow B 3 1 (.slice (some ⟨g, 0, none⟩) zs.length cap) zs.length (ints zs)) : Holds (Value.int .i64) w g 0 zs.toArray := by
  intro j hj
  have hj' : j < zs.length := by simpa using hj
  have hc := h.cells (g := g) rfl j (.int .i64 (zs.getD j 0)) (by simp [ints, List.getD, hj'])
  rw [addr_add] at hc
  refine ⟨by rw [hc, get_bang], ?_⟩
  rcases h.2 with ⟨h1, _⟩ | ⟨g', cap', cur, h1, _, h3, _⟩
  · cases h1
  · cases h1
    simp [World.frozen?, h3]

set_option maxRecDepth 100000 in
set_option maxHeartbeats 1000000 in
theorem union_any (u v : Value) (xs ys : List Int) (w : World) (hu : ArgInts w u xs) (hv : ArgInts w v ys) (hlx : xs.length ≤ 400000000) (hly : ys.length ≤ 400000000) :
    Calls Tryz.prog 17 #[u, v] w fun e w' => ∃ r, e = .returned r ∧ IntSlice w' r (uni xs ys) ∧ Below w.heap.size w w' := by
  have HU := Lib.hid hu
  have HV := Lib.hid hv
  obtain ⟨A, ca, rfl, _⟩ := hu.at
  obtain ⟨C, cb, rfl, _⟩ := hv.at
  clear hu hv
  go_enter Tryz.func17, Tryz.ntmps17
  go_wp2_with fail
  refine Calls.mono (concat_two w.heap.size _ _ xs ys _ ?_ ?_ (HU.out.below ((Below.refl _ _).alloc (Nat.le_refl _) _)) (HV.out.below ((Below.refl _ _).alloc (Nat.le_refl _) _)) hlx hly) ?_
  · rw [Lib.cell_of_heap (heap_alloc_new w _)]; rfl
  · rw [Lib.cell_of_heap (heap_alloc_new w _)]; rfl
  rintro e w1 ⟨r, rfl, hown, hb1⟩
  dsimp only
  have hbel : Below w.heap.size w w1 := below_then ((Below.refl _ _).alloc (Nat.le_refl _) _) (by simp) hb1
  have hB0 : w.heap.size ≤ (w.alloc (.cells #[.slice A xs.length ca, .slice C ys.length cb] 26)).heap.size := by simp
  have hul := uni_length xs ys
  have hlen : (xs ++ ys).length ≤ 1000000000 := by simp; omega
  have hl0 : (xs ++ ys).length = xs.length + ys.length := by simp
  obtain ⟨zs, hzs⟩ : ∃ zs, zs = xs ++ ys := ⟨_, rfl⟩
  have hun : uni xs ys = Lib.compact (zs.mergeSort fun x y => decide (x ≤ y)) := by rw [hzs]; rfl
  rw [← hzs] at hown hlen hl0
  have HN := Lib.hid hun
  have HO := Lib.hid hown
  clear hun hzs hb1
  rcases hown.2 with ⟨rfl, h0⟩ | ⟨g, cap, cur, rfl, hg, hheap, hcap, _⟩
  · have hxu : uni xs ys = [] := List.eq_nil_of_length_eq_zero (by omega)
    have HX := Lib.hid hxu
    clear hown h0 hxu hul hl0 hlen HN
    go_wp2_with fail
    refine Calls.mono (Tryz.slices_Sort_int_none none 0 w1) ?_
    rintro e w2 ⟨rfl, rfl⟩
    dsimp only
    go_wp2_with fail
    refine Calls.mono (Tryz.slices_Compact_int_empty none 0 w2) ?_
    rintro e w3 ⟨rfl, rfl⟩
    dsimp only
    go_wp2_with fail
    go_ret
    exact ⟨_, rfl, .inl ⟨rfl, HX.out⟩, hbel⟩
  · have hgl := (Array.getElem?_eq_some_iff.1 hheap).1
    have hle : w.heap.size ≤ g := Nat.le_trans (by simp) hg
    obtain ⟨ms, hms⟩ : ∃ ms, ms = zs.mergeSort fun x y => decide (x ≤ y) := ⟨_, rfl⟩
    have hml : zs.length = ms.length := by rw [hms]; simp
    have HM := Lib.hid hms
    have HL := Lib.hid hml
    clear hown hheap hul hl0 hms hml hg hB0
    go_wp2_with fail
    refine Calls.mono (sort_row w.heap.size g cap zs w1 hle hbel.size hgl (holds_of_own HO.out) hlen) ?_
    rintro e w2 ⟨rfl, hH2, hb2⟩
    dsimp only
    rw [← HM.out] at hH2
    have HH := Lib.hid hH2
    clear hH2
    go_wp2_with fail
    rw [HL.out] at hlen hcap ⊢
    refine Calls.mono (compact_row w.heap.size g cap ms w2 hle (Nat.le_trans hbel.size hb2.size) HH.out hlen hcap) ?_
    rintro e w3 ⟨rfl, h3, hb3⟩
    dsimp only
    have H3 := Lib.hid h3
    clear h3
    go_wp2_with fail
    go_ret
    exact ⟨_, rfl, by rw [HN.out, ← HM.out]; exact H3.out, (hbel.trans hb2).trans hb3⟩
end Go.Proofs.YtaadhehcoegmhaaGreatDoor
