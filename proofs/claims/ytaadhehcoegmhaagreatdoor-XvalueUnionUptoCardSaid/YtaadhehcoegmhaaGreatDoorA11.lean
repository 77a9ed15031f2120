/- Round and Add of finite numbers not below 0. -/
import Derived.Test.YtaadhehcoegmhaaGreatDoorA9
namespace Go.Proofs.YtaadhehcoegmhaaGreatDoor
open Go Go.RowKit

theorem heap_alloc_at (w : World) (o : Obj) (k : Nat) : (w.alloc o).heap[k]? = if k = w.heap.size then some o else w.heap[k]? := by
  show (w.heap.push o)[k]? = _
  rw [Array.getElem?_push]

set_option maxRecDepth 100000 in
set_option maxHeartbeats 1000000 in
theorem round_fin (v : Int) (w : World) (h0 : 0 ≤ v) (h1 : v ≤ 100000000000) :
    Calls Tryz.prog 66 #[fin v] w fun e w' => e = .returned (fin (v + 500000 - (v + 500000) % 1000000)) ∧ Below w.heap.size w w' := by
  go_enter Tryz.func66, Tryz.ntmps66
  go_wp2_with fail
  refine Calls.mono (floor_fin (v + 500000) _ (by omega) (by omega)) ?_
  rintro e w1 ⟨rfl, hb⟩
  dsimp only
  have hg : w1.heap[w.heap.size + 1]? = some (.cells #[.int .i64 0, .int .i64 0] 29 (0, 0)) := (hb.block _ (by simp)).trans (heap_alloc2_new w _ _)
  have hw : Below w.heap.size w w1 := below_then (((Below.refl _ _).alloc (Nat.le_refl _) _).alloc (by simp) _) (by simp; omega) hb
  obtain ⟨r, hr⟩ : ∃ r, r = v + 500000 - (v + 500000) % 1000000 := ⟨_, rfl⟩
  rw [← hr]
  have HR := Lib.hid hr
  clear hr hb
  go_wp2_with (refine wpList_store_row rfl 29 (.tmp 2) (.tmp 11) rfl (w.heap.size + 1) #[.int .i64 0, .int .i64 r] rfl rfl 29 _ hg (by kernel_rfl) rfl (by simp [Value.oneCell']) ?_)
  exact bodyPost_ret (results_cell_row Tryz.results66 _ _ (w.heap.size + 1) 29 _ (0, 0) _ rfl (setRow_heap w1 _ _ _ 29 _ hg) Tryz.underlying29 rfl (by kernel_rfl)) rfl ⟨by rw [HR.out], below_setRow hw (by omega)⟩

set_option maxRecDepth 100000 in
set_option maxHeartbeats 1000000 in
theorem parts_fin (v : Int) (w : World) (h0 : 0 ≤ v) (h1 : v ≤ 100000000000) :
    Calls Tryz.prog 142 #[fin v] w fun e w' => e = .returned (.tuple #[.int .u64 v, .bool false]) ∧ Below w.heap.size w w' := by
  go_enter Tryz.func142, Tryz.ntmps142
  go_wp2
  go_ret2
  exact ⟨rfl, (Below.refl _ _).alloc (Nat.le_refl _) _⟩

set_option maxRecDepth 100000 in
set_option maxHeartbeats 1000000 in
theorem fin_any (v : Int) (w : World) (h0 : 0 ≤ v) (h1 : v ≤ 1000000000000) :
    Calls Tryz.prog 171 #[.int .u64 v, .bool false] w fun e w' => e = .returned (fin v) ∧ Below w.heap.size w w' := by
  go_enter Tryz.func171, Tryz.ntmps171
  go_wp2
  exact bodyPost_ret (v := fin v) (by simp [results, Tryz.results171, go_sem]) rfl ⟨rfl, (Below.refl _ _).alloc (Nat.le_refl _) _⟩

set_option maxRecDepth 100000 in
set_option maxHeartbeats 1000000 in
theorem add_fin (a b : Int) (w : World) (h0 : 0 ≤ a) (h1 : a ≤ 10000000000) (h2 : 0 ≤ b) (h3 : b ≤ 10000000000) :
    Calls Tryz.prog 118 #[fin a, fin b] w fun e w' => e = .returned (fin (a + b)) ∧ Below w.heap.size w w' := by
  go_enter Tryz.func118, Tryz.ntmps118
  go_wp2_with fail
  refine Calls.mono (parts_fin (a + b) _ (by omega) (by omega)) ?_
  rintro e w1 ⟨rfl, hb⟩
  dsimp only
  have hw : Below w.heap.size w w1 := below_then (((((Below.refl _ _).alloc (Nat.le_refl _) _).alloc (by simp) _).alloc (by simp; omega) _).alloc (by simp; omega) _) (by simp; omega) hb
  have hg : w1.heap[w.heap.size + 1 + 1]? = some (.cells #[.int .i64 0, .int .i64 0] 29 (0, 0)) := (hb.block _ (by simp)).trans (by rw [heap_alloc_at, if_neg (by simp), heap_alloc_at, if_pos (by simp)])
  clear hb
  go_wp2_with fail
  refine Calls.mono (fin_any (a + b) _ (by omega) (by omega)) ?_
  rintro e w2 ⟨rfl, hb⟩
  dsimp only
  have hw2 := below_then hw hw.size hb
  have hg2 := (hb.block _ (Array.getElem?_eq_some_iff.1 hg).1).trans hg
  clear hb hw hg
  go_wp2_with (refine wpList_store_row rfl 29 (.tmp 4) (.tmp 35) rfl (w.heap.size + 1 + 1) #[.int .i64 0, .int .i64 (a + b)] rfl rfl 29 _ hg2 (by kernel_rfl) rfl (by simp [Value.oneCell']) ?_)
  exact bodyPost_ret (results_cell_row Tryz.results118 _ _ (w.heap.size + 1 + 1) 29 _ (0, 0) _ rfl (setRow_heap w2 _ _ _ 29 _ hg2) Tryz.underlying29 rfl (by kernel_rfl)) rfl ⟨rfl, below_setRow hw2 (by omega)⟩
end Go.Proofs.YtaadhehcoegmhaaGreatDoor
