/- Numbers: whole numbers that are finite and not below 0: Int, Round, Add, Compare, holds. -/
import Derived.Test.YtaadhehcoegmhaaGreatDoorA8
import Derived.StillTactics
namespace Go.Proofs.YtaadhehcoegmhaaGreatDoor
open Go Go.RowKit

/-- A finite number of so many millionths. -/
abbrev fin (v : Int) : Value := .agg #[.int .i64 0, .int .i64 v]

set_option maxRecDepth 100000 in
set_option maxHeartbeats 1000000 in
theorem int_any (n : Int) (w : World) (h0 : 0 ≤ n) (h1 : n ≤ 1000000) :
    Calls Tryz.prog 70 #[.int .i64 n] w fun e w' => e = .returned (fin (n * 1000000)) ∧ Below w.heap.size w w' := by
  go_enter Tryz.func70, Tryz.ntmps70
  go_wp2
  exact bodyPost_ret (v := fin (n * 1000000)) (by simp [results, Tryz.results70, go_sem]) rfl ⟨rfl, (Below.refl _ _).alloc (Nat.le_refl _) _⟩

set_option maxRecDepth 100000 in
set_option maxHeartbeats 1000000 in
theorem floor_fin (v : Int) (w : World) (h0 : 0 ≤ v) (h1 : v ≤ 1000000000000) :
    Calls Tryz.prog 62 #[fin v] w fun e w' => e = .returned (fin (v - v % 1000000)) ∧ Below w.heap.size w w' := by
  go_enter Tryz.func62, Tryz.ntmps62
  go_wp2
  exact bodyPost_ret (v := fin (v - v % 1000000)) (by simp [results, Tryz.results62, go_sem]) rfl ⟨rfl, ((Below.refl _ _).alloc (Nat.le_refl _) _).alloc (by simp) _⟩

set_option maxRecDepth 100000 in
set_option maxHeartbeats 1000000 in
theorem or_any (b : Nat) (x y : Int) (w : World) (h0 : w.cell? ⟨b, 0, none⟩ = some (.int .i64 x)) (h1 : w.cell? ⟨b, 1, none⟩ = some (.int .i64 y)) :
    Calls Tryz.prog 222 #[.slice (some ⟨b, 0, none⟩) 2 2] w fun e w' => e = .returned (.int .i64 (if x = 0 then y else x)) ∧ w' = w := by
  go_enter Tryz.func222, Tryz.ntmps222
  go_wp2
  go_loop [5, 8] (fun _ i => ∃ k : Nat, k ≤ 2 ∧ i = .int .i64 k ∧ (0 < k → x = 0) ∧ (1 < k → y = 0)) (fun _ i => 2 - (intOf i).toNat)
  case atStart => exact ⟨0, by omega, rfl, by omega, by omega⟩
  case round =>
    obtain ⟨k, hk, rfl, hx, hy⟩ := hrel
    have hk' : k = 0 ∨ k = 1 ∨ k = 2 := by omega
    rcases hk' with rfl | rfl | rfl
    · clear hx hy hk
      by_cases hx : x = 0
      · subst hx
        go_wp2
        go_round
        case rel => exact ⟨1, by omega, by go_num, by simp, by simp⟩
        case measure => simp [intOf]
      · have hx' : (x != 0) = true := by simpa using hx
        go_wp2
        go_ret
        exact ⟨by first | rfl | (rw [if_neg hx]; rfl), rfl⟩
    · have hx' := hx (by omega)
      clear hx hy hk
      subst hx'
      by_cases hy : y = 0
      · subst hy
        go_wp2
        go_round
        case rel => exact ⟨2, by omega, by go_num, by simp, by simp⟩
        case measure => simp [intOf]
      · have hy' : (y != 0) = true := by simpa using hy
        go_wp2
        go_ret
        exact ⟨by first | rfl | simp, rfl⟩
    · have hx' := hx (by omega)
      have hy' := hy (by omega)
      clear hx hy hk
      subst hx' hy'
      go_wp2
      go_ret
      exact ⟨by first | rfl | simp, rfl⟩

/-- What Compare tells of two finite numbers. -/
def cmpI (a b : Int) : Int := if a < b then -1 else if b < a then 1 else 0
theorem cmpI_lt {a b : Int} (h : a < b) : cmpI a b = -1 := by simp [cmpI, h]
theorem cmpI_gt {a b : Int} (h : b < a) : cmpI a b = 1 := by simp [cmpI, h]; omega
theorem cmpI_eq {a b : Int} (h : ¬ a < b) (h' : ¬ b < a) : cmpI a b = 0 := by simp [cmpI, h, h']

set_option maxRecDepth 100000 in
set_option maxHeartbeats 1000000 in
theorem compare64_any (x y : Int) (w : World) :
    Calls Tryz.prog 193 #[.int .i64 x, .int .i64 y] w fun e w' => e = .returned (.int .i64 (cmpI x y)) ∧ w' = w := by
  by_cases hx : x < y
  · have H := Lib.hid (cmpI_lt hx)
    go_enter Tryz.func193, Tryz.ntmps193
    go_wp2
    go_ret
    exact ⟨by rw [H.out]; rfl, rfl⟩
  · by_cases hy : y < x
    · have H := Lib.hid (cmpI_gt hy)
      go_enter Tryz.func193, Tryz.ntmps193
      go_wp2
      go_ret
      exact ⟨by rw [H.out]; rfl, rfl⟩
    · have H := Lib.hid (cmpI_eq hx hy)
      go_enter Tryz.func193, Tryz.ntmps193
      go_wp2
      go_ret
      exact ⟨by rw [H.out]; rfl, rfl⟩

set_option maxRecDepth 100000 in
set_option maxHeartbeats 1000000 in
theorem place_fin (v : Int) (w : World) :
    Calls Tryz.prog 221 #[fin v] w fun e w' => e = .returned (.tuple #[.int .i64 2, .int .i64 v]) ∧ Below w.heap.size w w' := by
  go_enter Tryz.func221, Tryz.ntmps221
  go_wp2_with fail
  have hb : ∀ w, (Instr.build 364 #[(1, .int .i64 0), (3, .int .i64 1), (0, .int .i64 2), (2, .int .i64 3)]).run Tryz.prog w = .ok (.agg #[.int .i64 2, .int .i64 0, .int .i64 3, .int .i64 1]) w := fun _ => by kernel_rfl
  have hi : ∀ w, (Instr.index 364 (.agg #[.int .i64 2, .int .i64 0, .int .i64 3, .int .i64 1]) (.int .i64 (min 0 3))).run Tryz.prog w = .ok (.int .i64 2) w := fun _ => by kernel_rfl
  refine wp_region_still_lit (by kernel_rfl) (by kernel_rfl) ?_
  change wpStill _ _ (World.alloc _ _).drew _ _ _
  repeat still_step
  refine wpStill_nil ?_
  change Exit.then _ _ _ _ (World.alloc _ _).drew
  go_wp2_with fail
  go_ret2
  exact ⟨rfl, ((Below.refl _ _).alloc (Nat.le_refl _) _).drew⟩

set_option maxRecDepth 100000 in
set_option maxHeartbeats 1000000 in
theorem order_fin (a b : Int) (w : World) :
    Calls Tryz.prog 169 #[fin a, fin b] w fun e w' => e = .returned (.int .i64 (cmpI a b)) ∧ Below w.heap.size w w' := by
  go_enter Tryz.func169, Tryz.ntmps169
  go_wp2_with fail
  refine Calls.mono (place_fin a _) ?_
  rintro e w1 ⟨rfl, hb1⟩
  dsimp only
  have hw : Below w.heap.size w w1 := below_then (((Below.refl _ _).alloc (Nat.le_refl _) _).alloc (by simp) _) (by simp; omega) hb1
  have c0 : w1.cell? ⟨w.heap.size + 1, 0, none⟩ = some (.int .i64 0) := (hb1.cell (p := ⟨w.heap.size + 1, 0, none⟩) (by simp)).trans (by simp [go_sem])
  have c1 : w1.cell? ⟨w.heap.size + 1, 1, none⟩ = some (.int .i64 b) := (hb1.cell (p := ⟨w.heap.size + 1, 1, none⟩) (by simp)).trans (by simp [go_sem])
  clear hb1
  go_wp2_with fail
  refine Calls.mono (place_fin b _) ?_
  rintro e w2 ⟨rfl, hb2⟩
  dsimp only
  have hw2 := below_then hw hw.size hb2
  clear hb2 c0 c1 hw
  have h22 : Lib.compareInt 2 2 = 0 := by decide
  go_wp2_with fail
  refine Calls.mono (Tryz.cmp_Compare_int _ _ _) ?_
  rintro e w3 ⟨rfl, rfl⟩
  dsimp only
  rw [h22]
  clear h22
  go_wp2_with fail
  refine Calls.mono (compare64_any a b _) ?_
  rintro e w4 ⟨rfl, rfl⟩
  dsimp only
  go_wp2_with fail
  refine Calls.mono (or_any _ 0 (cmpI a b) _ (by simp [go_sem]) (by simp [go_sem])) ?_
  rintro e w5 ⟨rfl, rfl⟩
  dsimp only
  rw [if_pos rfl]
  go_wp2_with fail
  go_ret
  exact ⟨rfl, hw2.alloc hw2.size _⟩

set_option maxRecDepth 100000 in
set_option maxHeartbeats 1000000 in
theorem compare_fin (a b : Int) (w : World) :
    Calls Tryz.prog 114 #[fin a, fin b] w fun e w' => e = .returned (.tuple #[.int .i64 (cmpI a b), .bool true]) ∧ Below w.heap.size w w' := by
  go_enter Tryz.func114, Tryz.ntmps114
  go_wp2_with fail
  refine Calls.mono (order_fin a b _) ?_
  rintro e w1 ⟨rfl, hb1⟩
  dsimp only
  have hw : Below w.heap.size w w1 := below_then (((Below.refl _ _).alloc (Nat.le_refl _) _).alloc (by simp) _) (by simp; omega) hb1
  go_wp2_with fail
  go_ret2
  exact ⟨rfl, hw⟩
end Go.Proofs.YtaadhehcoegmhaaGreatDoor
