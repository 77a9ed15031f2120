/- A value as a text, as a number; the arguments of a function of values, read. -/
import Derived.Test.YtaadhehcoegmhaaGreatDoorA4
import Derived.StillTailTactics
import Derived.Lib.Hide
namespace Go.Proofs.YtaadhehcoegmhaaGreatDoor
open Go Go.RowKit

theorem cell_alloc {w : World} {a : Addr} {v : Value} (h : w.cell? a = some v) (o : Obj) : (w.alloc o).cell? a = some v :=
  (World.cell?_of_block (w := w) (Below.heap_alloc w o a.block (World.block_lt_of_cell? w _ h))).trans h

/-- A value that is a text or a number. -/
inductive GV where
  | text (s : ByteArray)
  | num (k v : Int)
/-- Its six cells. -/
def GV.cells : GV → List Value
  | .text s => [.int .i64 2, .slice none 0 0, .int .i64 0, .int .i64 0, .string s, .bool false]
  | .num k v => [.int .i64 1, .slice none 0 0, .int .i64 k, .int .i64 v, .string ⟨#[]⟩, .bool false]
def GV.val (x : GV) : Value := .agg x.cells.toArray

/-- The slice v reads as these values. -/
def ArgsAt (w : World) (v : Value) (xs : List GV) : Prop :=
  ∃ b cap, v = .slice (some ⟨b, 0, none⟩) xs.length cap ∧ xs.length ≤ 1000 ∧ ∀ i x, xs[i]? = some x → ∀ j c, x.cells[j]? = some c → w.cell? ⟨b, i * 6 + j, none⟩ = some c
theorem ArgsAt.below {w w' : World} {v : Value} {xs : List GV} (h : ArgsAt w v xs) (hb : Below w.heap.size w w') : ArgsAt w' v xs := by
  obtain ⟨b, cap, h1, h2, h3⟩ := h
  refine ⟨b, cap, h1, h2, fun i x hx j c hc => ?_⟩
  have := h3 i x hx j c hc
  exact (hb.cell (World.block_lt_of_cell? w _ this)).trans this

set_option maxRecDepth 100000 in
set_option maxHeartbeats 400000 in
theorem string_text (t : Value) (s : ByteArray) (w : World) :
    Calls Tryz.prog 125 #[t, vText s] w fun e w' => e = .returned (.string s) ∧ Below w.heap.size w w' := by
  unfold vText
  go_enter Tryz.func125, Tryz.ntmps125
  go_wp2
  go_ret
  exact ⟨rfl, (Below.refl _ _).alloc (Nat.le_refl _) _⟩

set_option maxRecDepth 100000 in
set_option maxHeartbeats 400000 in
theorem number_num (t : Value) (k v : Int) (w : World) :
    Calls Tryz.prog 116 #[t, vNum k v] w fun e w' => e = .returned (.agg #[.int .i64 k, .int .i64 v]) ∧ Below w.heap.size w w' := by
  unfold vNum
  go_enter Tryz.func116, Tryz.ntmps116
  go_wp2
  refine bodyPost_ret (v := .agg #[.int .i64 k, .int .i64 v]) (by simp [results, Tryz.results116, go_sem]) rfl ⟨rfl, ((Below.refl _ _).alloc (Nat.le_refl _) _).alloc (by simp) _⟩

set_option maxRecDepth 100000 in
set_option maxHeartbeats 400000 in
theorem str_any (t sl : Value) (xs : List GV) (i : Nat) (s : ByteArray) (w : World) (h : ArgsAt w sl xs) (hi : xs[i]? = some (.text s)) :
    Calls Tryz.prog 77 #[.agg #[t, sl], .int .i64 i] w fun e w' => e = .returned (.string s) ∧ Below w.heap.size w w' := by
  obtain ⟨b, cap, rfl, hl, hc⟩ := h
  have hlt : i < xs.length := (List.getElem?_eq_some_iff.1 hi).1
  have c0 := hc i _ hi 0 _ rfl
  have c1 := hc i _ hi 1 _ rfl
  have c2 := hc i _ hi 2 _ rfl
  have c3 := hc i _ hi 3 _ rfl
  have c4 := hc i _ hi 4 _ rfl
  have c5 := hc i _ hi 5 _ rfl
  rw [Nat.add_zero] at c0
  clear hc hi
  replace c0 := cell_alloc c0 (.cells #[t, .slice (some ⟨b, 0, none⟩) xs.length cap] 88)
  replace c1 := cell_alloc c1 (.cells #[t, .slice (some ⟨b, 0, none⟩) xs.length cap] 88)
  replace c2 := cell_alloc c2 (.cells #[t, .slice (some ⟨b, 0, none⟩) xs.length cap] 88)
  replace c3 := cell_alloc c3 (.cells #[t, .slice (some ⟨b, 0, none⟩) xs.length cap] 88)
  replace c4 := cell_alloc c4 (.cells #[t, .slice (some ⟨b, 0, none⟩) xs.length cap] 88)
  replace c5 := cell_alloc c5 (.cells #[t, .slice (some ⟨b, 0, none⟩) xs.length cap] 88)
  go_enter Tryz.func77, Tryz.ntmps77
  go_wp2_with fail
  refine wp_region_still_tail 7 (by kernel_rfl) (by kernel_rfl) ?_
  simp only [List.take_succ_cons, List.take_zero, List.drop_succ_cons, List.drop_zero]
  change wpStill _ _ (World.alloc _ _).drew _ _ _
  have i0 : (0 : Int) ≤ i := by omega
  have i1 : (i : Int) < xs.length := by omega
  repeat still_step
  refine wpStill_nil ?_
  change wpList _ _ _ _ _ (World.alloc _ _).drew
  go_wp2_with fail
  refine (string_text t s _).mono ?_
  rintro e w1 ⟨rfl, hb⟩
  go_wp2_with fail
  go_ret
  exact ⟨rfl, (((Below.refl _ _).alloc (Nat.le_refl _) _).drew.trans (hb.mono (by simp)))⟩
end Go.Proofs.YtaadhehcoegmhaaGreatDoor
