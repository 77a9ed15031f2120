/- What must be whatever is asked: live answers true. -/
import Derived.Test.YtaadhehcoegmhaaGreatDoorA16
namespace Go.Proofs.YtaadhehcoegmhaaGreatDoor
open Go Go.RowKit

/-- A call's own slice of arguments. -/
theorem has_new {w : World} (xs : List GV) (cap : Nat) (cs : Array Value) (h : Env w) (hcs : cs.toList = xs.flatMap GV.cells) (hl : xs.length ≤ 1000) :
    Has (.slice (some ⟨w.heap.size, 0, none⟩) xs.length cap) xs (w.alloc (.cells cs 31)) :=
  ⟨args_new xs (heap_alloc_new w _) hcs hl, h.below ((Below.refl _ _).alloc (Nat.le_refl _) _)⟩

theorem tr_live : ([98, 97, 114] : List UInt8).flatMap (trc [97, 98, 99] [65, 66]) = [66, 65, 114] := by decide
theorem sub_live : subTo (rnd 1500000) (rnd 1500000 + rnd 2600000) [49, 50, 51, 52, 53] 5 = [50, 51, 52] := by decide
theorem ascii_of (l : List UInt8) (h : l.all (· < 128) = true) (hn : l.length ≤ 100000) : ascii l := ⟨fun c hc => by simpa using List.all_eq_true.1 h c hc, hn⟩

set_option maxRecDepth 100000 in
set_option maxHeartbeats 1000000 in
theorem live_any (w : World) (h : Env w) : Calls Tryz.prog 11 #[] w fun e w' => e = .returned (.bool true) ∧ Below w.heap.size w w' := by
  go_enter Tryz.func11, Tryz.ntmps11
  go_wp2_with fail
  refine Calls.mono (ofText_any _ _) ?_
  rintro e w1 ⟨rfl, hb1⟩
  dsimp only [vText]
  go_wp2_with fail
  refine Calls.mono (ofText_any _ _) ?_
  rintro e w2 ⟨rfl, hb2⟩
  dsimp only [vText]
  go_wp2_with fail
  refine Calls.mono (ofText_any _ _) ?_
  rintro e w3 ⟨rfl, hb3⟩
  dsimp only [vText]
  have hb : Below w.heap.size w w3 := below_then (below_then hb1 hb1.size hb2) (Nat.le_trans hb1.size hb2.size) hb3
  have hE3 := h.below hb
  go_wp2_with fail
  refine Calls.mono (call_translate (some ⟨w3.heap.size, 0, none⟩) 3 [98, 97, 114] [97, 98, 99] [65, 66] _ (has_new [.text ⟨#[98, 97, 114]⟩, .text ⟨#[97, 98, 99]⟩, .text ⟨#[65, 66]⟩] 3 _ hE3 rfl (by decide)) (ascii_of _ (by decide) (by decide)) (ascii_of _ (by decide) (by decide)) (ascii_of _ (by decide) (by decide)) (by decide)) ?_
  rw [tr_live]
  rintro e w4 ⟨rfl, hb4⟩
  dsimp only [vText]
  have hbel4 : Below w.heap.size w w4 := below_then (hb.alloc hb.size _) (by have := hb.size; simp; omega) hb4
  clear hb hb1 hb2 hb3 hb4 hE3
  have hg := heap_alloc_new w4 (.cells #[.int .i64 0, .slice none 0 0, .int .i64 0, .int .i64 0, .string ⟨#[]⟩, .bool false] 31)
  obtain ⟨hp1, hp2, hp3⟩ := put_new w4 #[.int .i64 0, .slice none 0 0, .int .i64 0, .int .i64 0, .string ⟨#[]⟩, .bool false] #[.int .i64 2, .slice none 0 0, .int .i64 0, .int .i64 0, .string ⟨#[66, 65, 114]⟩, .bool false] 31
  have hbel5 := below_then hbel4 hbel4.size hp1
  go_wp2_with (refine wpList_store_row rfl 31 (.tmp 1) (.tmp 11) rfl (w4.heap.size) #[.int .i64 2, .slice none 0 0, .int .i64 0, .int .i64 0, .string ⟨#[66, 65, 114]⟩, .bool false] rfl rfl 31 _ hg (by kernel_rfl) rfl (by simp [Value.oneCell']) ?_)
  refine Calls.mono (ofText_any _ _) ?_
  rintro e w6 ⟨rfl, hb6⟩
  dsimp only [vText]
  have hk6 := (hb6.block _ (by omega)).trans hp2
  have hbel6 := below_then hbel5 hbel5.size hb6
  clear hb6 hp1 hp2 hp3 hbel5 hg hbel4
  go_wp2_with fail
  refine Calls.mono (ofNum_any _ _ _) ?_
  rintro e w7 ⟨rfl, hb7⟩
  dsimp only [vNum]
  go_wp2_with fail
  refine Calls.mono (ofNum_any _ _ _) ?_
  rintro e w8 ⟨rfl, hb8⟩
  dsimp only [vNum]
  have hlt6 := (Array.getElem?_eq_some_iff.1 hk6).1
  have hk8 := (hb8.block _ (by have := hb7.size; omega)).trans ((hb7.block _ (by omega)).trans hk6)
  have hbel8 := below_then (below_then hbel6 hbel6.size hb7) (by have := hb7.size; have := hbel6.size; omega) hb8
  clear hb7 hb8 hk6 hbel6
  have hE8 := h.below hbel8
  go_wp2_with fail
  refine Calls.mono (call_substring (some ⟨w8.heap.size, 0, none⟩) 3 [49, 50, 51, 52, 53] 1500000 2600000 _ (has_new [.text ⟨#[49, 50, 51, 52, 53]⟩, .num 0 1500000, .num 0 2600000] 3 _ hE8 rfl (by decide)) (ascii_of _ (by decide) (by decide)) (by decide) (by decide) (by decide) (by decide) (by decide)) ?_
  rw [show ([49, 50, 51, 52, 53] : List UInt8).length = 5 from rfl, sub_live]
  rintro e w9 ⟨rfl, hb9⟩
  dsimp only [vText]
  have hz9 := hb9.size
  simp at hz9
  have hlt8 := (Array.getElem?_eq_some_iff.1 hk8).1
  have hk9 := (hb9.block _ (by simp; omega)).trans ((Below.heap_alloc _ _ _ (by omega)).trans hk8)
  have hbel9 := below_then (hbel8.alloc hbel8.size _) (by have := hbel8.size; simp; omega) hb9
  clear hb9 hk8 hbel8 hE8
  have hg := heap_alloc_new w9 (.cells #[.int .i64 0, .slice none 0 0, .int .i64 0, .int .i64 0, .string ⟨#[]⟩, .bool false] 31)
  obtain ⟨hp1, hp2, hp3⟩ := put_new w9 #[.int .i64 0, .slice none 0 0, .int .i64 0, .int .i64 0, .string ⟨#[]⟩, .bool false] #[.int .i64 2, .slice none 0 0, .int .i64 0, .int .i64 0, .string ⟨#[50, 51, 52]⟩, .bool false] 31
  have hk10 := (hp1.block _ (by omega)).trans hk9
  have hbel10 := below_then hbel9 hbel9.size hp1
  have hc1 := Lib.cell_of_heap hk10 4
  have hc2 := Lib.cell_of_heap hp2 4
  simp at hc1 hc2
  clear hk9 hbel9 hp1 hp3 hk10 hp2
  go_wp2_with (refine wpList_store_row rfl 31 (.tmp 3) (.tmp 21) rfl (w9.heap.size) #[.int .i64 2, .slice none 0 0, .int .i64 0, .int .i64 0, .string ⟨#[50, 51, 52]⟩, .bool false] rfl rfl 31 _ hg (by kernel_rfl) rfl (by simp [Value.oneCell']) ?_)
  go_ret
  exact ⟨rfl, hbel10⟩
end Go.Proofs.YtaadhehcoegmhaaGreatDoor
