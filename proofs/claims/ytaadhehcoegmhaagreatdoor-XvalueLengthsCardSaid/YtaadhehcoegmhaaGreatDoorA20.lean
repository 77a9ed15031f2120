/- The law of a text cut at another one, walked. -/
import Derived.Test.YtaadhehcoegmhaaGreatDoorA19
namespace Go.Proofs.YtaadhehcoegmhaaGreatDoor
open Go Go.RowKit

/-- A slice of two texts that the call has just made. -/
theorem texts2 (w : World) (s u : ByteArray) : TextsAt (w.alloc (.cells #[.string s, .string u] 9)) w.heap.size [s, u] := by
  intro i x hx
  rw [Lib.cell_of_heap (heap_alloc_new w _)]
  match i, hx with
  | 0, hx => simp at hx; subst hx; rfl
  | 1, hx => simp at hx; subst hx; rfl
  | i + 2, hx => simp at hx

theorem env_alloc {w : World} (h : Env w) (o : Obj) : Env (w.alloc o) := h.below ((Below.refl _ _).alloc (Nat.le_refl _) _)

theorem text_before (s u : ByteArray) (w : World) (hE : Env w) (hs : s.size ≤ 20000) :
    Calls Tryz.prog 12 #[.string ⟨#[115, 117, 98, 115, 116, 114, 105, 110, 103, 45, 98, 101, 102, 111, 114, 101]⟩, .slice (some ⟨w.heap.size, 0, none⟩) 2 2] (w.alloc (.cells #[.string s, .string u] 9)) fun e w' => e = .returned (.tuple #[.string (cutOf s u false), .bool true]) ∧ Below w.heap.size w w' := by
  refine Calls.mono (text_any7 _ (cutOf s u false) [s, u] w.heap.size 2 _ (by simp) (by simp) (texts2 w s u) (by simp) (env_alloc hE _) fun A cap w' h => call_before A cap s u w' h (by omega) (Nat.le_trans (cutOf_size _ _ _) (by omega))) ?_
  rintro e w' ⟨rfl, hb⟩
  exact ⟨rfl, below_then ((Below.refl _ _).alloc (Nat.le_refl _) _) (by simp) hb⟩

theorem text_after (s u : ByteArray) (w : World) (hE : Env w) (hs : s.size ≤ 20000) :
    Calls Tryz.prog 12 #[.string ⟨#[115, 117, 98, 115, 116, 114, 105, 110, 103, 45, 97, 102, 116, 101, 114]⟩, .slice (some ⟨w.heap.size, 0, none⟩) 2 2] (w.alloc (.cells #[.string s, .string u] 9)) fun e w' => e = .returned (.tuple #[.string (cutOf s u true), .bool true]) ∧ Below w.heap.size w w' := by
  refine Calls.mono (text_any7 _ (cutOf s u true) [s, u] w.heap.size 2 _ (by simp) (by simp) (texts2 w s u) (by simp) (env_alloc hE _) fun A cap w' h => call_after A cap s u w' h (by omega) (Nat.le_trans (cutOf_size _ _ _) (by omega))) ?_
  rintro e w' ⟨rfl, hb⟩
  exact ⟨rfl, below_then ((Below.refl _ _).alloc (Nat.le_refl _) _) (by simp) hb⟩

theorem call_contains_new (s u : ByteArray) (w : World) (hE : Env w) (hs : s.size ≤ 20000) :
    Calls Tryz.prog 13 #[.pointer none, .string ⟨#[99, 111, 110, 116, 97, 105, 110, 115]⟩, .slice (some ⟨w.heap.size, 0, none⟩) 2 2]
      (w.alloc (.cells #[.int .i64 2, .slice none 0 0, .int .i64 0, .int .i64 0, .string s, .bool false, .int .i64 2, .slice none 0 0, .int .i64 0, .int .i64 0, .string u, .bool false] 31))
      fun e w' => e = .returned (.tuple #[vBool (Lib.contains s.data.toList u.data.toList), .int .i64 0]) ∧ Below w.heap.size w w' := by
  refine Calls.mono (call_contains (some ⟨w.heap.size, 0, none⟩) 2 s u _ (has_new [.text s, .text u] 2 _ hE rfl (by simp)) (by omega)) ?_
  rintro e w' ⟨rfl, hb⟩
  exact ⟨rfl, below_then ((Below.refl _ _).alloc (Nat.le_refl _) _) (by simp) hb⟩

set_option maxRecDepth 100000 in
set_option maxHeartbeats 1000000 in
theorem xvalueParts_walk (s u : ByteArray) (w : World) (hE : Env w) (hs : s.size ≤ 4611686018427387903) (hu : u.size ≤ 4611686018427387903) :
    Calls Tryz.prog 3 #[.string s, .string u] w fun e w' => e = .returned (.bool true) ∧ Below w.heap.size w w' := by
  by_cases hbig : s.size + u.size > 20000
  · go_enter Tryz.func3, Tryz.ntmps3
    go_wp2_with fail
    refine Calls.mono (live_any _ hE) ?_
    rintro e w1 ⟨rfl, hb1⟩
    dsimp only
    go_wp2_with fail
    go_ret
    exact ⟨rfl, hb1⟩
  · have hss : s.size ≤ 20000 := by omega
    go_enter Tryz.func3, Tryz.ntmps3
    go_wp2_with fail
    refine Calls.mono (text_before s u _ hE hss) ?_
    rintro e w1 ⟨rfl, hb1⟩
    dsimp only
    have hE1 := hE.below hb1
    go_wp2_with fail
    refine Calls.mono (text_after s u _ hE1 hss) ?_
    rintro e w2 ⟨rfl, hb2⟩
    dsimp only
    have hE2 := hE1.below hb2
    have hbel2 := below_then hb1 hb1.size hb2
    clear hb1 hb2 hE1 hE
    go_wp2_with fail
    refine Calls.mono (ofText_any s _) ?_
    rintro e w3 ⟨rfl, hb3⟩
    dsimp only [vText]
    go_wp2_with fail
    refine Calls.mono (ofText_any u _) ?_
    rintro e w4 ⟨rfl, hb4⟩
    dsimp only [vText]
    have hE4 := (hE2.below hb3).below hb4
    have hbel4 := below_then (below_then hbel2 hbel2.size hb3) (Nat.le_trans hbel2.size hb3.size) hb4
    clear hb3 hb4 hE2 hbel2
    go_wp2_with fail
    refine Calls.mono (call_contains_new s u _ hE4 hss) ?_
    obtain ⟨c, hc⟩ : ∃ c, c = Lib.contains s.data.toList u.data.toList := ⟨_, rfl⟩
    rw [← hc]
    have HC := Lib.hid hc
    clear hc
    rintro e w5 ⟨rfl, hb5⟩
    dsimp only [vBool]
    have hE5 := hE4.below hb5
    have hbel5 := below_then hbel4 hbel4.size hb5
    clear hb5 hE4 hbel4
    have hg := heap_alloc_new w5 (.cells #[.int .i64 0, .slice none 0 0, .int .i64 0, .int .i64 0, .string ⟨#[]⟩, .bool false] 31)
    obtain ⟨hp1, hp2, hp3⟩ := put_new w5 #[.int .i64 0, .slice none 0 0, .int .i64 0, .int .i64 0, .string ⟨#[]⟩, .bool false] #[.int .i64 3, .slice none 0 0, .int .i64 0, .int .i64 0, .string ⟨#[]⟩, .bool c] 31
    have hbel6 := below_then hbel5 hbel5.size hp1
    have hE6 := hE5.below hp1
    have hc1 := Lib.cell_of_heap hp2 5
    have hc2 := Lib.cell_of_heap hp2 0
    simp at hc1 hc2
    clear hE5 hbel5 hp1 hp3
    cases c
    · have ha := cutOf_none s u false HC.out.symm
      have hb := cutOf_none s u true HC.out.symm
      rw [ha, hb]
      clear ha hb
      go_wp2_with (refine wpList_store_row rfl 31 (.tmp 9) (.tmp 41) rfl (w5.heap.size) #[.int .i64 3, .slice none 0 0, .int .i64 0, .int .i64 0, .string ⟨#[]⟩, .bool false] rfl rfl 31 _ hg (by kernel_rfl) rfl (by simp [Value.oneCell']) ?_)
      refine Calls.mono (live_any _ hE6) ?_
      rintro e w7 ⟨rfl, hb7⟩
      dsimp only
      go_wp2_with fail
      go_ret
      exact ⟨rfl, below_then hbel6 hbel6.size hb7⟩
    · go_wp2_with (refine wpList_store_row rfl 31 (.tmp 9) (.tmp 41) rfl (w5.heap.size) #[.int .i64 3, .slice none 0 0, .int .i64 0, .int .i64 0, .string ⟨#[]⟩, .bool true] rfl rfl 31 _ hg (by kernel_rfl) rfl (by simp [Value.oneCell']) ?_)
      refine Calls.mono (ofText_any _ _) ?_
      rintro e w7 ⟨rfl, hb7⟩
      dsimp only [vText]
      go_wp2_with fail
      refine Calls.mono (ofText_any _ _) ?_
      rintro e w8 ⟨rfl, hb8⟩
      dsimp only [vText]
      have hE8 := (hE6.below hb7).below hb8
      have hbel8 := below_then (below_then hbel6 hbel6.size hb7) (Nat.le_trans hbel6.size hb7.size) hb8
      clear hb7 hb8 hE6 hbel6 hg hc1 hc2 hp2
      go_wp2_with fail
      refine Calls.mono (call_contains_new _ u _ hE8 (Nat.le_trans (cutOf_size _ _ _) hss)) ?_
      obtain ⟨d, hd⟩ : ∃ d, d = Lib.contains (cutOf s u false).data.toList u.data.toList := ⟨_, rfl⟩
      rw [← hd]
      have HD := Lib.hid hd
      clear hd
      rintro e w9 ⟨rfl, hb9⟩
      dsimp only [vBool]
      have hE9 := hE8.below hb9
      have hbel9 := below_then hbel8 hbel8.size hb9
      clear hb9 hE8 hbel8
      have hg := heap_alloc_new w9 (.cells #[.int .i64 0, .slice none 0 0, .int .i64 0, .int .i64 0, .string ⟨#[]⟩, .bool false] 31)
      obtain ⟨hp1, hp2, hp3⟩ := put_new w9 #[.int .i64 0, .slice none 0 0, .int .i64 0, .int .i64 0, .string ⟨#[]⟩, .bool false] #[.int .i64 3, .slice none 0 0, .int .i64 0, .int .i64 0, .string ⟨#[]⟩, .bool d] 31
      have hbel10 := below_then hbel9 hbel9.size hp1
      have hE10 := hE9.below hp1
      have hj := cutOf_joins s u HC.out.symm
      have hu0 : d = true → u = ⟨#[]⟩ := fun hd => Classical.byContradiction fun hn => by
        have := cutOf_first s u HC.out.symm hn
        rw [← HD.out, hd] at this
        cases this
      have HU := Lib.hid hu0
      clear hE9 hbel9 hp1 hp3 hu0
      go_wp2_with (refine wpList_store_row rfl 31 (.tmp 11) (.tmp 77) rfl (w9.heap.size) #[.int .i64 3, .slice none 0 0, .int .i64 0, .int .i64 0, .string ⟨#[]⟩, .bool d] rfl rfl 31 _ hg (by kernel_rfl) rfl (by simp [Value.oneCell']) ?_)
      refine Calls.mono (live_any _ hE10) ?_
      rintro e w11 ⟨rfl, hb11⟩
      dsimp only
      have hp11 := (hb11.block _ (Array.getElem?_eq_some_iff.1 hp2).1).trans hp2
      have hc1 := Lib.cell_of_heap hp11 5
      simp at hc1
      have hbel11 := below_then hbel10 hbel10.size hb11
      clear hb11 hbel10 hE10 hp2 hp11 hg HC HD
      have hs1 := cutOf_size s u false
      have hs2 := cutOf_size s u true
      have hn1 : ¬ 9223372036854775807 < (cutOf s u false).size + u.size := by omega
      have hn2 : ¬ 9223372036854775807 < (cutOf s u false).size + u.size + (cutOf s u true).size := by omega
      cases d
      · clear HU
        go_wp2_with fail
        go_ret
        exact ⟨rfl, hbel11⟩
      · have hu0 := HU.out rfl
        clear HU
        subst hu0
        go_wp2_with fail
        go_ret
        exact ⟨rfl, hbel11⟩
end Go.Proofs.YtaadhehcoegmhaaGreatDoor
