/- The law of joined texts, walked. -/
import Derived.Test.YtaadhehcoegmhaaGreatDoorA28
import Derived.Test.YtaadhehcoegmhaaGreatDoorA20
namespace Go.Proofs.YtaadhehcoegmhaaGreatDoor
open Go Go.RowKit

theorem text_concat (s u : ByteArray) (w : World) (hE : Env w) (hle : s.size + u.size ≤ 32768) :
    Calls Tryz.prog 12 #[.string ⟨#[99, 111, 110, 99, 97, 116]⟩, .slice (some ⟨w.heap.size, 0, none⟩) 2 2] (w.alloc (.cells #[.string s, .string u] 9)) fun e w' => e = .returned (.tuple #[.string (s ++ u), .bool true]) ∧ Below w.heap.size w w' := by
  refine Calls.mono (text_any7 _ (s ++ u) [s, u] w.heap.size 2 _ (by simp) (by simp) (texts2 w s u) (by simp) (env_alloc hE _) fun A cap w' h => call_concat A cap s u w' h (by omega) (by omega) hle) ?_
  rintro e w' ⟨rfl, hb⟩
  exact ⟨rfl, below_then ((Below.refl _ _).alloc (Nat.le_refl _) _) (by simp) hb⟩

theorem call_length_new (s : ByteArray) (w : World) (hE : Env w) (hs : s.size ≤ 1000000) :
    Calls Tryz.prog 13 #[.pointer none, .string ⟨#[115, 116, 114, 105, 110, 103, 45, 108, 101, 110, 103, 116, 104]⟩, .slice (some ⟨w.heap.size, 0, none⟩) 1 1]
      (w.alloc (.cells #[.int .i64 2, .slice none 0 0, .int .i64 0, .int .i64 0, .string s, .bool false] 31))
      fun e w' => e = .returned (.tuple #[vNum 0 ((Lib.runeCount s : Int) * 1000000), .int .i64 0]) ∧ Below w.heap.size w w' := by
  refine Calls.mono (call_length (some ⟨w.heap.size, 0, none⟩) 1 s _ (has_new [.text s] 1 _ hE rfl (by simp)) hs) ?_
  rintro e w' ⟨rfl, hb⟩
  exact ⟨rfl, below_then ((Below.refl _ _).alloc (Nat.le_refl _) _) (by simp) hb⟩

theorem call_starts_new (s u : ByteArray) (w : World) (hE : Env w) :
    Calls Tryz.prog 13 #[.pointer none, .string ⟨#[115, 116, 97, 114, 116, 115, 45, 119, 105, 116, 104]⟩, .slice (some ⟨w.heap.size, 0, none⟩) 2 2]
      (w.alloc (.cells #[.int .i64 2, .slice none 0 0, .int .i64 0, .int .i64 0, .string s, .bool false, .int .i64 2, .slice none 0 0, .int .i64 0, .int .i64 0, .string u, .bool false] 31))
      fun e w' => e = .returned (.tuple #[vBool (Lib.hasPrefix s.data.toList u.data.toList), .int .i64 0]) ∧ Below w.heap.size w w' := by
  refine Calls.mono (call_starts (some ⟨w.heap.size, 0, none⟩) 2 s u _ (has_new [.text s, .text u] 2 _ hE rfl (by simp))) ?_
  rintro e w' ⟨rfl, hb⟩
  exact ⟨rfl, below_then ((Below.refl _ _).alloc (Nat.le_refl _) _) (by simp) hb⟩

theorem prefix_append (s u : ByteArray) : Lib.hasPrefix (s ++ u).data.toList s.data.toList = true := by
  unfold Lib.hasPrefix
  rw [ByteArray.data_append, Array.toList_append, List.isPrefixOf_iff_prefix]
  exact List.prefix_append _ _

theorem len_live (w w1 : World) (hb : Below w.heap.size w w1) (hE : Env w1) : Calls Tryz.prog 11 #[] w1 fun e w' => e = .returned (.bool true) ∧ Below w.heap.size w w' :=
  Calls.mono (live_any w1 hE) fun _ _ ⟨h1, h2⟩ => ⟨h1, below_then hb hb.size h2⟩

theorem wrap_self (n : Int) (h0 : 0 ≤ n) (h1 : n ≤ 1000000000000) : IntKind.i64.wrap n = n := by
  have e : n % 18446744073709551616 = n := by omega
  simp [IntKind.wrap, IntKind.bits, IntKind.signed, e]
  omega

/-- What the last comparison holds on to. -/
theorem heldL {w w1 w2 : World} {a b : Addr} {x y : Value} (hb : Below w1.heap.size w1 w2) (h : w1.cell? a = some x ∧ w1.cell? b = some y ∧ Env w1 ∧ Below w.heap.size w w1) :
    w2.cell? a = some x ∧ w2.cell? b = some y ∧ Env w2 ∧ Below w.heap.size w w2 :=
  ⟨(hb.cell (World.block_lt_of_cell? w1 _ h.1)).trans h.1, (hb.cell (World.block_lt_of_cell? w1 _ h.2.1)).trans h.2.1, h.2.2.1.below hb, below_then h.2.2.2 h.2.2.2.size hb⟩

set_option maxRecDepth 100000 in
set_option maxHeartbeats 4000000 in
theorem xvalueLengths_walk (s u : ByteArray) (w : World) (hE : Env w) (hs : s.size ≤ 4611686018427387903) (hu : u.size ≤ 4611686018427387903) :
    Calls Tryz.prog 4 #[.string s, .string u] w fun e w' => e = .returned (.bool true) ∧ Below w.heap.size w w' := by
  by_cases hbig : s.size + u.size > 32768
  · have hbigI : (32768 : Int) < (s.size : Int) + (u.size : Int) := by omega
    go_enter Tryz.func4, Tryz.ntmps4
    go_wp2_with fail
    refine Calls.mono (live_any _ hE) ?_
    rintro e w1 ⟨rfl, hb1⟩
    dsimp only
    go_wp2_with fail
    go_ret
    exact ⟨rfl, hb1⟩
  · have hbigI : ¬ (32768 : Int) < (s.size : Int) + (u.size : Int) := by omega
    go_enter Tryz.func4, Tryz.ntmps4
    go_wp2_with fail
    refine Calls.mono (isText_some s _ hE (by omega)) ?_
    rintro e w1 ⟨⟨b, rfl, hb⟩, hb1⟩
    dsimp only
    have hE1 := hE.below hb1
    have HB := Lib.hid hb
    clear hb
    cases b
    · go_wp2_with fail
      refine Calls.mono (len_live _ _ hb1 hE1) ?_
      rintro e w2 ⟨rfl, hb2⟩
      dsimp only
      go_wp2_with fail
      go_ret
      exact ⟨rfl, hb2⟩
    · go_wp2_with fail
      refine Calls.mono (isText_some u _ hE1 (by omega)) ?_
      rintro e w2 ⟨⟨c, rfl, hc⟩, hb2⟩
      dsimp only
      have hE2 := hE1.below hb2
      have hbel2 := below_then hb1 hb1.size hb2
      clear hc hb1 hb2 hE hE1
      cases c
      · go_wp2_with fail
        refine Calls.mono (len_live _ _ hbel2 hE2) ?_
        rintro e w3 ⟨rfl, hb3⟩
        dsimp only
        go_wp2_with fail
        go_ret
        exact ⟨rfl, hb3⟩
      · have hcount := runeCount_append s u (HB.out trivial)
        clear HB
        go_wp2_with fail
        refine Calls.mono (text_concat s u _ hE2 (by omega)) ?_
        rintro e w3 ⟨rfl, hb3⟩
        dsimp only
        have hE3 := hE2.below hb3
        have hbel3 := below_then hbel2 hbel2.size hb3
        clear hb3 hE2 hbel2
        have hxs : (s ++ u).size ≤ 32768 := by rw [ByteArray.size_append]; omega
        have hpre := prefix_append s u
        have hra := Lib.runeCount_le s
        have hrb := Lib.runeCount_le u
        obtain ⟨x, hx⟩ : ∃ x, x = s ++ u := ⟨_, rfl⟩
        obtain ⟨A, hA⟩ : ∃ A, A = Lib.runeCount s := ⟨_, rfl⟩
        obtain ⟨B, hB⟩ : ∃ B, B = Lib.runeCount u := ⟨_, rfl⟩
        rw [← hx] at hxs hpre hcount ⊢
        rw [← hA] at hra hcount
        rw [← hB] at hrb hcount
        have hC1 : ∀ w : World, Calls Tryz.prog 16 #[.string s] w fun e w' => e = .returned (.int .i64 A) ∧ Below w.heap.size w w' := fun w => by rw [hA]; exact count_any s w (by omega)
        have hC2 : ∀ w : World, Calls Tryz.prog 16 #[.string u] w fun e w' => e = .returned (.int .i64 B) ∧ Below w.heap.size w w' := fun w => by rw [hB]; exact count_any u w (by omega)
        have hL : ∀ w : World, Env w → Calls Tryz.prog 13 #[.pointer none, .string ⟨#[115, 116, 114, 105, 110, 103, 45, 108, 101, 110, 103, 116, 104]⟩, .slice (some ⟨w.heap.size, 0, none⟩) 1 1]
            (w.alloc (.cells #[.int .i64 2, .slice none 0 0, .int .i64 0, .int .i64 0, .string x, .bool false] 31)) fun e w' => e = .returned (.tuple #[vNum 0 (((A : Int) + (B : Int)) * 1000000), .int .i64 0]) ∧ Below w.heap.size w w' := fun w hw => by
          have := call_length_new x w hw (by omega)
          rw [hcount] at this
          simpa using this
        have hS : ∀ w : World, Env w → Calls Tryz.prog 13 #[.pointer none, .string ⟨#[115, 116, 97, 114, 116, 115, 45, 119, 105, 116, 104]⟩, .slice (some ⟨w.heap.size, 0, none⟩) 2 2]
            (w.alloc (.cells #[.int .i64 2, .slice none 0 0, .int .i64 0, .int .i64 0, .string x, .bool false, .int .i64 2, .slice none 0 0, .int .i64 0, .int .i64 0, .string s, .bool false] 31))
            fun e w' => e = .returned (.tuple #[vBool true, .int .i64 0]) ∧ Below w.heap.size w w' := fun w hw => by
          have := call_starts_new x s w hw
          rw [hpre] at this
          exact this
        have HX := Lib.hid hx
        clear hx hA hB hcount hpre
        go_wp2_with fail
        refine Calls.mono (ofText_any x _) ?_
        rintro e w4 ⟨rfl, hb4⟩
        dsimp only [vText]
        have hE4 := hE3.below hb4
        have hbel4 := below_then hbel3 hbel3.size hb4
        clear hb4 hE3 hbel3
        go_wp2_with fail
        refine Calls.mono (hL _ hE4) ?_
        rintro e w5 ⟨rfl, hb5⟩
        dsimp only [vNum]
        have hE5 := hE4.below hb5
        have hbel5 := below_then hbel4 hbel4.size hb5
        clear hb5 hE4 hbel4
        obtain ⟨q, hq⟩ : ∃ q, q = ((A : Int) + (B : Int)) * 1000000 := ⟨_, rfl⟩
        rw [← hq]
        have hg := heap_alloc_new w5 (.cells #[.int .i64 0, .slice none 0 0, .int .i64 0, .int .i64 0, .string ⟨#[]⟩, .bool false] 31)
        obtain ⟨hp1, hp2, hp3⟩ := put_new w5 #[.int .i64 0, .slice none 0 0, .int .i64 0, .int .i64 0, .string ⟨#[]⟩, .bool false] #[.int .i64 1, .slice none 0 0, .int .i64 0, .int .i64 q, .string ⟨#[]⟩, .bool false] 31
        have hbel6 := below_then hbel5 hbel5.size hp1
        have hE6 := hE5.below hp1
        have HQ := Lib.hid hq
        clear hE5 hbel5 hp1 hp3 hq
        go_wp2_with (refine wpList_store_row rfl 31 (.tmp 7) (.tmp 40) rfl (w5.heap.size) #[.int .i64 1, .slice none 0 0, .int .i64 0, .int .i64 q, .string ⟨#[]⟩, .bool false] rfl rfl 31 _ hg (by kernel_rfl) rfl (by simp [Value.oneCell']) ?_)
        refine Calls.mono (ofText_any x _) ?_
        rintro e w7 ⟨rfl, hb7⟩
        dsimp only [vText]
        go_wp2_with fail
        refine Calls.mono (ofText_any s _) ?_
        rintro e w8 ⟨rfl, hb8⟩
        dsimp only [vText]
        have hE8 := (hE6.below hb7).below hb8
        have hbel8 := below_then (below_then hbel6 hbel6.size hb7) (Nat.le_trans hbel6.size hb7.size) hb8
        have hk8 := (hb8.block _ (Nat.lt_of_lt_of_le (Array.getElem?_eq_some_iff.1 hp2).1 hb7.size)).trans ((hb7.block _ (Array.getElem?_eq_some_iff.1 hp2).1).trans hp2)
        clear hb7 hb8 hE6 hbel6 hp2 hg
        go_wp2_with fail
        refine Calls.mono (hS _ hE8) ?_
        rintro e w9 ⟨rfl, hb9⟩
        dsimp only [vBool]
        have hE9 := hE8.below hb9
        have hbel9 := below_then hbel8 hbel8.size hb9
        have hk9 := (hb9.block _ (Array.getElem?_eq_some_iff.1 hk8).1).trans hk8
        clear hb9 hE8 hbel8 hk8
        have hg := heap_alloc_new w9 (.cells #[.int .i64 0, .slice none 0 0, .int .i64 0, .int .i64 0, .string ⟨#[]⟩, .bool false] 31)
        obtain ⟨hp1, hp2, hp3⟩ := put_new w9 #[.int .i64 0, .slice none 0 0, .int .i64 0, .int .i64 0, .string ⟨#[]⟩, .bool false] #[.int .i64 3, .slice none 0 0, .int .i64 0, .int .i64 0, .string ⟨#[]⟩, .bool true] 31
        have hbel10 := below_then hbel9 hbel9.size hp1
        have hE10 := hE9.below hp1
        have hk10 := (hp1.block _ (Array.getElem?_eq_some_iff.1 hk9).1).trans hk9
        clear hE9 hbel9 hp1 hp3 hk9
        have hcA := Lib.cell_of_heap hk10 3
        have hcB := Lib.cell_of_heap hp2 5
        simp at hcA hcB
        have hS0 := heldL (w := w) ((Below.refl _ _).drew) ⟨hcA, hcB, hE10, hbel10⟩
        clear hcA hcB hE10 hbel10 hk10 hp2 hL hS
        go_wp2_with (refine wpList_store_row rfl 31 (.tmp 9) (.tmp 49) rfl (w9.heap.size) #[.int .i64 3, .slice none 0 0, .int .i64 0, .int .i64 0, .string ⟨#[]⟩, .bool true] rfl rfl 31 _ hg (by kernel_rfl) rfl (by simp [Value.oneCell']) ?_)
        have hx := HX.out
        have hq := HQ.out
        clear HX HQ
        subst hx
        subst hq
        have hcat : ¬ 9223372036854775807 < s.size + u.size := by omega
        have hm1 : IntKind.i64.wrap ((A : Int) + (B : Int)) = (A : Int) + (B : Int) := wrap_self _ (by omega) (by omega)
        have hm2 : IntKind.i64.wrap (((A : Int) + (B : Int)) * 1000000) = ((A : Int) + (B : Int)) * 1000000 := wrap_self _ (by omega) (by omega)
        have hAB : (0 : Int) ≤ (A : Int) + (B : Int) ∧ (A : Int) + (B : Int) ≤ 32768 := by omega
        go_region_held3 (fun w' => w'.cell? ⟨w5.heap.size, 3, none⟩ = some (.int .i64 (((A : Int) + (B : Int)) * 1000000)) ∧ w'.cell? ⟨w9.heap.size, 5, none⟩ = some (.bool true) ∧ Env w' ∧ Below w.heap.size w w')
          (first | exact hS0 | exact heldL ‹_› ‹_›)
          (first
            | (go_at_call 11; refine Calls.mono (live_any _ (‹_ ∧ _ ∧ Env _ ∧ _›).2.2.1) ?_; rintro e w11 ⟨rfl, hb11⟩)
            | (go_at_call_of 16 (Value.string s); refine Calls.mono (hC1 _) ?_; rintro e w12 ⟨rfl, hb12⟩)
            | (go_at_call_of 16 (Value.string u); refine Calls.mono (hC2 _) ?_; rintro e w13 ⟨rfl, hb13⟩))
        rename_i hLast
        have hB := hLast.2.2.2
        go_wp2_with fail
        go_ret
        exact ⟨rfl, hB⟩
end Go.Proofs.YtaadhehcoegmhaaGreatDoor
