/- Bad and IsText, walked. -/
import Derived.Test.YtaadhehcoegmhaaGreatDoorA26
namespace Go.Proofs.YtaadhehcoegmhaaGreatDoor
open Go Go.RowKit

/-- A place and whether it is no part of a character at all: where the place is below 0 the text is whole. -/
def BadEnd (s : ByteArray) (e : Ending) : Prop := ∃ (i : Int) (c : Bool), e = .returned (.tuple #[.int .i64 i, .bool c]) ∧ -1 ≤ i ∧ i ≤ s.size ∧ (i < 0 → whole s s.size 0)

set_option maxRecDepth 100000 in
set_option maxHeartbeats 2000000 in
theorem bad_some (s : ByteArray) (w : World) (hE : Env w) (hs : s.size ≤ 1000000) : Calls Tryz.prog 35 #[.string s] w fun e w' => BadEnd s e ∧ Below w.heap.size w w' := by
  go_enter Tryz.func35, Tryz.ntmps35
  go_wp2_with fail
  go_loopw [4] (fun v wr => ∃ pos : Nat, v = .int .i64 pos ∧ pos ≤ s.size ∧ Below w.heap.size w wr ∧ (whole s (s.size - pos) pos → whole s s.size 0))
    (fun i _ => s.size - (intOf i).toNat)
  case atStart => exact ⟨0, rfl, by omega, Below.refl _ _, fun h => h⟩
  case round =>
    obtain ⟨pos, rfl, hpos, hbel, hw⟩ := hrel
    have HW := Lib.hid hw
    clear hw
    by_cases hlt : pos < s.size
    · have hdt := decode_tail s pos hlt
      have hd2 := decode_le s pos hlt
      have hd1 := Lib.decode_width_pos s pos hlt
      have hst := whole_step s pos hlt
      obtain ⟨r, n, hrn⟩ : ∃ r n, Utf8.decode s pos = (r, n) := ⟨_, _, rfl⟩
      rw [hrn] at hdt hd2 hd1 hst
      have HST := Lib.hid hst
      have hdec : ∀ w, Env w → Calls Tryz.prog 94 #[.string (s.extract pos s.size)] w fun e w' => e = .returned (.tuple #[.int .i32 r, .int .i64 n]) ∧ Below w.heap.size w w' := by
        intro w hw
        have := Tryz.utf8_DecodeRuneInString (s.extract pos s.size) w hw.tabs
        rw [hdt] at this
        exact this
      clear hdt hst hrn
      have hE2 := hE.below hbel
      have hp1 : (0 : Int) ≤ (pos : Int) := by omega
      have hp2 : (pos : Int) ≤ (s.size : Int) := by omega
      go_wp2_with fail
      refine Calls.mono (hdec _ hE2) ?_
      rintro e w1 ⟨rfl, hb1⟩
      dsimp only
      have hbel1 := below_then hbel hbel.size hb1
      clear hdec hb1 hbel hE2
      have hnn : (pos : Int) + (n : Int) ≤ 1000000 := by omega
      by_cases hbad : r = 65533 ∧ n = 1
      · obtain ⟨rfl, rfl⟩ := hbad
        go_wp2_with fail
        go_ret2
        exact ⟨⟨pos, true, rfl, by omega, by omega, fun h => by omega⟩, hbel1⟩
      · have hnb : ((r, n) : Nat × Nat) ≠ (65533, 1) := fun e => hbad (by simpa using e)
        have HNB := Lib.hid hnb
        clear hnb
        by_cases hr : r = 65533
        · subst hr
          have hn1 : ((n : Int) == 1) = false := by simp; omega
          go_wp2_with fail
          refine Calls.mono (isChar_some _ _) ?_
          rintro e w2 ⟨⟨b, rfl⟩, rfl⟩
          dsimp only
          cases b
          · go_wp2_with fail
            go_ret2
            exact ⟨⟨pos, false, rfl, by omega, by omega, fun h => by omega⟩, hbel1⟩
          · go_wp2_with fail
            go_roundw
            case rel => exact ⟨pos + n, by go_num, by omega, hbel1, fun h => HW.out (HST.out HNB.out h)⟩
            case measure => simp [intOf]; omega
        · have hr1 : ((r : Int) == 65533) = false := by simp; omega
          go_wp2_with fail
          refine Calls.mono (isChar_some _ _) ?_
          rintro e w2 ⟨⟨b, rfl⟩, rfl⟩
          dsimp only
          cases b
          · go_wp2_with fail
            go_ret2
            exact ⟨⟨pos, false, rfl, by omega, by omega, fun h => by omega⟩, hbel1⟩
          · go_wp2_with fail
            go_roundw
            case rel => exact ⟨pos + n, by go_num, by omega, hbel1, fun h => HW.out (HST.out HNB.out h)⟩
            case measure => simp [intOf]; omega
    · obtain rfl : pos = s.size := by omega
      go_wp2_with fail
      go_ret2
      exact ⟨⟨-1, false, rfl, by omega, by omega, fun _ => HW.out (by rw [Nat.sub_self]; trivial)⟩, hbel⟩
end Go.Proofs.YtaadhehcoegmhaaGreatDoor
