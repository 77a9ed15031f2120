/- XvalueUnion, walked. -/
import Derived.Test.YtaadhehcoegmhaaGreatDoorA35
namespace Go.Proofs.YtaadhehcoegmhaaGreatDoor
open Go Go.RowKit

/-- SameInts at two rows of the same numbers. -/
theorem same_of (u v : Value) (xs ys : List Int) (w : World) (hu : IntSlice w u xs) (hv : IntSlice w v ys) (h : xs = ys) (hl : xs.length ≤ 9223372036854775807) :
    Calls Tryz.prog 18 #[u, v] w fun e w' => e = .returned (.bool true) ∧ Below w.heap.size w w' := by
  obtain ⟨A, ca, rfl, ha⟩ := hu.at
  obtain ⟨C, cb, rfl, hc⟩ := hv.at
  refine (same_any A C ca cb xs ys w ha hc hl).mono ?_
  rintro e w' ⟨rfl, hb⟩
  exact ⟨by rw [decide_eq_true h], hb⟩

theorem ref_of (u v : Value) (xs ys : List Int) (w : World) (hu : ArgInts w u xs) (hv : ArgInts w v ys) (hlx : xs.length ≤ 400000000) (hly : ys.length ≤ 400000000) :
    Calls Tryz.prog 19 #[u, v] w fun e w' => ∃ r, e = .returned r ∧ IntSlice w' r (uni xs ys) ∧ Below w.heap.size w w' := by
  obtain ⟨A, ca, rfl, ha⟩ := hu.at
  obtain ⟨C, cb, rfl, hc⟩ := hv.at
  refine (refUnion_any A C ca cb xs ys w ha hc hlx hly).mono ?_
  rintro e w' ⟨r, rfl, h1, h2⟩
  exact ⟨r, rfl, by rw [uni_ref]; exact h1, h2⟩

set_option maxRecDepth 100000 in
set_option maxHeartbeats 2000000 in
theorem xvalueUnion_walk (va vb vc : Value) (xs ys zs : List Int) (w : World) (hE : Env w) (ha : ArgInts w va xs) (hb : ArgInts w vb ys) (hc : ArgInts w vc zs)
    (hla : xs.length ≤ 2000000) (hlb : ys.length ≤ 2000000) (hlc : zs.length ≤ 2000000) :
    Calls Tryz.prog 7 #[va, vb, vc] w fun e w' => e = .returned (.bool true) ∧ Below w.heap.size w w' := by
  have hl := uni_length xs ys
  have hl2 := uni_length ys zs
  have HA := Lib.hid ha
  have HB := Lib.hid hb
  have HCc := Lib.hid hc
  have HE := Lib.hid hE
  clear ha hb hc hE
  go_enter Tryz.func7, Tryz.ntmps7
  go_wp2_with fail
  refine Calls.mono (union_any va vb xs ys w HA.out HB.out (by omega) (by omega)) ?_
  rintro e w1 ⟨u, rfl, hu, hb1⟩
  dsimp only
  have HU := Lib.hid hu
  clear hu
  go_wp2_with fail
  refine Calls.mono (ref_of va vb xs ys w1 (HA.out.below hb1) (HB.out.below hb1) (by omega) (by omega)) ?_
  rintro e w2 ⟨r2, rfl, hr2, hb2⟩
  dsimp only
  have H2 := Lib.hid hr2
  have hbb2 := below_then hb1 hb1.size hb2
  have HU2 := Lib.hid (HU.out.below hb2)
  clear hr2 hb2
  go_wp2_with fail
  refine Calls.mono (same_of u r2 _ _ w2 HU2.out H2.out rfl (by omega)) ?_
  rintro e w3 ⟨rfl, hb3⟩
  dsimp only
  have hbb3 := below_then hbb2 hbb2.size hb3
  have HU3 := Lib.hid (HU2.out.below hb3)
  clear hb3 H2 HU2 hbb2
  go_wp2_with fail
  refine Calls.mono (union_any vb va ys xs w3 (HB.out.below hbb3) (HA.out.below hbb3) (by omega) (by omega)) ?_
  rintro e w4 ⟨r4, rfl, hr4, hb4⟩
  dsimp only
  have H4 := Lib.hid hr4
  have hbb4 := below_then hbb3 hbb3.size hb4
  have HU4 := Lib.hid (HU3.out.below hb4)
  clear hr4 hb4 HU3 hbb3
  go_wp2_with fail
  refine Calls.mono (same_of u r4 _ _ w4 HU4.out H4.out (uni_comm xs ys) (by omega)) ?_
  rintro e w5 ⟨rfl, hb5⟩
  dsimp only
  have hbb5 := below_then hbb4 hbb4.size hb5
  have HU5 := Lib.hid (HU4.out.below hb5)
  clear hb5 H4 HU4 hbb4
  go_wp2_with fail
  refine Calls.mono (union_any u u _ _ w5 (.inl HU5.out) (.inl HU5.out) (by omega) (by omega)) ?_
  rintro e w6 ⟨r6, rfl, hr6, hb6⟩
  dsimp only
  have H6 := Lib.hid hr6
  have hbb6 := below_then hbb5 hbb5.size hb6
  have HU6 := Lib.hid (HU5.out.below hb6)
  clear hr6 hb6 HU5 hbb5
  go_wp2_with fail
  refine Calls.mono (same_of r6 u _ _ w6 H6.out HU6.out (uni_self xs ys) (by rw [uni_self]; omega)) ?_
  rintro e w7 ⟨rfl, hb7⟩
  dsimp only
  have hbb7 := below_then hbb6 hbb6.size hb7
  have HU7 := Lib.hid (HU6.out.below hb7)
  clear hb7 H6 HU6 hbb6 HU hb1
  obtain ⟨A, ca, rfl, hA⟩ := HU7.out.at
  have HI := Lib.hid hA
  clear hA
  go_wp2_with fail
  go_loopw [8] (fun v wr => ∃ k : Nat, v = .int .i64 k ∧ 1 ≤ k ∧ Below w7.heap.size w7 wr)
    (fun i _ => (uni xs ys).length - (intOf i).toNat)
  case atStart => exact ⟨1, rfl, Nat.le_refl _, Below.refl _ _⟩
  case round =>
    obtain ⟨k, rfl, hk1, hbel⟩ := hrel
    by_cases hlt : k < (uni xs ys).length
    · obtain ⟨i, hi⟩ : ∃ i : Nat, i + 1 = k := ⟨k - 1, by omega⟩
      obtain ⟨x, hx⟩ : ∃ x, (uni xs ys)[k]? = some x := ⟨(uni xs ys)[k], by simp [hlt]⟩
      obtain ⟨y, hy⟩ : ∃ y, (uni xs ys)[i]? = some y := ⟨(uni xs ys)[i]'(by omega), by rw [List.getElem?_eq_getElem (by omega)]⟩
      obtain ⟨a, rfl, ha, hca⟩ := (HI.out.below hbel) k x hx
      obtain ⟨a', e', hb', hcb⟩ := (HI.out.below hbel) i y hy
      cases e'
      have hxy : y < x := by
        have := uni_step xs ys (i := i) (by omega)
        rw [hi] at this
        simpa [List.getD, hx, hy] using this
      have hki : (k : Int) - 1 = (i : Int) := by omega
      have hi2 : (i : Int) < ((uni xs ys).length : Int) := by omega
      have hk2 : (k : Int) < ((uni xs ys).length : Int) := by omega
      clear hi
      have hxl : ¬ x ≤ y := by omega
      clear hx hy hxy
      go_wp2_with fail
      go_quiet (fail)
      go_wp2_with fail
      go_roundw
      case rel => exact ⟨k + 1, by go_num, by omega, hbel.trans ⟨rfl, rfl, rfl, Nat.le_refl _, fun _ _ => rfl⟩⟩
      case measure => simp [intOf]; omega
    · rename_i wr
      have hbb8 := below_then hbb7 hbb7.size hbel
      have HU8 := Lib.hid (HU7.out.below hbel)
      have hge : ¬ ((k : Int) < ((uni xs ys).length : Int)) := by omega
      clear hbel HU7 HI hbb7
      go_wp2_with fail
      refine Calls.mono (live_any _ (HE.out.below hbb8)) ?_
      rintro e w9 ⟨rfl, hb9⟩
      dsimp only
      have hbb9 := below_then hbb8 hbb8.size hb9
      have HU9 := Lib.hid (HU8.out.below hb9)
      clear hb9 hbb8 HU8
      go_wp2_with fail
      refine Calls.mono (union_any _ vc _ zs w9 (.inl HU9.out) (HCc.out.below hbb9) (by omega) (by omega)) ?_
      rintro e w10 ⟨r10, rfl, hr10, hb10⟩
      dsimp only
      have H10 := Lib.hid hr10
      have hbb10 := below_then hbb9 hbb9.size hb10
      clear hr10 hb10 HU9 hbb9
      go_wp2_with fail
      refine Calls.mono (union_any vb vc ys zs w10 (HB.out.below hbb10) (HCc.out.below hbb10) (by omega) (by omega)) ?_
      rintro e w11 ⟨r11, rfl, hr11, hb11⟩
      dsimp only
      have H11 := Lib.hid hr11
      have H10' := Lib.hid (H10.out.below hb11)
      have hbb11 := below_then hbb10 hbb10.size hb11
      clear hr11 hb11 hbb10 H10
      go_wp2_with fail
      refine Calls.mono (union_any va r11 xs _ w11 (HA.out.below hbb11) (.inl H11.out) (by omega) (by omega)) ?_
      rintro e w12 ⟨r12, rfl, hr12, hb12⟩
      dsimp only
      have H12 := Lib.hid hr12
      have H10'' := Lib.hid (H10'.out.below hb12)
      have hbb12 := below_then hbb11 hbb11.size hb12
      have hl3 := uni_length (uni xs ys) zs
      clear hr12 hb12 hbb11 H10'
      go_wp2_with fail
      refine Calls.mono (same_of r10 r12 _ _ w12 H10''.out H12.out (uni_assoc xs ys zs) (by omega)) ?_
      rintro e w13 ⟨rfl, hb13⟩
      dsimp only
      have hbb13 := below_then hbb12 hbb12.size hb13
      clear hb13
      go_wp2_with fail
      go_ret
      exact ⟨rfl, hbb13⟩
end Go.Proofs.YtaadhehcoegmhaaGreatDoor
