/- The document's Union, walked. -/
import Derived.Test.YtaadhehcoegmhaaGreatDoorA32
namespace Go.Proofs.YtaadhehcoegmhaaGreatDoor
open Go Go.RowKit

set_option maxRecDepth 100000 in
set_option maxHeartbeats 1000000 in
theorem refUnion_any (A C : Option Addr) (ca cb : Nat) (xs ys : List Int) (w : World) (hx : IntsAt w A xs) (hy : IntsAt w C ys) (hlx : xs.length ≤ 400000000) (hly : ys.length ≤ 400000000) :
    Calls Tryz.prog 19 #[.slice A xs.length ca, .slice C ys.length cb] w fun e w' => ∃ v, e = .returned v ∧ IntSlice w' v (insAll (insAll [] xs) ys) ∧ Below w.heap.size w w' := by
  have HX := Lib.hid hx
  have HY := Lib.hid hy
  clear hx hy
  go_enter Tryz.func19, Tryz.ntmps19
  go_wp2_with fail
  go_loopw [5, 6] (fun v iv wr => ∃ i : Nat, iv = .int .i64 i ∧ i ≤ xs.length ∧ IntSlice wr v (insAll [] (xs.take i)) ∧ Below w.heap.size w wr)
    (fun _ i _ => xs.length - (intOf i).toNat)
  case atStart => exact ⟨0, rfl, by omega, .inl ⟨rfl, rfl⟩, Below.refl _ _⟩
  case round =>
    obtain ⟨i, rfl, hi, hv, hbel⟩ := hrel
    by_cases hlt : i < xs.length
    · obtain ⟨x, hxx⟩ : ∃ x, xs[i]? = some x := ⟨xs[i], by simp [hlt]⟩
      obtain ⟨a, rfl, ha, hca⟩ := (HX.out.below hbel) i x hxx
      have htk : xs.take (i + 1) = xs.take i ++ [x] := by
        rw [List.take_succ_eq_append_getElem hlt, (List.getElem?_eq_some_iff.1 hxx).2]
      have HT := Lib.hid htk
      have HV := Lib.hid hv
      clear hxx htk hv
      go_wp2_with fail
      refine Calls.mono (add_any _ _ _ _ (Nat.le_trans (insAll_length _ _) (by simp; omega)) HV.out) ?_
      rintro e w1 ⟨v1, rfl, hv1, hb1⟩
      dsimp only
      go_wp2_with fail
      go_roundw
      case rel => exact ⟨i + 1, by go_num, by omega, by rw [HT.out, insAll_snoc]; exact hv1, below_then hbel hbel.size hb1⟩
      case measure => simp [intOf]; omega
    · obtain rfl : i = xs.length := by omega
      rw [List.take_length] at hv
      have HV := Lib.hid hv
      clear hv
      rename_i wm
      go_wp2_with fail
      go_loopw [5, 7] (fun v iv wr => ∃ i : Nat, iv = .int .i64 i ∧ i ≤ ys.length ∧ IntSlice wr v (insAll (insAll [] xs) (ys.take i)) ∧ Below w.heap.size w wr)
        (fun _ i _ => ys.length - (intOf i).toNat)
      case atStart => exact ⟨0, rfl, by omega, HV.out, hbel⟩
      case round =>
        clear hlt HV
        obtain ⟨i, rfl, hi, hv, hbel⟩ := hrel
        by_cases hlt : i < ys.length
        · obtain ⟨x, hxx⟩ : ∃ x, ys[i]? = some x := ⟨ys[i], by simp [hlt]⟩
          obtain ⟨a, rfl, ha, hca⟩ := (HY.out.below hbel) i x hxx
          have htk : ys.take (i + 1) = ys.take i ++ [x] := by
            rw [List.take_succ_eq_append_getElem hlt, (List.getElem?_eq_some_iff.1 hxx).2]
          have HT := Lib.hid htk
          have HV := Lib.hid hv
          clear hxx htk hv
          have hl2 := insAll_length (ys.take i) (insAll [] xs)
          have hl1 := insAll_length xs []
          simp only [List.length_take, List.length_nil] at hl1 hl2
          go_wp2_with fail
          refine Calls.mono (add_any _ _ _ _ (by omega) HV.out) ?_
          rintro e w1 ⟨v1, rfl, hv1, hb1⟩
          dsimp only
          go_wp2_with fail
          go_roundw
          case rel => exact ⟨i + 1, by go_num, by omega, by rw [HT.out, insAll_snoc]; exact hv1, below_then hbel hbel.size hb1⟩
          case measure => simp [intOf]; omega
        · obtain rfl : i = ys.length := by omega
          rw [List.take_length] at hv
          have HV := Lib.hid hv
          clear hv
          go_wp2_with fail
          go_ret
          exact ⟨_, rfl, HV.out, hbel⟩
end Go.Proofs.YtaadhehcoegmhaaGreatDoor
