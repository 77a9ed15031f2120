/- Slices of numbers, and whether two are the same. -/
import Derived.Test.YtaadhehcoegmhaaGreatDoorA18
namespace Go.Proofs.YtaadhehcoegmhaaGreatDoor
open Go Go.RowKit

/-- The value reads as these numbers. -/
def IntsAt (w : World) (A : Option Addr) (zs : List Int) : Prop := ∀ i z, zs[i]? = some z → ∃ a, A = some a ∧ (a.add i).block < w.heap.size ∧ w.cell? (a.add i) = some (.int .i64 z)
theorem IntsAt.below {w w' : World} {A : Option Addr} {zs : List Int} (h : IntsAt w A zs) (hb : Below w.heap.size w w') : IntsAt w' A zs := fun i x hx => by
  obtain ⟨a, h1, h2, h3⟩ := h i x hx
  exact ⟨a, h1, Nat.lt_of_lt_of_le h2 hb.size, (hb.cell h2).trans h3⟩

theorem take_same {xs ys : List Int} {i : Nat} {x : Int} (h : xs.take i = ys.take i) (hx : xs[i]? = some x) (hy : ys[i]? = some x) : xs.take (i + 1) = ys.take (i + 1) := by
  have h1 : i < xs.length := (List.getElem?_eq_some_iff.1 hx).1
  have h2 : i < ys.length := (List.getElem?_eq_some_iff.1 hy).1
  rw [List.take_succ_eq_append_getElem h1, List.take_succ_eq_append_getElem h2, h, (List.getElem?_eq_some_iff.1 hx).2, (List.getElem?_eq_some_iff.1 hy).2]

set_option maxRecDepth 100000 in
set_option maxHeartbeats 1000000 in
theorem same_any (A B : Option Addr) (ca cb : Nat) (xs ys : List Int) (w : World) (hx : IntsAt w A xs) (hy : IntsAt w B ys) (hl : xs.length ≤ 9223372036854775807) :
    Calls Tryz.prog 18 #[.slice A xs.length ca, .slice B ys.length cb] w fun e w' => e = .returned (.bool (decide (xs = ys))) ∧ Below w.heap.size w w' := by
  have HX := Lib.hid hx
  have HY := Lib.hid hy
  clear hx hy
  by_cases hlen : xs.length = ys.length
  · go_enter Tryz.func18, Tryz.ntmps18
    go_wp2_with fail
    go_loopw [5] (fun v wr => ∃ i : Nat, v = .int .i64 i ∧ i ≤ xs.length ∧ xs.take i = ys.take i ∧ Below w.heap.size w wr)
      (fun i _ => xs.length - (intOf i).toNat)
    case atStart => exact ⟨0, rfl, by omega, rfl, Below.refl _ _⟩
    case round =>
      obtain ⟨i, rfl, hi, heq, hbel⟩ := hrel
      have HEQ := Lib.hid heq
      clear heq
      by_cases hlt : i < xs.length
      · obtain ⟨x, hxx⟩ : ∃ x, xs[i]? = some x := ⟨xs[i], by simp [hlt]⟩
        obtain ⟨y, hyy⟩ : ∃ y, ys[i]? = some y := ⟨ys[i]'(by omega), by simp⟩
        obtain ⟨a, rfl, ha, hca⟩ := (HX.out.below hbel) i x hxx
        obtain ⟨b, rfl, hb, hcb⟩ := (HY.out.below hbel) i y hyy
        have HXX := Lib.hid hxx
        have HYY := Lib.hid hyy
        clear hxx hyy
        have hi2 : (i : Int) < (ys.length : Int) := by omega
        by_cases hne : x = y
        · subst hne
          go_wp2_with fail
          go_quiet (fail)
          go_wp2_with fail
          go_roundw
          case rel => exact ⟨i + 1, by go_num, by omega, take_same HEQ.out HXX.out HYY.out, hbel.trans ⟨rfl, rfl, rfl, Nat.le_refl _, fun _ _ => rfl⟩⟩
          case measure => simp [intOf]; omega
        · have hnq : (x == y) = false := by simp [hne]
          have hnz : xs ≠ ys := fun e => hne (by have h1 := HXX.out; have h2 := HYY.out; rw [e] at h1; rw [h1] at h2; exact Option.some.inj h2)
          have HNZ := Lib.hid hnz
          clear hnz
          go_wp2_with fail
          go_quiet (fail)
          go_wp2_with fail
          go_ret
          exact ⟨by rw [decide_eq_false HNZ.out]; rfl, hbel.trans ⟨rfl, rfl, rfl, Nat.le_refl _, fun _ _ => rfl⟩⟩
      · obtain rfl : i = xs.length := by omega
        have heq : xs = ys := by have h := HEQ.out; rw [List.take_length] at h; rw [h, hlen, List.take_length]
        have HE := Lib.hid heq
        clear heq
        go_wp2_with fail
        go_ret
        exact ⟨by rw [decide_eq_true HE.out]; rfl, hbel⟩
  · have hnz : xs ≠ ys := fun e => hlen (by rw [e])
    have HNZ := Lib.hid hnz
    have hlI : ((xs.length : Int) == (ys.length : Int)) = false := by simp; omega
    clear hnz
    go_enter Tryz.func18, Tryz.ntmps18
    go_wp2_with fail
    go_ret
    exact ⟨by rw [decide_eq_false HNZ.out]; rfl, Below.refl _ _⟩
end Go.Proofs.YtaadhehcoegmhaaGreatDoor
