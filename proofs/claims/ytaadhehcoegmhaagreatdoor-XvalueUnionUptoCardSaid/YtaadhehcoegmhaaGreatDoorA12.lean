/- The characters of a text of ASCII. -/
import Derived.Test.YtaadhehcoegmhaaGreatDoorA11
import Derived.Deep.AppendLies
import Derived.Deep.RegionHeld3
namespace Go.Proofs.YtaadhehcoegmhaaGreatDoor
open Go Go.RowKit

/-- Each byte as a text. -/
def singles (l : List UInt8) : List Value := l.map fun c => .string ⟨#[c]⟩

theorem below_grown {B : Nat} {w w0 w' : World} {row : Option Nat} (h : Below B w w0) (hB : B ≤ w0.heap.size) (hr : ∀ k, row = some k → B ≤ k) (hg : w0.grownBy w' row) : Below B w w' :=
  ⟨hg.os.trans h.os, hg.tape.trans h.tape, hg.output.trans h.output, Nat.le_trans h.size hg.size, fun i hi => (hg.block i (by omega) (fun e => by have := hr i e.symm; omega)).trans (h.block i hi)⟩

theorem info9 : (Tryz.prog.info? 9).map (fun i => (i.zero, i.size, i.bytes)) = some (some (.string ⟨#[]⟩), 1, 16) := by kernel_rfl

set_option maxRecDepth 100000 in
set_option maxHeartbeats 1000000 in
theorem chars_any (l : List UInt8) (hl : ∀ c ∈ l, c < 128) (hn : l.length ≤ 100000) (w : World) :
    Calls Tryz.prog 133 #[.string ⟨l.toArray⟩] w fun e w' => ∃ v, e = .returned v ∧ w'.ownsRow w.heap.size 9 1 v l.length (singles l) ∧ Below w.heap.size w w' := by
  obtain ⟨i0, hi, hz0, hz1, hz2⟩ := info_parts info9
  go_enter Tryz.func133, Tryz.ntmps133
  go_wp2
  go_loopw [0, 3] (fun s v wr => ∃ k : Nat, k ≤ l.length ∧ s = .string ⟨(l.drop k).toArray⟩ ∧ wr.ownsRow w.heap.size 9 1 v k (singles (l.take k)) ∧ Below w.heap.size w wr)
    (fun s _ _ => match s with | .string b => b.size | _ => 0)
  case atStart => exact ⟨0, by omega, rfl, ⟨by simp [singles], .inl ⟨rfl, rfl⟩⟩, Below.refl _ _⟩
  case round =>
    obtain ⟨k, hk, rfl, hown, hbel⟩ := hrel
    by_cases hlt : k < l.length
    · obtain ⟨c, rest, hd⟩ : ∃ c rest, l.drop k = c :: rest := by
        cases h : l.drop k with
        | nil => have := List.drop_eq_nil_iff.1 h; omega
        | cons c rest => exact ⟨c, rest, rfl⟩
      have hlen : rest.length + 1 = l.length - k := by have := congrArg List.length hd; simp at this; omega
      have hd1 : l.drop (k + 1) = rest := by rw [← List.drop_drop, hd]; rfl
      have ht1 : l.take (k + 1) = l.take k ++ [c] := by
        rw [List.take_succ_eq_append_getElem hlt]
        have : l[k] = c := by have := congrArg (fun x => x[0]?) hd; simpa [hlt] using this
        rw [this]
      have hc128 : c.toNat < 128 := by
        have hm : c ∈ l := List.mem_of_mem_drop (i := k) (by rw [hd]; exact List.mem_cons_self)
        have := hl c hm
        simpa [UInt8.lt_iff_toNat_lt] using this
      rw [hd]
      have Hd := Lib.hid hd
      have Hd1 := Lib.hid hd1
      have Ht1 := Lib.hid ht1
      clear hd hd1 ht1 hl
      go_wp2_with fail
      refine Calls.mono (Tryz.utf8_DecodeRuneInString_ascii _ c _ rfl hc128) ?_
      rintro e w1 ⟨rfl, rfl⟩
      dsimp only
      go_wp2_with fail
      have hsz := hbel.size
      have hi1 : (1 : Int) ≤ ((l.length - k : Nat) : Int) := by omega
      have ex0 : (⟨(c :: rest).toArray⟩ : ByteArray).extract 0 1 = ⟨#[c]⟩ := by
        apply ByteArray.ext; simp
      have ex1 : (⟨(c :: rest).toArray⟩ : ByteArray).extract 1 (l.length - k) = ⟨rest.toArray⟩ := by
        apply ByteArray.ext; simp [← hlen]
      have E0 := Lib.hid ex0
      have E1 := Lib.hid ex1
      clear ex0 ex1
      go_region_held3 (fun w' => True)
        (trivial)
        ((refine step_append_lies _ (by rfl) _ _ _ (by rfl) w.heap.size 9 i0 _ 1 16 Tryz.underlying56 hi hz0 hz1 hz2 rfl (by omega) _ k (singles (l.take k)) (by rfl) ((hown.alloc _).drew)
            ⟨w1.heap.size, 0, none⟩ 1 1 [.string ⟨#[c]⟩] (by rfl) (by rfl) (World.news_of_block (cs := #[.string ⟨#[c]⟩]) (t := 9) (fr := (0, 0)) ((heap_alloc_new w1 _).trans (by rw [E0.out]))) (by simp [Value.oneCell'])
            (by have := hbel.size; omega) (by simp [maxLen]; omega) (by omega) (by simp; omega) (w1.heap.size + 1) (by simp) ?_; intro gg cap w2 hown1 hgrow hat hlt))
      all_goals
        rw [E1.out]
        go_wp2_with fail
        go_roundw
        case rel =>
          refine ⟨k + 1, by omega, by rw [Hd1.out], by rw [Ht1.out]; simpa [singles] using hown1, ?_⟩
          exact below_grown (((hbel.alloc (by omega) _)).drew) (by simp; omega) (fun k hk => (hown.lt k hk).1) hgrow
        case measure => simp [ByteArray.size]
    · have hd : l.drop k = [] := List.drop_eq_nil_iff.2 (by omega)
      obtain rfl : k = l.length := by omega
      rw [hd]
      rw [List.take_length] at hown
      clear hd
      go_wp2_with fail
      go_ret
      exact ⟨_, rfl, hown, hbel⟩
end Go.Proofs.YtaadhehcoegmhaaGreatDoor
