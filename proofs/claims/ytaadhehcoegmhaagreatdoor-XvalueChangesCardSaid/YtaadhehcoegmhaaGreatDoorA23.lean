/- The plain law of characters that are changed there and back, and translate as text hands it on. -/
import Derived.Test.YtaadhehcoegmhaaGreatDoorA18
namespace Go.Proofs.YtaadhehcoegmhaaGreatDoor
open Go Go.RowKit

/-- Two letters. -/
def letter (x y : UInt8) (b : Bool) : UInt8 := if b then x else y
def word (x y : UInt8) (l : List Bool) : List UInt8 := l.map (letter x y)

theorem trc_ax : trc [97, 98] [120, 121] 97 = [120] := by decide
theorem trc_bx : trc [97, 98] [120, 121] 98 = [121] := by decide
theorem trc_xa : trc [120, 121] [97, 98] 120 = [97] := by decide
theorem trc_ya : trc [120, 121] [97, 98] 121 = [98] := by decide
theorem trc_aa : trc [97, 98] [97] 97 = [97] := by decide
theorem trc_ba : trc [97, 98] [97] 98 = [] := by decide

theorem word_there (l : List Bool) : (word 97 98 l).flatMap (trc [97, 98] [120, 121]) = word 120 121 l := by
  induction l with
  | nil => rfl
  | cons b r ih =>
    have h : (word 97 98 (b :: r)).flatMap (trc [97, 98] [120, 121]) = trc [97, 98] [120, 121] (letter 97 98 b) ++ (word 97 98 r).flatMap (trc [97, 98] [120, 121]) := rfl
    rw [h, ih]
    cases b
    · show trc [97, 98] [120, 121] 98 ++ _ = _
      rw [trc_bx]; rfl
    · show trc [97, 98] [120, 121] 97 ++ _ = _
      rw [trc_ax]; rfl

theorem word_back (l : List Bool) : (word 120 121 l).flatMap (trc [120, 121] [97, 98]) = word 97 98 l := by
  induction l with
  | nil => rfl
  | cons b r ih =>
    have h : (word 120 121 (b :: r)).flatMap (trc [120, 121] [97, 98]) = trc [120, 121] [97, 98] (letter 120 121 b) ++ (word 120 121 r).flatMap (trc [120, 121] [97, 98]) := rfl
    rw [h, ih]
    cases b
    · show trc [120, 121] [97, 98] 121 ++ _ = _
      rw [trc_ya]; rfl
    · show trc [120, 121] [97, 98] 120 ++ _ = _
      rw [trc_xa]; rfl

theorem word_gone (l : List Bool) : (word 97 98 l).flatMap (trc [97, 98] [97]) = List.replicate (l.count true) 97 := by
  induction l with
  | nil => rfl
  | cons b r ih =>
    have h : (word 97 98 (b :: r)).flatMap (trc [97, 98] [97]) = trc [97, 98] [97] (letter 97 98 b) ++ (word 97 98 r).flatMap (trc [97, 98] [97]) := rfl
    rw [h, ih]
    cases b
    · show trc [97, 98] [97] 98 ++ _ = _
      rw [trc_ba, List.count_cons_of_ne (by decide)]; rfl
    · show trc [97, 98] [97] 97 ++ _ = _
      rw [trc_aa, List.count_cons_self]; rfl

theorem word_ascii (x y : UInt8) (hx : x < 128) (hy : y < 128) (l : List Bool) (hl : l.length ≤ 2000) : ascii (word x y l) := by
  refine ⟨fun c hc => ?_, by simp [word]; omega⟩
  obtain ⟨b, _, rfl⟩ := List.mem_map.1 hc
  cases b
  · exact hy
  · exact hx

theorem word_take (x y : UInt8) (l : List Bool) (k : Nat) (b : Bool) (h : l[k]? = some b) : word x y (l.take (k + 1)) = word x y (l.take k) ++ [letter x y b] := by
  have hlt : k < l.length := (List.getElem?_eq_some_iff.1 h).1
  have hb : l[k] = b := (List.getElem?_eq_some_iff.1 h).2
  rw [List.take_succ_eq_append_getElem hlt, hb]
  simp [word]

theorem add_one (l : List UInt8) (c : UInt8) : (⟨l.toArray⟩ : ByteArray) ++ ⟨#[c]⟩ = ⟨(l ++ [c]).toArray⟩ := by
  apply ByteArray.ext
  simp

/-- A slice of three texts that the call has just made. -/
theorem texts3 (w : World) (s u v : ByteArray) : TextsAt (w.alloc (.cells #[.string s, .string u, .string v] 9)) w.heap.size [s, u, v] := by
  intro i x hx
  rw [Lib.cell_of_heap (heap_alloc_new w _)]
  match i, hx with
  | 0, hx => simp at hx; subst hx; rfl
  | 1, hx => simp at hx; subst hx; rfl
  | 2, hx => simp at hx; subst hx; rfl
  | i + 3, hx => simp at hx

theorem text_translate (s fr tt : List UInt8) (w : World) (hE : Env w) (hs : ascii s) (hf : ascii fr) (ht : ascii tt) (hle : s.length ≤ 32768) :
    Calls Tryz.prog 12 #[.string ⟨#[116, 114, 97, 110, 115, 108, 97, 116, 101]⟩, .slice (some ⟨w.heap.size, 0, none⟩) 3 3] (w.alloc (.cells #[.string ⟨s.toArray⟩, .string ⟨fr.toArray⟩, .string ⟨tt.toArray⟩] 9)) fun e w' => e = .returned (.tuple #[.string ⟨(s.flatMap (trc fr tt)).toArray⟩, .bool true]) ∧ Below w.heap.size w w' := by
  refine Calls.mono (text_any7 _ _ [⟨s.toArray⟩, ⟨fr.toArray⟩, ⟨tt.toArray⟩] w.heap.size 3 _ (by simp) (by simp) (texts3 w _ _ _) (by simp) (hE.below ((Below.refl _ _).alloc (Nat.le_refl _) _)) fun A cap w' h => call_translate A cap s fr tt w' h hs hf ht hle) ?_
  rintro e w' ⟨rfl, hb⟩
  exact ⟨rfl, below_then ((Below.refl _ _).alloc (Nat.le_refl _) _) (by simp) hb⟩
end Go.Proofs.YtaadhehcoegmhaaGreatDoor
