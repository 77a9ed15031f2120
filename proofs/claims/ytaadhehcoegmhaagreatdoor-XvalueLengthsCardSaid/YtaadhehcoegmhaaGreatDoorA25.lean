/- Texts of characters: a joined text has as many runes as both. -/
import Derived.Test.YtaadhehcoegmhaaGreatDoorA18
import Derived.Lib.RuneCount
import Derived.Lib.DecodeN
namespace Go.Proofs.YtaadhehcoegmhaaGreatDoor
open Go Go.RowKit

theorem decodeN_stable (n n' b0 b1 b2 b3 c1 c2 c3 : Nat) (hn : n ≤ n') (h1 : 1 < n → c1 = b1) (h2 : 2 < n → c2 = b2) (h3 : 3 < n → c3 = b3) (hv : Lib.decodeN n b0 b1 b2 b3 ≠ (65533, 1)) :
    Lib.decodeN n' b0 c1 c2 c3 = Lib.decodeN n b0 b1 b2 b3 := by
  unfold Lib.decodeN at hv ⊢
  by_cases a0 : b0 < 128
  · rw [if_pos a0, if_pos a0]
  · rw [if_neg a0] at hv
    rw [if_neg a0, if_neg a0]
    by_cases a1 : b0 / 32 = 6 ∧ (1 < n ∧ b1 / 64 = 2)
    · have e1 := h1 a1.2.1
      subst e1
      rw [if_pos a1, if_pos ⟨a1.1, by omega, a1.2.2⟩]
    · rw [if_neg a1] at hv
      rw [if_neg a1]
      by_cases a2 : b0 / 16 = 14 ∧ (1 < n ∧ b1 / 64 = 2) ∧ (2 < n ∧ b2 / 64 = 2)
      · have e1 := h1 a2.2.1.1
        have e2 := h2 a2.2.2.1
        subst e1; subst e2
        rw [if_pos a2, if_neg (by omega), if_pos ⟨a2.1, ⟨by omega, a2.2.1.2⟩, by omega, a2.2.2.2⟩]
      · rw [if_neg a2] at hv
        rw [if_neg a2]
        by_cases a3 : b0 / 8 = 30 ∧ (1 < n ∧ b1 / 64 = 2) ∧ (2 < n ∧ b2 / 64 = 2) ∧ (3 < n ∧ b3 / 64 = 2)
        · have e1 := h1 a3.2.1.1
          have e2 := h2 a3.2.2.1.1
          have e3 := h3 a3.2.2.2.1
          subst e1; subst e2; subst e3
          rw [if_pos a3, if_neg (by omega), if_neg (by omega), if_pos ⟨a3.1, ⟨by omega, a3.2.1.2⟩, ⟨by omega, a3.2.2.1.2⟩, by omega, a3.2.2.2.2⟩]
        · rw [if_neg a3] at hv
          exact absurd rfl hv

theorem decodeN_le (n b0 b1 b2 b3 : Nat) (hn : 1 ≤ n) : (Lib.decodeN n b0 b1 b2 b3).2 ≤ n := by
  unfold Lib.decodeN
  repeat' split
  all_goals simp only
  all_goals omega

/-- Is it a text of whole runes, from a place on? -/
def whole (s : ByteArray) : Nat → Nat → Prop
  | 0, _ => True
  | f + 1, pos => pos < s.size → Utf8.decode s pos ≠ (65533, 1) ∧ whole s f (pos + (Utf8.decode s pos).2)

theorem get_append (s u : ByteArray) (i : Nat) (h : i < s.size) : (s ++ u).get! i = s.get! i := by
  have h1 : i < s.data.size := h
  show (s ++ u).data[i]! = s.data[i]!
  simp [ByteArray.data_append, getElem!_def, Array.getElem?_append_left h1]

theorem get_append_right (s u : ByteArray) (i : Nat) : (s ++ u).get! (s.size + i) = u.get! i := by
  show (s ++ u).data[s.data.size + i]! = u.data[i]!
  simp [ByteArray.data_append, getElem!_def, Array.getElem?_append_right]

theorem decode_left (s u : ByteArray) (pos : Nat) (h : pos < s.size) (hv : Utf8.decode s pos ≠ (65533, 1)) : Utf8.decode (s ++ u) pos = Utf8.decode s pos := by
  rw [Lib.decode_at] at hv ⊢
  rw [Lib.decode_at s pos, get_append s u pos h, ByteArray.size_append]
  exact decodeN_stable _ _ _ _ _ _ _ _ _ (by omega) (fun h1 => by rw [get_append s u _ (by omega)]) (fun h1 => by rw [get_append s u _ (by omega)]) (fun h1 => by rw [get_append s u _ (by omega)]) hv

theorem decode_right (s u : ByteArray) (pos : Nat) : Utf8.decode (s ++ u) (s.size + pos) = Utf8.decode u pos := by
  rw [Lib.decode_at, Lib.decode_at u pos, ByteArray.size_append, Nat.add_assoc, Nat.add_assoc, Nat.add_assoc, get_append_right, get_append_right, get_append_right, get_append_right]
  congr 1
  omega

theorem decode_le (s : ByteArray) (pos : Nat) (h : pos < s.size) : pos + (Utf8.decode s pos).2 ≤ s.size := by
  have := decodeN_le (s.size - pos) (s.get! pos).toNat (s.get! (pos + 1)).toNat (s.get! (pos + 2)).toNat (s.get! (pos + 3)).toNat (by omega)
  rw [Lib.decode_at]
  omega

theorem count_fuel (s : ByteArray) : ∀ (f g pos : Nat), s.size ≤ pos + f → s.size ≤ pos + g → Lib.runeCountFrom s f pos = Lib.runeCountFrom s g pos
  | 0, g, pos, h, _ => by rw [Lib.runeCountFrom_end s g pos (by omega)]; rfl
  | f + 1, 0, pos, _, h => by rw [Lib.runeCountFrom_end s (f + 1) pos (by omega)]; rfl
  | f + 1, g + 1, pos, hf, hg => by
    unfold Lib.runeCountFrom
    by_cases hp : pos < s.size
    · have := Lib.decode_width_pos s pos hp
      rw [if_pos hp, if_pos hp, count_fuel s f g _ (by omega) (by omega)]
    · rw [if_neg hp, if_neg hp]

theorem count_right (s u : ByteArray) : ∀ (f pos : Nat), Lib.runeCountFrom (s ++ u) f (s.size + pos) = Lib.runeCountFrom u f pos
  | 0, _ => rfl
  | f + 1, pos => by
    unfold Lib.runeCountFrom
    by_cases hp : pos < u.size
    · rw [if_pos hp, if_pos (by rw [ByteArray.size_append]; omega), decode_right, Nat.add_assoc, count_right s u f]
    · rw [if_neg hp, if_neg (by rw [ByteArray.size_append]; omega)]

theorem count_left (s u : ByteArray) : ∀ (f g pos : Nat), pos ≤ s.size → s.size ≤ pos + f → (s ++ u).size ≤ pos + g → whole s f pos → Lib.runeCountFrom (s ++ u) g pos = Lib.runeCountFrom s f pos + Lib.runeCount u
  | 0, g, pos, hp, hf, hg, _ => by
    have e : pos = s.size + 0 := by omega
    rw [e, count_right s u g 0]
    show _ = 0 + Lib.runeCountFrom u u.size 0
    rw [Nat.zero_add]
    exact count_fuel u _ _ 0 (by rw [ByteArray.size_append] at hg; omega) (by omega)
  | f + 1, g, pos, hp, hf, hg, hw => by
    by_cases h : pos < s.size
    · obtain ⟨hv, hw'⟩ := hw h
      cases g with
      | zero => rw [ByteArray.size_append] at hg; omega
      | succ g =>
        have h1 := Lib.decode_width_pos s pos h
        have h2 := decode_le s pos h
        have ih := count_left s u f g (pos + (Utf8.decode s pos).2) h2 (by omega) (by omega) hw'
        rw [show Lib.runeCountFrom (s ++ u) (g + 1) pos = 1 + Lib.runeCountFrom (s ++ u) g (pos + (Utf8.decode (s ++ u) pos).2) from by
          conv => lhs; unfold Lib.runeCountFrom
          rw [if_pos (by rw [ByteArray.size_append]; omega)]]
        rw [show Lib.runeCountFrom s (f + 1) pos = 1 + Lib.runeCountFrom s f (pos + (Utf8.decode s pos).2) from by
          conv => lhs; unfold Lib.runeCountFrom
          rw [if_pos h]]
        rw [decode_left s u pos h hv, ih]
        omega
    · have e : pos = s.size + 0 := by omega
      rw [Lib.runeCountFrom_end s (f + 1) pos h, e, count_right s u g 0, Nat.zero_add]
      exact count_fuel u _ _ 0 (by rw [ByteArray.size_append] at hg; omega) (by omega)

theorem runeCount_append (s u : ByteArray) (h : whole s s.size 0) : Lib.runeCount (s ++ u) = Lib.runeCount s + Lib.runeCount u :=
  count_left s u s.size (s ++ u).size 0 (by omega) (by omega) (by omega) h
end Go.Proofs.YtaadhehcoegmhaaGreatDoor
