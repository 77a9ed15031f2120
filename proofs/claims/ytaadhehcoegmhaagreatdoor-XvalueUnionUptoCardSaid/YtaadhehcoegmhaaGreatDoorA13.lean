/- Rows of one-character texts, and slices.Index over them. -/
import Derived.Test.YtaadhehcoegmhaaGreatDoorA12
import Derived.Test.YtaadhehcoegmhaaGreatDoorA8
namespace Go.Proofs.YtaadhehcoegmhaaGreatDoor
open Go Go.RowKit

/-- A slice of texts, one for each byte of l. -/
def Strs (w : World) (v : Value) (l : List UInt8) : Prop :=
  (v = .slice none 0 0 ∧ l = []) ∨
  ∃ g cap cur fz, v = .slice (some ⟨g, 0, none⟩) l.length cap ∧ w.heap[g]? = some (.cells cur 9 fz) ∧ cur.toList.take l.length = singles l

theorem Strs.of_row {w : World} {B : Nat} {v : Value} {l : List UInt8} (h : w.ownsRow B 9 1 v l.length (singles l)) : Strs w v l := by
  rcases h.2 with ⟨h1, h2⟩ | ⟨g, cap, cur, h1, _, h3, _, _, _, h7⟩
  · exact .inl ⟨h1, List.length_eq_zero_iff.1 h2⟩
  · exact .inr ⟨g, cap, cur, _, h1, h3, by simpa using h7⟩

theorem Strs.below {w w' : World} {v : Value} {l : List UInt8} (h : Strs w v l) (hb : Below w.heap.size w w') : Strs w' v l := by
  rcases h with h | ⟨g, cap, cur, fz, h1, h2, h3⟩
  · exact .inl h
  · exact .inr ⟨g, cap, cur, fz, h1, (hb.block _ (Array.getElem?_eq_some_iff.1 h2).1).trans h2, h3⟩

theorem Strs.others {w w' : World} {v : Value} {l : List UInt8} {B b : Nat} {bs : List Value} (h : Strs w v l) (hb : Lib.IsBuilderF 191 5 B b bs w) (ho : Lib.OthersKept 5 (some b) w w') : Strs w' v l := by
  rcases h with h | ⟨g, cap, cur, fz, h1, h2, h3⟩
  · exact .inl h
  · refine .inr ⟨g, cap, cur, fz, h1, ho g _ h2 ?_ ?_, h3⟩
    · intro e
      have e' : g = b := by simpa using e
      subst e'
      rcases hb with ⟨_, v, hv, _⟩ | ⟨_, v, hv, _⟩ <;> rw [hv] at h2 <;> simp at h2
    · intro c fz' e
      simp at e

theorem Strs.slice {w : World} {v : Value} {l : List UInt8} (h : Strs w v l) : ∃ A n cap, v = .slice A n cap ∧ n = l.length := by
  rcases h with ⟨rfl, rfl⟩ | ⟨g, cap, cur, fz, h1, _, _⟩
  · exact ⟨_, _, _, rfl, rfl⟩
  · exact ⟨_, _, _, h1, rfl⟩

/-- A cell of it. -/
theorem Strs.cell {w : World} {A : Option Addr} {n cap k : Nat} {c : UInt8} {l : List UInt8} (h : Strs w (.slice A n cap) l) (hk : l[k]? = some c) :
    ∃ g, A = some ⟨g, 0, none⟩ ∧ w.cell? ⟨g, k, none⟩ = some (.string ⟨#[c]⟩) := by
  rcases h with ⟨_, rfl⟩ | ⟨g, cap, cur, fz, h1, h2, h3⟩
  · simp at hk
  · simp at h1
    refine ⟨g, h1.1, ?_⟩
    have hlt : k < l.length := (List.getElem?_eq_some_iff.1 hk).1
    have h4 : cur.toList[k]? = some (.string ⟨#[c]⟩) := by
      rw [← List.getElem?_take_of_lt hlt, h3, singles, List.getElem?_map, hk]; rfl
    rw [Lib.cell_of_heap h2, ← Array.getElem?_toList, h4]

theorem chars_strs (l : List UInt8) (hl : ∀ c ∈ l, c < 128) (hn : l.length ≤ 100000) (w : World) :
    Calls Tryz.prog 133 #[.string ⟨l.toArray⟩] w fun e w' => ∃ A cap, e = .returned (.slice A l.length cap) ∧ Strs w' (.slice A l.length cap) l ∧ Below w.heap.size w w' := by
  refine Calls.mono (chars_any l hl hn w) ?_
  rintro e w' ⟨v, rfl, h, hb⟩
  have h2 := Strs.of_row h
  obtain ⟨A, n, cap, rfl, rfl⟩ := h2.slice
  exact ⟨A, cap, rfl, h2, hb⟩

def strsOf (l : List UInt8) : List ByteArray := l.map fun c => ⟨#[c]⟩

theorem index_strs (A : Option Addr) (n cap : Nat) (l : List UInt8) (c : UInt8) (w : World) (h : Strs w (.slice A n cap) l) (hn : n = l.length) (hb : n ≤ 100000) :
    Calls Tryz.prog 134 #[.slice A n cap, .string ⟨#[c]⟩] w fun e w' => e = .returned (.int .i64 (Lib.idxOfS (strsOf l) ⟨#[c]⟩)) ∧ w' = w := by
  subst hn
  rcases hl : l with _ | ⟨d, r⟩
  · exact Tryz.slices_Index_string_empty A cap _ w
  · obtain ⟨g, hA, _⟩ := Strs.cell (k := 0) (c := d) h (by rw [hl]; rfl)
    subst hA
    rw [← hl]
    refine Calls.mono (Tryz.slices_Index_string g 0 l.length cap (strsOf l) ⟨#[c]⟩ w (by simp [strsOf]) (by omega) ?_) ?_
    · intro j hj
      have hj2 : j < l.length := by simpa [strsOf] using hj
      obtain ⟨g', hg', hc⟩ := Strs.cell (k := j) (c := l[j]) h (by simp [hj2])
      simp only [Option.some.injEq, Addr.mk.injEq] at hg'
      obtain ⟨rfl, _⟩ := hg'
      rw [Nat.zero_add, hc]
      simp [strsOf, hj2]
    · rintro e w' ⟨rfl, rfl⟩
      refine ⟨?_, rfl⟩
      rw [List.take_of_length_le (by simp [strsOf])]
end Go.Proofs.YtaadhehcoegmhaaGreatDoor
