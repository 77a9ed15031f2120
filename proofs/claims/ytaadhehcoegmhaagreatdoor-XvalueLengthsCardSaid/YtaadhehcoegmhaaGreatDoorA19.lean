/- The plain law of a text cut at another one. -/
import Derived.Test.YtaadhehcoegmhaaGreatDoorA18
namespace Go.Proofs.YtaadhehcoegmhaaGreatDoor
open Go Go.RowKit

theorem cut_found (s u : List UInt8) : (Lib.cut s u).2.2 = Lib.contains s u := by
  unfold Lib.cut Lib.contains
  split <;> simp_all

theorem cut_joins (s u : List UInt8) (h : Lib.contains s u = true) : (Lib.cut s u).1 ++ u ++ (Lib.cut s u).2.1 = s := by
  have h0 : 0 ≤ Lib.index s u := by simpa [Lib.contains] using h
  rcases Lib.index_spec s u with ⟨h1, _⟩ | ⟨i, h1, h2, h3, _⟩
  · omega
  · have hr := Lib.index_room s u h0
    rw [h1] at hr
    rw [Lib.occAt_iff_take s u i (by omega)] at h3
    have h4 : (s.drop i).take u.length = u := by simpa using h3
    unfold Lib.cut
    rw [if_pos h0, h1]
    simp only [Int.toNat_natCast]
    have h5 : s.drop i = u ++ s.drop (i + u.length) := by
      conv => lhs; rw [← List.take_append_drop u.length (s.drop i)]
      rw [h4, List.drop_drop]
    rw [List.append_assoc, ← h5, List.take_append_drop]

theorem cut_first (s u : List UInt8) (h : Lib.contains s u = true) (hu : u ≠ []) : Lib.contains (Lib.cut s u).1 u = false := by
  have h0 : 0 ≤ Lib.index s u := by simpa [Lib.contains] using h
  rcases Lib.index_spec s u with ⟨h1, _⟩ | ⟨i, h1, h2, h3, h4⟩
  · omega
  · have hc : (Lib.cut s u).1 = s.take i := by unfold Lib.cut; rw [if_pos h0, h1]; rfl
    rw [hc]
    have hn : Lib.index (s.take i) u = -1 := by
      refine Lib.index_none fun j hj => ?_
      cases ho : Lib.occAt (s.take i) u j with
      | false => rfl
      | true =>
        exfalso
        rcases Lib.occAt_room ho with hr | hr
        · have hl : 0 < u.length := List.length_pos_iff.2 hu
          rw [List.length_take] at hr
          have hj2 : j < i := by omega
          have h5 := h4 j hj2
          have h6 : Lib.occAt s u j = true := by
            unfold Lib.occAt at ho ⊢
            rw [List.isPrefixOf_iff_prefix] at ho ⊢
            rw [List.drop_take] at ho
            exact ho.trans (List.take_prefix _ _)
          rw [h6] at h5
          cases h5
        · exact hu hr
    simp [Lib.contains, hn]

/-- A text cut, as the program's parts. -/
theorem cutOf_none (s u : ByteArray) (bh : Bool) (h : Lib.contains s.data.toList u.data.toList = false) : cutOf s u bh = ⟨#[]⟩ := by
  unfold cutOf
  rw [cut_found, h]
  rfl

theorem cutOf_before (s u : ByteArray) (h : Lib.contains s.data.toList u.data.toList = true) : cutOf s u false = ⟨(Lib.cut s.data.toList u.data.toList).1.toArray⟩ := by
  unfold cutOf
  rw [cut_found, h]
  rfl

theorem cutOf_after (s u : ByteArray) (h : Lib.contains s.data.toList u.data.toList = true) : cutOf s u true = ⟨(Lib.cut s.data.toList u.data.toList).2.1.toArray⟩ := by
  unfold cutOf
  rw [cut_found, h]
  rfl

theorem cutOf_joins (s u : ByteArray) (h : Lib.contains s.data.toList u.data.toList = true) : cutOf s u false ++ u ++ cutOf s u true = s := by
  rw [cutOf_before s u h, cutOf_after s u h]
  have := cut_joins s.data.toList u.data.toList h
  apply ByteArray.ext
  apply Array.ext'
  simpa using this

theorem cutOf_first (s u : ByteArray) (h : Lib.contains s.data.toList u.data.toList = true) (hu : u ≠ ⟨#[]⟩) : Lib.contains (cutOf s u false).data.toList u.data.toList = false := by
  rw [cutOf_before s u h]
  refine cut_first _ _ h fun h0 => hu ?_
  apply ByteArray.ext
  apply Array.ext'
  simpa using h0

theorem cutOf_size (s u : ByteArray) (bh : Bool) : (cutOf s u bh).size ≤ s.size := by
  cases hc : Lib.contains s.data.toList u.data.toList with
  | false => rw [cutOf_none s u bh hc]; exact Nat.zero_le _
  | true =>
    have h1 := congrArg List.length (cut_joins _ _ hc)
    rw [List.length_append, List.length_append] at h1
    have h2 : s.data.toList.length = s.size := Array.length_toList
    cases bh
    · rw [cutOf_before s u hc]
      show (Lib.cut s.data.toList u.data.toList).1.toArray.size ≤ s.size
      rw [List.size_toArray]
      omega
    · rw [cutOf_after s u hc]
      show (Lib.cut s.data.toList u.data.toList).2.1.toArray.size ≤ s.size
      rw [List.size_toArray]
      omega
end Go.Proofs.YtaadhehcoegmhaaGreatDoor
