/- Numbers put in their places, one after the other, and sorted with each once: the same; no program here. -/
import Derived.Lib.RowBridge
namespace Go.Proofs.YtaadhehcoegmhaaGreatDoor
open Go

/-- Where n belongs, looked for from k down. -/
def posOf (zs : List Int) (n : Int) : Nat → Nat
  | 0 => 0
  | k + 1 => if n < zs.getD k 0 then posOf zs n k else k + 1

/-- The numbers with n. -/
def ins (zs : List Int) (n : Int) : List Int :=
  if 0 < posOf zs n zs.length ∧ zs.getD (posOf zs n zs.length - 1) 0 = n then zs else zs.take (posOf zs n zs.length) ++ [n] ++ zs.drop (posOf zs n zs.length)
theorem posOf_le (zs : List Int) (n : Int) : ∀ k, posOf zs n k ≤ k
  | 0 => Nat.le_refl _
  | k + 1 => by
    unfold posOf
    split
    · have := posOf_le zs n k; omega
    · omega
theorem posOf_spec (zs : List Int) (n : Int) : ∀ k, (∀ i, posOf zs n k ≤ i → i < k → n < zs.getD i 0) ∧ (posOf zs n k = 0 ∨ ¬ n < zs.getD (posOf zs n k - 1) 0)
  | 0 => ⟨fun i _ h => by omega, Or.inl rfl⟩
  | k + 1 => by
    unfold posOf
    split
    · rename_i h
      obtain ⟨h1, h2⟩ := posOf_spec zs n k
      refine ⟨fun i a b => ?_, h2⟩
      by_cases e : i = k
      · subst e; exact h
      · exact h1 i a (by omega)
    · rename_i h
      exact ⟨fun i a b => by omega, Or.inr (by simpa using h)⟩

/-- Rising, each once. -/
abbrev Rising (zs : List Int) : Prop := zs.Pairwise (· < ·)

theorem rising_ext : ∀ {l m : List Int}, Rising l → Rising m → (∀ x, x ∈ l ↔ x ∈ m) → l = m
  | [], [], _, _, _ => rfl
  | [], b :: m, _, _, h => by simpa using (h b).2 (by simp)
  | a :: l, [], _, _, h => by simpa using (h a).1 (by simp)
  | a :: l, b :: m, hl, hm, h => by
    have hl' := List.pairwise_cons.1 hl
    have hm' := List.pairwise_cons.1 hm
    have hab : a = b := by
      have h1 := (h a).1 (by simp)
      have h2 := (h b).2 (by simp)
      rcases List.mem_cons.1 h1 with h1 | h1
      · exact h1
      · rcases List.mem_cons.1 h2 with h2 | h2
        · exact h2.symm
        · have := hl'.1 b h2
          have := hm'.1 a h1
          omega
    subst hab
    rw [rising_ext hl'.2 hm'.2 (fun x => ?_)]
    have hx := h x
    by_cases e : x = a
    · subst e
      exact ⟨fun q => absurd (hl'.1 x q) (by omega), fun q => absurd (hm'.1 x q) (by omega)⟩
    · simpa [e] using hx

theorem rising_getD {zs : List Int} (h : Rising zs) {i j : Nat} (hij : i < j) (hj : j < zs.length) : zs.getD i 0 < zs.getD j 0 := by
  have := List.pairwise_iff_getElem.1 h i j (by omega) hj hij
  simpa [List.getD, hj, show i < zs.length by omega] using this

theorem ins_rising {zs : List Int} {n : Int} (h : Rising zs) : Rising (ins zs n) ∧ ∀ x, x ∈ ins zs n ↔ x ∈ zs ∨ x = n := by
  obtain ⟨h1, h2⟩ := posOf_spec zs n zs.length
  have hle := posOf_le zs n zs.length
  unfold ins
  generalize posOf zs n zs.length = p at *
  split
  · rename_i hh
    refine ⟨h, fun x => ⟨Or.inl, ?_⟩⟩
    rintro (hx | rfl)
    · exact hx
    · have hp : p - 1 < zs.length := by omega
      rw [← hh.2]
      simp [List.getD, hp]
  · rename_i hh
    have ht : ∀ x ∈ zs.take p, x < n := fun x hx => by
      obtain ⟨i, hi, rfl⟩ := List.getElem_of_mem hx
      have hi' : i < p := by simp at hi; omega
      have e : (zs.take p)[i] = zs.getD i 0 := by simp [List.getD, show i < zs.length by omega]
      rw [e]
      have hlast : ¬ n < zs.getD (p - 1) 0 := by
        rcases h2 with h2 | h2
        · omega
        · exact h2
      have hne : zs.getD (p - 1) 0 ≠ n := fun e => hh ⟨by omega, e⟩
      by_cases ei : i = p - 1
      · subst ei; omega
      · have := rising_getD h (show i < p - 1 by omega) (by omega)
        omega
    have hd : ∀ x ∈ zs.drop p, n < x := fun x hx => by
      obtain ⟨i, hi, rfl⟩ := List.getElem_of_mem hx
      have hi' : p + i < zs.length := by simp at hi; omega
      have e : (zs.drop p)[i] = zs.getD (p + i) 0 := by simp [List.getD, hi']
      rw [e]
      exact h1 _ (by omega) hi'
    refine ⟨?_, fun x => ?_⟩
    · show List.Pairwise _ _
      rw [List.append_assoc, List.pairwise_append]
      refine ⟨h.sublist (List.take_sublist _ _), ?_, ?_⟩
      · rw [List.pairwise_append]
        refine ⟨List.pairwise_singleton _ _, h.sublist (List.drop_sublist _ _), fun a ha b hb => ?_⟩
        rw [List.mem_singleton.1 ha]
        exact hd b hb
      · intro a ha b hb
        have := ht a ha
        rcases List.mem_append.1 hb with hb | hb
        · rw [List.mem_singleton.1 hb]; exact this
        · have := hd b hb; omega
    · have e : x ∈ zs ↔ x ∈ zs.take p ∨ x ∈ zs.drop p := by
        rw [← List.mem_append, List.take_append_drop]
      simp only [List.mem_append, List.mem_singleton]
      rw [e]
      constructor
      · rintro ((q | q) | q)
        · exact .inl (.inl q)
        · exact .inr q
        · exact .inl (.inr q)
      · rintro ((q | q) | q)
        · exact .inl (.inl q)
        · exact .inr q
        · exact .inl (.inr q)

/-- Numbers put in one after the other. -/
def insAll (zs l : List Int) : List Int := l.foldl ins zs
theorem insAll_rising : ∀ (l : List Int) {zs : List Int}, Rising zs → Rising (insAll zs l) ∧ ∀ x, x ∈ insAll zs l ↔ x ∈ zs ∨ x ∈ l
  | [], zs, h => ⟨h, fun x => by simp [insAll]⟩
  | n :: l, zs, h => by
    obtain ⟨h1, h2⟩ := ins_rising (n := n) h
    obtain ⟨h3, h4⟩ := insAll_rising l h1
    refine ⟨h3, fun x => ?_⟩
    show x ∈ insAll (ins zs n) l ↔ _
    rw [h4, h2, List.mem_cons, or_assoc]
theorem insAll_snoc (zs l : List Int) (n : Int) : insAll zs (l ++ [n]) = ins (insAll zs l) n := by simp [insAll]
theorem ins_length (zs : List Int) (n : Int) : (ins zs n).length ≤ zs.length + 1 := by
  have := posOf_le zs n zs.length
  unfold ins
  split
  · omega
  · simp; omega
theorem insAll_length : ∀ (l zs : List Int), (insAll zs l).length ≤ zs.length + l.length
  | [], zs => by simp [insAll]
  | n :: l, zs => by
    have h1 := insAll_length l (ins zs n)
    have h2 := ins_length zs n
    show (insAll (ins zs n) l).length ≤ _
    simp only [List.length_cons]
    omega

/-- What Union computes: sorted, each once. -/
def uni (xs ys : List Int) : List Int := Lib.compact ((xs ++ ys).mergeSort fun x y => decide (x ≤ y))

theorem get_bang (zs : List Int) (j : Nat) : zs.toArray[j]! = zs.getD j 0 := by
  by_cases h : j < zs.length
  · rw [getElem!_pos _ j (by simpa using h)]; simp [List.getD, h]
  · rw [getElem!_neg _ j (by simpa using h)]; simp [List.getD, h]

/-- The first m places of numbers that do not fall, those kept: rising, the same numbers. -/
theorem compactUpTo_rising {zs : List Int} (h : ∀ i j, i ≤ j → j < zs.length → zs.getD i 0 ≤ zs.getD j 0) : ∀ m, m ≤ zs.length →
    Rising (Lib.compactUpTo zs.toArray m) ∧ (∀ x, x ∈ Lib.compactUpTo zs.toArray m ↔ ∃ i, i < m ∧ x = zs.getD i 0)
  | 0, _ => by
    unfold Lib.compactUpTo
    simp
  | m + 1, hm => by
    obtain ⟨h1, h2⟩ := compactUpTo_rising h m (by omega)
    rw [Lib.compactUpTo_succ, get_bang]
    by_cases hk : Lib.keeps zs.toArray m = true
    · rw [if_pos hk]
      refine ⟨?_, fun x => ?_⟩
      · show List.Pairwise _ _
        rw [List.pairwise_append]
        refine ⟨h1, List.pairwise_singleton _ _, fun a ha b hb => ?_⟩
        rw [List.mem_singleton.1 hb]
        obtain ⟨i, hi, rfl⟩ := (h2 a).1 ha
        unfold Lib.keeps at hk
        rw [decide_eq_true_eq, get_bang, get_bang] at hk
        have q1 := h i (m - 1) (by omega) (by omega)
        have q2 := h (m - 1) m (by omega) (by omega)
        rcases hk with hk | hk
        · omega
        · omega
      · rw [List.mem_append, h2, List.mem_singleton]
        constructor
        · rintro (⟨i, hi, rfl⟩ | rfl)
          · exact ⟨i, by omega, rfl⟩
          · exact ⟨m, by omega, rfl⟩
        · rintro ⟨i, hi, rfl⟩
          by_cases e : i = m
          · subst e; exact .inr rfl
          · exact .inl ⟨i, by omega, rfl⟩
    · rw [if_neg hk, List.append_nil]
      refine ⟨h1, fun x => ?_⟩
      rw [h2]
      unfold Lib.keeps at hk
      rw [decide_eq_true_eq, get_bang, get_bang] at hk
      constructor
      · rintro ⟨i, hi, rfl⟩
        exact ⟨i, by omega, rfl⟩
      · rintro ⟨i, hi, rfl⟩
        by_cases e : i = m
        · subst e
          refine ⟨i - 1, by omega, ?_⟩
          by_cases q : zs.getD i 0 = zs.getD (i - 1) 0
          · exact q
          · exact absurd (.inr q) hk
        · exact ⟨i, by omega, rfl⟩

theorem mem_getD (zs : List Int) (x : Int) : x ∈ zs ↔ ∃ i, i < zs.length ∧ x = zs.getD i 0 := by
  rw [List.mem_iff_getElem]
  constructor
  · rintro ⟨i, hi, rfl⟩
    exact ⟨i, hi, by simp [List.getD, hi]⟩
  · rintro ⟨i, hi, rfl⟩
    exact ⟨i, hi, by simp [List.getD, hi]⟩

theorem uni_rising (xs ys : List Int) : Rising (uni xs ys) ∧ ∀ x, x ∈ uni xs ys ↔ x ∈ xs ∨ x ∈ ys := by
  have hs : ((xs ++ ys).mergeSort fun x y => decide (x ≤ y)).Pairwise (fun x y => decide (x ≤ y) = true) :=
    List.pairwise_mergeSort (fun a b c h1 h2 => by simp at h1 h2 ⊢; omega) (fun a b => by simp; omega) _
  have hmono : ∀ i j, i ≤ j → j < ((xs ++ ys).mergeSort fun x y => decide (x ≤ y)).length → ((xs ++ ys).mergeSort fun x y => decide (x ≤ y)).getD i 0 ≤ ((xs ++ ys).mergeSort fun x y => decide (x ≤ y)).getD j 0 := fun i j hij hj => by
    by_cases e : i = j
    · subst e; omega
    · have hi : i < ((xs ++ ys).mergeSort fun x y => decide (x ≤ y)).length := by omega
      have := List.pairwise_iff_getElem.1 hs i j hi hj (by omega)
      simp only [List.getD, List.getElem?_eq_getElem hj, List.getElem?_eq_getElem hi]
      simpa using this
  obtain ⟨h1, h2⟩ := compactUpTo_rising hmono _ (Nat.le_refl _)
  refine ⟨h1, fun x => ?_⟩
  unfold uni Lib.compact
  rw [h2, ← mem_getD, List.mem_mergeSort, List.mem_append]

theorem uni_ref (xs ys : List Int) : uni xs ys = insAll (insAll [] xs) ys := by
  obtain ⟨h1, h2⟩ := uni_rising xs ys
  obtain ⟨h3, h4⟩ := insAll_rising xs (zs := []) List.Pairwise.nil
  obtain ⟨h5, h6⟩ := insAll_rising ys h3
  exact rising_ext h1 h5 fun x => by rw [h2, h6, h4]; simp
theorem uni_comm (xs ys : List Int) : uni xs ys = uni ys xs :=
  rising_ext (uni_rising xs ys).1 (uni_rising ys xs).1 fun x => by rw [(uni_rising xs ys).2, (uni_rising ys xs).2, or_comm]
theorem uni_self (xs ys : List Int) : uni (uni xs ys) (uni xs ys) = uni xs ys :=
  rising_ext (uni_rising _ _).1 (uni_rising xs ys).1 fun x => by rw [(uni_rising _ _).2, or_self]
theorem uni_assoc (xs ys zs : List Int) : uni (uni xs ys) zs = uni xs (uni ys zs) :=
  rising_ext (uni_rising _ _).1 (uni_rising _ _).1 fun x => by rw [(uni_rising _ _).2, (uni_rising _ _).2, (uni_rising _ _).2, (uni_rising _ _).2, or_assoc]
theorem uni_step (xs ys : List Int) {i : Nat} (hi : i + 1 < (uni xs ys).length) : (uni xs ys).getD i 0 < (uni xs ys).getD (i + 1) 0 :=
  rising_getD (uni_rising xs ys).1 (Nat.lt_succ_self i) hi
theorem uni_length (xs ys : List Int) : (uni xs ys).length ≤ xs.length + ys.length := by
  have := Lib.compact_length_le ((xs ++ ys).mergeSort fun x y => decide (x ≤ y))
  simpa [uni] using this
end Go.Proofs.YtaadhehcoegmhaaGreatDoor
