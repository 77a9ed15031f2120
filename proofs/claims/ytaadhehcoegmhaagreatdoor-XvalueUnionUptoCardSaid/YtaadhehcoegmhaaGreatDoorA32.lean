/- Numbers appended; add (of the document's answer), walked. -/
import Derived.Test.YtaadhehcoegmhaaGreatDoorA31
namespace Go.Proofs.YtaadhehcoegmhaaGreatDoor
open Go Go.RowKit

/-- A value that is nil, or a row that holds these numbers. -/
def IntSlice (w : World) (v : Value) (zs : List Int) : Prop :=
  (v = .slice none 0 0 ∧ zs = []) ∨ ∃ b off cap, v = .slice (some ⟨b, off, none⟩) zs.length cap ∧ zs.length ≤ cap ∧ ∀ i z, zs[i]? = some z → w.cell? ⟨b, off + i, none⟩ = some (.int .i64 z)
theorem at_lt {w : World} {a : Addr} {v : Value} (h : w.cell? a = some v) : a.block < w.heap.size := by
  by_cases q : a.block < w.heap.size
  · exact q
  · simp only [World.cell?, Array.getElem?_eq_none (Nat.le_of_not_lt q)] at h
    cases h
theorem addr_add (b off i : Nat) : (⟨b, off, none⟩ : Addr).add i = ⟨b, off + i, none⟩ := by unfold Addr.add; split <;> simp_all
theorem IntSlice.below {w w' : World} {v : Value} {zs : List Int} (h : IntSlice w v zs) (hb : Below w.heap.size w w') : IntSlice w' v zs := by
  rcases h with h | ⟨b, off, cap, h1, h2, h3⟩
  · exact .inl h
  · exact .inr ⟨b, off, cap, h1, h2, fun i z hz => (hb.cell (at_lt (h3 i z hz))).trans (h3 i z hz)⟩
theorem IntSlice.at {w : World} {v : Value} {zs : List Int} (h : IntSlice w v zs) : ∃ A cap, v = .slice A zs.length cap ∧ IntsAt w A zs := by
  rcases h with ⟨rfl, rfl⟩ | ⟨b, off, cap, rfl, _, h3⟩
  · exact ⟨none, 0, rfl, fun i z hz => by simp at hz⟩
  · exact ⟨_, cap, rfl, fun i z hz => ⟨_, rfl, by rw [addr_add]; exact at_lt (h3 i z hz), by rw [addr_add]; exact h3 i z hz⟩⟩
theorem IntSlice.of_own {w : World} {B : Nat} {v : Value} {zs : List Int} (h : w.ownsRow B 3 1 v zs.length (ints zs)) : IntSlice w v zs := by
  rcases h.2 with ⟨rfl, h2⟩ | ⟨g, cap, cur, rfl, _, hg, hc, _⟩
  · exact .inl ⟨rfl, List.eq_nil_of_length_eq_zero h2⟩
  · refine .inr ⟨g, 0, cap, rfl, hc, fun i z hz => ?_⟩
    have := h.cells (g := g) rfl i (.int .i64 z) (by simp [ints, hz])
    rw [addr_add] at this
    exact this
theorem intSlice_one (w : World) (n : Int) : IntSlice (w.alloc (.cells #[.int .i64 n] 3)) (.slice (some ⟨w.heap.size, 0, none⟩) 1 1) [n] := by
  refine .inr ⟨_, 0, 1, rfl, by simp, fun i z hz => ?_⟩
  obtain rfl : i = 0 := by
    have := (List.getElem?_eq_some_iff.1 hz).1
    simp at this; exact this
  have e : z = n := by simpa using hz.symm
  subst e
  have := World.news_of_block (cs := #[.int .i64 z]) (t := 3) (fr := (0, 0)) (heap_alloc_new w _) 0 (.int .i64 z) (by simp)
  rw [addr_add] at this
  exact this

/-- append of numbers to a row that the call owns. -/
theorem wpList_append_ints {w : World} {ops : Array Oper} {rest : List Oper} {o : Oper} {a : Act} {Q : Exit → Act → World → Prop} (hgd : o.guard = none) (s x : Operand)
    (ho : o.op = .call { callee := .builtin .append, args := #[s, x], argTypes := #[26, 26] })
    (base : Nat) (v : Value) (xs : List Int) (hs : a.eval s = v) (hown : w.ownsRow base 3 1 v xs.length (ints xs)) (u : Value) (ys : List Int) (hx : a.eval x = u) (hu : IntSlice w u ys)
    (hlen : xs.length + ys.length ≤ 4000000000) (hbase : base ≤ w.heap.size)
    (h : ∀ v' w', w'.ownsRow base 3 1 v' (xs ++ ys).length (ints (xs ++ ys)) → Below base w w' → wpList Tryz.prog ops Q rest (a.put o.dst v') w') :
    wpList Tryz.prog ops Q (o :: rest) a w := by
  obtain ⟨i0, hi, hz0, hz1, hz2⟩ := info_parts info3
  rcases hu with ⟨rfl, rfl⟩ | ⟨b, off, cap, rfl, hc, hcell⟩
  · exact wpList_append_own_none hgd s x 26 ho base 3 i0 1 Tryz.underlying26 hi v xs.length (ints xs) hs hown hx (h v w (by simpa using hown) (Below.refl _ _))
  · refine wpList_append_own_at w hgd s x 26 ho base 3 i0 _ 1 8 Tryz.underlying26 hi hz0 hz1 hz2 rfl (by omega) v xs.length (ints xs) hs hown ⟨b, off, none⟩ ys.length cap (ints ys) hx (by simp [ints]) (fun j u hu => ?_) (fun u hu => ?_) (by simp [maxLen]; omega) (by omega) hbase fun v' w' hown' hg _ _ => h v' w' (by simpa [ints] using hown') ((Below.refl _ _).grown hg hbase fun k hk => (hown.lt k hk).1)
    · obtain ⟨z, hz, rfl⟩ : ∃ z, ys[j]? = some z ∧ u = .int .i64 z := by
        simp only [ints, List.getElem?_map, Option.map_eq_some_iff] at hu
        obtain ⟨z, h1, h2⟩ := hu
        exact ⟨z, h1, h2.symm⟩
      rw [addr_add]
      exact hcell j z hz
    · obtain ⟨z, _, rfl⟩ := List.mem_map.1 hu
      simp [Value.oneCell']

theorem posOf_here (zs : List Int) (n : Int) (k : Nat) (h : k = 0 ∨ ¬ n < zs.getD (k - 1) 0) : posOf zs n k = k := by
  cases k with
  | zero => rfl
  | succ k =>
    unfold posOf
    rw [if_neg]
    rcases h with h | h
    · omega
    · simpa using h

theorem intSlice_row {w : World} {b off cap : Nat} {zs : List Int} (hc : zs.length ≤ cap) (h : ∀ i z, zs[i]? = some z → w.cell? ⟨b, off + i, none⟩ = some (.int .i64 z)) :
    IntSlice w (.slice (some ⟨b, off, none⟩) zs.length cap) zs := .inr ⟨b, off, cap, rfl, hc, h⟩
theorem intSlice_take {w : World} {b off cap : Nat} {zs : List Int} (hc : zs.length ≤ cap) (h : ∀ i z, zs[i]? = some z → w.cell? ⟨b, off + i, none⟩ = some (.int .i64 z)) {k : Nat} (hk : k ≤ zs.length) :
    IntSlice w (.slice (some ⟨b, off, none⟩) k cap) (zs.take k) := by
  refine .inr ⟨b, off, cap, by rw [List.length_take, Nat.min_eq_left hk], by rw [List.length_take]; omega, fun i z hz => h i z ?_⟩
  rw [List.getElem?_take] at hz
  split at hz
  · exact hz
  · cases hz
theorem intSlice_drop {w : World} {b off cap : Nat} {zs : List Int} (hc : zs.length ≤ cap) (h : ∀ i z, zs[i]? = some z → w.cell? ⟨b, off + i, none⟩ = some (.int .i64 z)) {k : Nat} (hk : k ≤ zs.length) (A : Option Addr) (hA : k < cap → A = some ⟨b, off + k, none⟩) (hA' : ∃ o, A = some ⟨b, o, none⟩) :
    IntSlice w (.slice A (zs.length - k) (cap - k)) (zs.drop k) := by
  obtain ⟨o, rfl⟩ := hA'
  refine .inr ⟨b, o, cap - k, by rw [List.length_drop], by rw [List.length_drop]; omega, fun i z hz => ?_⟩
  rw [List.getElem?_drop] at hz
  have hlt := (List.getElem?_eq_some_iff.1 hz).1
  have := hA (by omega)
  have := h _ z hz
  simp_all [Nat.add_assoc]

set_option maxRecDepth 100000 in
set_option maxHeartbeats 1000000 in
theorem add_nil (n : Int) (w : World) :
    Calls Tryz.prog 40 #[.slice none 0 0, .int .i64 n] w fun e w' => ∃ v, e = .returned v ∧ IntSlice w' v [n] ∧ Below w.heap.size w w' := by
  have hown0 : w.ownsRow w.heap.size 3 1 (.slice none 0 0) ([] : List Int).length (ints []) := ⟨rfl, .inl ⟨rfl, rfl⟩⟩
  go_enter Tryz.func40, Tryz.ntmps40
  go_wp2_with fail
  go_loopw [5] (fun v wr => v = .int .i64 0 ∧ w = wr)
    (fun i _ => 0)
  case atStart => exact ⟨rfl, rfl⟩
  case round =>
    obtain ⟨rfl, rfl⟩ := hrel
    go_wp2_with (first
      | (at_builtin; refine wpList_append_ints rfl (.tmp 34) (.tmp 37) rfl w.heap.size _ [] rfl hown0 _ [] rfl (.inl ⟨rfl, rfl⟩) (by simp) (Nat.le_refl _) ?_; intro v1 w1 hown1 hb1)
      | (at_builtin; refine wpList_append_ints rfl (.tmp 39) (.tmp 41) rfl w.heap.size _ _ rfl (hown1.alloc _) _ [n] rfl (intSlice_one w1 n) (by simp) (Nat.le_trans hb1.size (by simp)) ?_; intro v2 w2 hown2 hb2)
      | (at_builtin; refine wpList_append_ints rfl (.tmp 43) (.tmp 46) rfl w.heap.size _ _ rfl hown2 _ [] rfl (.inl ⟨rfl, rfl⟩) (by simp) (Nat.le_trans hb1.size (Nat.le_trans (by simp) hb2.size)) ?_; intro v3 w3 hown3 hb3))
    go_ret
    exact ⟨v3, rfl, IntSlice.of_own hown3, ((hb1.alloc hb1.size _).trans hb2).trans hb3⟩

set_option maxRecDepth 100000 in
set_option maxHeartbeats 1000000 in
theorem add_row (b off cap : Nat) (zs : List Int) (n : Int) (w : World) (hl : zs.length ≤ 1000000000) (hcap : zs.length ≤ cap)
    (h : ∀ i z, zs[i]? = some z → w.cell? ⟨b, off + i, none⟩ = some (.int .i64 z)) :
    Calls Tryz.prog 40 #[.slice (some ⟨b, off, none⟩) zs.length cap, .int .i64 n] w fun e w' => ∃ v, e = .returned v ∧ IntSlice w' v (ins zs n) ∧ Below w.heap.size w w' := by
  have hown0 : w.ownsRow w.heap.size 3 1 (.slice none 0 0) ([] : List Int).length (ints []) := ⟨rfl, .inl ⟨rfl, rfl⟩⟩
  have hcell : ∀ k, k < zs.length → w.cell? ⟨b, off + k, none⟩ = some (.int .i64 (zs.getD k 0)) := fun k hk => h k _ (by simp [List.getD, hk])
  have HC := Lib.hid hcell
  have H := Lib.hid h
  have HO := Lib.hid hown0
  clear hcell h hown0
  go_enter Tryz.func40, Tryz.ntmps40
  go_wp2_with fail
  go_loopw [5] (fun v wr => ∃ k : Nat, v = .int .i64 k ∧ k ≤ zs.length ∧ posOf zs n zs.length = posOf zs n k ∧ w = wr)
    (fun i _ => (intOf i).toNat)
  case atStart => exact ⟨zs.length, rfl, Nat.le_refl _, rfl, rfl⟩
  case round =>
    obtain ⟨k, rfl, hk, hp, rfl⟩ := hrel
    have HP := Lib.hid hp
    clear hp
    by_cases hgo : 0 < k ∧ n < zs.getD (k - 1) 0
    · obtain ⟨j, rfl⟩ : ∃ j, k = j + 1 := ⟨k - 1, by omega⟩
      have hc := HC.out j (by omega)
      have hlt : n < zs.getD j 0 := by simpa using hgo.2
      obtain ⟨x, hx⟩ : ∃ x, x = zs.getD j 0 := ⟨_, rfl⟩
      rw [← hx] at hc hlt
      have HX := Lib.hid hx
      clear hx hgo
      go_wp2_with fail
      go_roundw
      case rel => exact ⟨j, by go_num, by omega, HP.out.trans (by rw [posOf, if_pos (HX.out ▸ hlt)]), trivial⟩
      case measure => simp [intOf]
    · have hpos : posOf zs n zs.length = k := HP.out.trans (posOf_here zs n k (by
        by_cases h0 : k = 0
        · exact .inl h0
        · exact .inr fun q => hgo ⟨by omega, q⟩))
      by_cases hsame : 0 < k ∧ zs.getD (k - 1) 0 = n
      · have hins : ins zs n = zs := by unfold ins; rw [hpos, if_pos hsame]
        have HI := Lib.hid hins
        obtain ⟨j, rfl⟩ : ∃ j, k = j + 1 := ⟨k - 1, by omega⟩
        have hc := HC.out j (by omega)
        have hx : zs.getD j 0 = n := by simpa using hsame.2
        rw [hx] at hc
        clear hx hgo hpos hsame hins
        go_wp2_with fail
        go_ret
        exact ⟨_, rfl, HI.out.symm ▸ .inr ⟨b, off, cap, rfl, hcap, H.out⟩, Below.refl _ _⟩
      · have hins : ins zs n = zs.take k ++ [n] ++ zs.drop k := by unfold ins; rw [hpos, if_neg hsame]
        have HI := Lib.hid hins
        clear hins hpos
        by_cases h0 : k = 0
        · subst h0
          have HI0 : Hid (ins zs n = zs.take 0 ++ [n] ++ zs) := Lib.hid (by have := HI.out; rwa [List.drop_zero] at this)
          clear hgo hsame
          go_wp2_with (first
            | (at_builtin; refine wpList_append_ints rfl (.tmp 34) (.tmp 37) rfl w.heap.size _ [] rfl HO.out _ (zs.take 0) rfl (intSlice_take hcap H.out hk) (by simp <;> omega) (Nat.le_refl _) ?_; intro v1 w1 hown1 hb1)
            | (at_builtin; refine wpList_append_ints rfl (.tmp 39) (.tmp 41) rfl w.heap.size _ _ rfl (hown1.alloc _) _ [n] rfl (intSlice_one w1 n) (by simp <;> omega) (Nat.le_trans hb1.size (by simp)) ?_; intro v2 w2 hown2 hb2)
            | (at_builtin; refine wpList_append_ints rfl (.tmp 43) (.tmp 46) rfl w.heap.size _ _ rfl hown2 _ zs rfl ((intSlice_row hcap H.out).below (((hb1.alloc hb1.size _).trans hb2))) (by simp <;> omega) (Nat.le_trans hb1.size (Nat.le_trans (by simp) hb2.size)) ?_; intro v3 w3 hown3 hb3))
          go_ret
          exact ⟨v3, rfl, HI0.out.symm ▸ IntSlice.of_own hown3, ((hb1.alloc hb1.size _).trans hb2).trans hb3⟩
        · obtain ⟨j, rfl⟩ : ∃ j, k = j + 1 := ⟨k - 1, by omega⟩
          have hc := HC.out j (by omega)
          have h1 : ¬ n < zs.getD j 0 := fun q => hgo ⟨by omega, by simpa using q⟩
          have h2 : zs.getD j 0 ≠ n := fun q => hsame ⟨by omega, by simpa using q⟩
          obtain ⟨x, hx⟩ : ∃ x, x = zs.getD j 0 := ⟨_, rfl⟩
          rw [← hx] at hc h1 h2
          have hle : x < n := by omega
          have hne : (x == n) = false := by simpa using h2
          clear h1 h2
          clear hx hgo hsame h0
          go_wp2_with (first
            | (at_builtin; refine wpList_append_ints rfl (.tmp 34) (.tmp 37) rfl w.heap.size _ [] rfl HO.out _ (zs.take (j + 1)) rfl (intSlice_take hcap H.out hk) (by simp <;> omega) (Nat.le_refl _) ?_; intro v1 w1 hown1 hb1)
            | (at_builtin; refine wpList_append_ints rfl (.tmp 39) (.tmp 41) rfl w.heap.size _ _ rfl (hown1.alloc _) _ [n] rfl (intSlice_one w1 n) (by simp <;> omega) (Nat.le_trans hb1.size (by simp)) ?_; intro v2 w2 hown2 hb2)
            | (at_builtin; refine wpList_append_ints rfl (.tmp 43) (.tmp 46) rfl w.heap.size _ _ rfl hown2 _ (zs.drop (j + 1)) rfl ((intSlice_drop hcap H.out hk _ (fun q => if_neg (by omega)) (by split; exact ⟨_, rfl⟩; exact ⟨_, rfl⟩)).below (((hb1.alloc hb1.size _).trans hb2))) (by simp <;> omega) (Nat.le_trans hb1.size (Nat.le_trans (by simp) hb2.size)) ?_; intro v3 w3 hown3 hb3))
          all_goals (go_ret; exact ⟨v3, rfl, HI.out.symm ▸ IntSlice.of_own hown3, ((hb1.alloc hb1.size _).trans hb2).trans hb3⟩)

theorem add_any (v : Value) (zs : List Int) (n : Int) (w : World) (hl : zs.length ≤ 1000000000) (h : IntSlice w v zs) :
    Calls Tryz.prog 40 #[v, .int .i64 n] w fun e w' => ∃ v, e = .returned v ∧ IntSlice w' v (ins zs n) ∧ Below w.heap.size w w' := by
  rcases h with ⟨rfl, rfl⟩ | ⟨b, off, cap, rfl, hc, h3⟩
  · exact add_nil n w
  · exact add_row b off cap zs n w hl hc h3
end Go.Proofs.YtaadhehcoegmhaaGreatDoor
