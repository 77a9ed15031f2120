/- slices.Grow and slices.Concat at two rows of numbers, walked. -/
import Derived.Test.YtaadhehcoegmhaaGreatDoorA33
import Derived.Lib.AppendZeros
namespace Go.Proofs.YtaadhehcoegmhaaGreatDoor
open Go Go.RowKit

/-- What comes in as an argument: nil, a row that holds these numbers, or a row of length 0 wherever it lies. -/
def ArgInts (w : World) (v : Value) (zs : List Int) : Prop := IntSlice w v zs ∨ (zs = [] ∧ ∃ a cap, v = .slice (some a) 0 cap)
theorem ArgInts.below {w w' : World} {v : Value} {zs : List Int} (h : ArgInts w v zs) (hb : Below w.heap.size w w') : ArgInts w' v zs := h.imp (fun h => h.below hb) id
theorem ArgInts.at {w : World} {v : Value} {zs : List Int} (h : ArgInts w v zs) : ∃ A cap, v = .slice A zs.length cap ∧ IntsAt w A zs := by
  rcases h with h | ⟨rfl, a, cap, rfl⟩
  · exact h.at
  · exact ⟨some a, cap, rfl, fun i z hz => by simp at hz⟩

theorem wpList_append_args {w : World} {ops : Array Oper} {rest : List Oper} {o : Oper} {a : Act} {Q : Exit → Act → World → Prop} (hgd : o.guard = none) (s x : Operand)
    (ho : o.op = .call { callee := .builtin .append, args := #[s, x], argTypes := #[26, 26] })
    (base : Nat) (v : Value) (xs : List Int) (hs : a.eval s = v) (hown : w.ownsRow base 3 1 v xs.length (ints xs)) (u : Value) (ys : List Int) (hx : a.eval x = u) (hu : ArgInts w u ys)
    (hlen : xs.length + ys.length ≤ 4000000000) (hbase : base ≤ w.heap.size)
    (h : ∀ v' w', w'.ownsRow base 3 1 v' (xs ++ ys).length (ints (xs ++ ys)) → Below base w w' → wpList Tryz.prog ops Q rest (a.put o.dst v') w') :
    wpList Tryz.prog ops Q (o :: rest) a w := by
  rcases hu with hu | ⟨rfl, ad, cap, rfl⟩
  · exact wpList_append_ints hgd s x ho base v xs hs hown u ys hx hu hlen hbase h
  · obtain ⟨i0, hi, hz0, hz1, hz2⟩ := info_parts info3
    exact wpList_append_own_at w hgd s x 26 ho base 3 i0 _ 1 8 Tryz.underlying26 hi hz0 hz1 hz2 rfl (by omega) v xs.length (ints xs) hs hown ad 0 cap [] hx rfl (fun j u hu => by simp at hu) (fun u hu => by simp at hu) (by simp [maxLen]; simp at hlen; omega) (by simp at hlen; omega) hbase fun v' w' hown' hg _ _ => h v' w' (by simpa [ints] using hown') ((Below.refl _ _).grown hg hbase fun k hk => (hown.lt k hk).1)

set_option maxRecDepth 100000 in
set_option maxHeartbeats 1000000 in
theorem grow_nil (n : Nat) (w : World) (hn : n ≤ 1000000000) :
    Calls Tryz.prog 96 #[.slice none 0 0, .int .i64 n] w fun e w' => ∃ v, e = .returned v ∧ w'.ownsRow w.heap.size 3 1 v 0 [] ∧ Below w.heap.size w w' := by
  obtain ⟨i0, hi, hz0, hz1, hz2⟩ := info_parts info3
  by_cases h0 : n = 0
  · subst h0
    go_enter Tryz.func96, Tryz.ntmps96
    go_wp2_with fail
    go_ret
    exact ⟨_, rfl, ⟨rfl, .inl ⟨rfl, rfl⟩⟩, Below.refl _ _⟩
  · have hr := fun ty => Lib.run_append_nil_zeros (P := Tryz.prog) w 26 3 ty 3 i0 (.int .i64 0) .i64 .i64 Tryz.underlying26 Tryz.underlying3 hi hz0 n (by omega) (by omega) (by omega) (by rw [hz2]; omega)
    have hge := grownCap_ge w n 0 3
    have hle := grownCap_le_maxLen w n 0 3 (by unfold maxLen; omega)
    have hown := World.ownsRow_made (base := w.heap.size) (e := 3) (size := 1) w.drew (Builtin.zeroCells (Value.cells (.int .i64 0)) n ++ Builtin.zeroCells (Value.cells (.int .i64 0)) (grownCap w n 0 3 - n)) (grownCap w n 0 3) (Nat.le_refl _) hle (by
      simp only [Array.size_append, size_zeroCells]
      have : (Value.cells (.int .i64 0)).size = 1 := rfl
      rw [this]; omega)
    have hd := hle
    unfold maxLen at hd
    obtain ⟨G, hG⟩ : ∃ G, G = grownCap w n 0 3 := ⟨_, rfl⟩
    rw [← hG] at hr hge hown hd
    have HO := Lib.hid hown
    have hpos : (n : Int) > 0 := by omega
    have hneg : ¬ ((n : Int) < 0) := by omega
    clear hG hown hle hz0 hz1 hz2 hi
    go_enter Tryz.func96, Tryz.ntmps96
    go_wp2_with (at_builtin; refine Lib.wpList_append_run _ rfl _ _ _ _ rfl _ _ rfl rfl _ _ (hr _) ?_)
    all_goals (go_ret; exact ⟨_, rfl, HO.out, ((Below.refl _ _).drew).alloc (Nat.le_refl _) _⟩)

set_option maxRecDepth 100000 in
set_option maxHeartbeats 1000000 in
theorem concat_two (b : Nat) (u v : Value) (xs ys : List Int) (w : World) (h0 : w.cell? ⟨b, 0, none⟩ = some u) (h1 : w.cell? ⟨b, 1, none⟩ = some v)
    (hu : ArgInts w u xs) (hv : ArgInts w v ys) (hlx : xs.length ≤ 400000000) (hly : ys.length ≤ 400000000) :
    Calls Tryz.prog 37 #[.slice (some ⟨b, 0, none⟩) 2 2] w fun e w' => ∃ r, e = .returned r ∧ w'.ownsRow w.heap.size 3 1 r (xs ++ ys).length (ints (xs ++ ys)) ∧ Below w.heap.size w w' := by
  have HU := Lib.hid hu
  have HV := Lib.hid hv
  obtain ⟨A, ca, rfl, _⟩ := hu.at
  obtain ⟨C, cb, rfl, _⟩ := hv.at
  have H0 := Lib.hid h0
  have H1 := Lib.hid h1
  obtain ⟨N, hN⟩ : ∃ N : Nat, N = xs.length + ys.length := ⟨_, rfl⟩
  have HN := Lib.hid hN
  have hNl : N ≤ 800000000 := by omega
  clear hu hv hN
  go_enter Tryz.func37, Tryz.ntmps37
  go_wp2_with fail
  go_loopw [3, 11] (fun s i wr => ((s = .int .i64 0 ∧ i = .int .i64 0) ∨ (s = .int .i64 xs.length ∧ i = .int .i64 1) ∨ (s = .int .i64 N ∧ i = .int .i64 2)) ∧ w = wr)
    (fun _ i _ => 2 - (intOf i).toNat)
  case atStart => exact ⟨.inl ⟨rfl, rfl⟩, rfl⟩
  case round =>
    obtain ⟨⟨rfl, rfl⟩ | ⟨rfl, rfl⟩ | ⟨rfl, rfl⟩, rfl⟩ := hrel
    · go_wp2_with fail
      go_roundw
      case rel => exact ⟨.inr (.inl ⟨rfl, rfl⟩), trivial⟩
      case measure => simp [intOf]
    · have hneg : ¬ ((N : Int) < 0) := by omega
      have hNI : (xs.length : Int) + (ys.length : Int) = N := by have := HN.out; omega
      go_wp2_with fail
      go_roundw
      case rel => exact ⟨.inr (.inr ⟨rfl, rfl⟩), trivial⟩
      case measure => simp [intOf]
    · go_wp2_with fail
      refine Calls.mono (grow_nil _ _ (by omega)) ?_
      rintro e w1 ⟨r, rfl, hown, hb1⟩
      dsimp only
      have HO := Lib.hid hown
      clear hown h0 h1
      go_wp2_with fail
      go_loopw [6, 27] (fun r i wr => ((i = .int .i64 0 ∧ wr.ownsRow w.heap.size 3 1 r ([] : List Int).length (ints [])) ∨ (i = .int .i64 1 ∧ wr.ownsRow w.heap.size 3 1 r xs.length (ints xs)) ∨ (i = .int .i64 2 ∧ wr.ownsRow w.heap.size 3 1 r (xs ++ ys).length (ints (xs ++ ys)))) ∧ Below w.heap.size w wr)
        (fun _ i _ => 2 - (intOf i).toNat)
      case atStart => exact ⟨.inl ⟨rfl, HO.out⟩, hb1⟩
      case round =>
        obtain ⟨⟨rfl, hown⟩ | ⟨rfl, hown⟩ | ⟨rfl, hown⟩, hbel⟩ := hrel
        · have hc := (hbel.cell (at_lt H0.out)).trans H0.out
          have HW := Lib.hid hown
          clear hown HO
          go_wp2_with (at_builtin; refine wpList_append_args rfl (.tmp 31) (.tmp 32) rfl w.heap.size _ [] rfl HW.out _ xs rfl (HU.out.below hbel) (by simp <;> omega) hbel.size ?_; intro r2 w2 hown2 hb2)
          go_roundw
          case rel => exact ⟨.inr (.inl ⟨rfl, hown2⟩), hbel.trans hb2⟩
          case measure => simp [intOf]
        · have hc := (hbel.cell (at_lt H1.out)).trans H1.out
          have HW := Lib.hid hown
          clear hown HO
          go_wp2_with (at_builtin; refine wpList_append_args rfl (.tmp 31) (.tmp 32) rfl w.heap.size _ xs rfl HW.out _ ys rfl (HV.out.below hbel) (by omega) hbel.size ?_; intro r2 w2 hown2 hb2)
          go_roundw
          case rel => exact ⟨.inr (.inr ⟨rfl, hown2⟩), hbel.trans hb2⟩
          case measure => simp [intOf]
        · have HW := Lib.hid hown
          clear hown HO
          go_wp2_with fail
          go_ret
          exact ⟨_, rfl, HW.out, hbel⟩
end Go.Proofs.YtaadhehcoegmhaaGreatDoor
