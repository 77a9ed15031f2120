/- substring of finite numbers. -/
import Derived.Test.YtaadhehcoegmhaaGreatDoorA14
import Derived.Test.YtaadhehcoegmhaaGreatDoorA10
import Derived.Test.YtaadhehcoegmhaaGreatDoorA11
namespace Go.Proofs.YtaadhehcoegmhaaGreatDoor
open Go Go.RowKit

theorem builderAt_on {B b : Nat} {p : Value} {bs : List Value} {w w' : World} (h : Lib.BuilderAtF 191 5 B b p bs w) (hb : Below w.heap.size w w') : Lib.BuilderAtF 191 5 B b p bs w' :=
  ⟨h.1, by
    obtain ⟨v, hv, ho, hn⟩ := h.2
    refine ⟨v, (hb.block b h.lt).trans hv, ho.kept (row := none) ⟨hb.os, hb.tape, hb.output, hb.size, fun k hk _ => hb.block k hk⟩ ?_, hn⟩
    exact Classical.em _⟩
theorem builder_on {B b : Nat} {bs : List Value} {w w' : World} (h : Lib.IsBuilderF 191 5 B b bs w) (hb : Below w.heap.size w w') : Lib.IsBuilderF 191 5 B b bs w' := by
  rcases h with h | h
  · exact .inl (builderAt_on h hb)
  · exact .inr (builderAt_on h hb)

/-- A number rounded. -/
def rnd (v : Int) : Int := v + 500000 - (v + 500000) % 1000000

/-- Whether the character at k is within. -/
def within (f tt : Int) (k : Nat) : Bool := decide (cmpI (((k : Int) + 1) * 1000000) f ≥ 0) && decide (cmpI (((k : Int) + 1) * 1000000) tt < 0)

/-- The characters within of the first k. -/
def subTo (f tt : Int) (s : List UInt8) : Nat → List UInt8
  | 0 => []
  | k + 1 => subTo f tt s k ++ (if within f tt k then s[k]?.toList else [])

theorem subTo_length (f tt : Int) (s : List UInt8) (k : Nat) : (subTo f tt s k).length ≤ k := by
  induction k with
  | zero => simp [subTo]
  | succ k ih =>
    simp only [subTo, List.length_append]
    split
    · cases s[k]? <;> simp <;> omega
    · simp; omega

/-- What stands between two rounds. -/
structure SubRel (B b3 b4 : Nat) (w0 w : World) (t sl v13 : Value) (xs : List GV) (f tt : Int) (s : List UInt8) (k : Nat) : Prop where
  le : k ≤ s.length
  bld : Lib.IsBuilderF 191 5 B b4 (Lib.byteCells (subTo f tt s k)) w
  strs : Strs w v13 s
  box : w.heap[B]? = some (.cells #[t, sl] 88 (0, 0))
  from_ : w.heap[b3]? = some (.cells #[.int .i64 0, .int .i64 f] 29 (0, 0))
  bel : Below B w0 w
  has : Has sl xs w

theorem ceil_go (v : Int) (w : World) (h0 : 0 ≤ v) (h1 : v ≤ 100000000000) :
    Calls Tryz.prog 66 #[fin v] w fun e w' => e = .returned (fin (rnd v)) ∧ Below w.heap.size w w' := round_fin v w h0 h1

theorem two0 {w : World} {b : Nat} {x y : Value} {T : TypeId} {fz : Nat × Nat} (h : w.heap[b]? = some (.cells #[x, y] T fz)) : w.cell? ⟨b, 0, none⟩ = some x := Lib.cell_of_heap h 0
theorem two1 {w : World} {b : Nat} {x y : Value} {T : TypeId} {fz : Nat × Nat} (h : w.heap[b]? = some (.cells #[x, y] T fz)) : w.cell? ⟨b, 1, none⟩ = some y := Lib.cell_of_heap h 1

/-- A new block whose cells are stored at once. -/
theorem put_new (w : World) (zs cs : Array Value) (T : TypeId) : Below w.heap.size w ((w.alloc (.cells zs T)).setRow w.heap.size cs) ∧ ((w.alloc (.cells zs T)).setRow w.heap.size cs).heap[w.heap.size]? = some (.cells cs T (0, 0)) ∧ ((w.alloc (.cells zs T)).setRow w.heap.size cs).heap.size = w.heap.size + 1 :=
  ⟨below_setRow ((Below.refl _ _).alloc (Nat.le_refl _) _) (Nat.le_refl _), setRow_heap _ _ zs cs T (0, 0) (heap_alloc_new w _), by simp [World.setRow]⟩

/-- Six cells and the arguments are held. -/
theorem held6 {sl : Value} {xs : List GV} {w0 w1 w2 : World} {a1 a2 a3 a4 a5 a6 : Addr} {v1 v2 v3 v4 v5 v6 : Value} (hb : Below w1.heap.size w1 w2)
    (h : w1.cell? a1 = some v1 ∧ w1.cell? a2 = some v2 ∧ w1.cell? a3 = some v3 ∧ w1.cell? a4 = some v4 ∧ w1.cell? a5 = some v5 ∧ w1.cell? a6 = some v6 ∧ Has sl xs w1 ∧ Below w0.heap.size w0 w1) :
    w2.cell? a1 = some v1 ∧ w2.cell? a2 = some v2 ∧ w2.cell? a3 = some v3 ∧ w2.cell? a4 = some v4 ∧ w2.cell? a5 = some v5 ∧ w2.cell? a6 = some v6 ∧ Has sl xs w2 ∧ Below w0.heap.size w0 w2 := by
  obtain ⟨h1, h2, h3, h4, h5, h6, h7, h8⟩ := h
  exact ⟨(hb.cell (World.block_lt_of_cell? w1 _ h1)).trans h1, (hb.cell (World.block_lt_of_cell? w1 _ h2)).trans h2, (hb.cell (World.block_lt_of_cell? w1 _ h3)).trans h3,
    (hb.cell (World.block_lt_of_cell? w1 _ h4)).trans h4, (hb.cell (World.block_lt_of_cell? w1 _ h5)).trans h5, (hb.cell (World.block_lt_of_cell? w1 _ h6)).trans h6, h7.below hb, below_then h8 h8.size hb⟩

theorem SubRel.on {B b3 b4 : Nat} {w0 w w' : World} {t sl v13 : Value} {xs : List GV} {f tt : Int} {s : List UInt8} {k : Nat} (h : SubRel B b3 b4 w0 w t sl v13 xs f tt s k) (hb : Below w.heap.size w w') (hB : B ≤ w.heap.size) :
    SubRel B b3 b4 w0 w' t sl v13 xs f tt s k :=
  ⟨h.le, builder_on h.bld hb, h.strs.below hb, (hb.block _ (Array.getElem?_eq_some_iff.1 h.box).1).trans h.box, (hb.block _ (Array.getElem?_eq_some_iff.1 h.from_).1).trans h.from_, below_then h.bel hB hb, h.has.below hb⟩

theorem SubRel.next {B b3 b4 : Nat} {w0 w : World} {t sl v13 : Value} {xs : List GV} {f tt : Int} {s : List UInt8} {k : Nat} (h : SubRel B b3 b4 w0 w t sl v13 xs f tt s k) (hk : k + 1 ≤ s.length)
    (hb : Lib.IsBuilderF 191 5 B b4 (Lib.byteCells (subTo f tt s (k + 1))) w) : SubRel B b3 b4 w0 w t sl v13 xs f tt s (k + 1) :=
  ⟨hk, hb, h.strs, h.box, h.from_, h.bel, h.has⟩

theorem others_two {w w' : World} {B b g : Nat} {bs : List Value} {x y : Value} {T : TypeId} {fz : Nat × Nat} (hT : T ≠ 5) (hT' : T ≠ 191) (h : w.heap[g]? = some (.cells #[x, y] T fz)) (hb : Lib.IsBuilderF 191 5 B b bs w) (ho : Lib.OthersKept 5 (some b) w w') :
    w'.heap[g]? = some (.cells #[x, y] T fz) := by
  refine ho g _ h ?_ ?_
  · intro e
    have e' : g = b := by simpa using e
    subst e'
    rcases hb with ⟨_, v, hv, _⟩ | ⟨_, v, hv, _⟩ <;> rw [hv] at h <;> simp at h <;> exact hT' h.2.1.symm
  · intro c fz' e
    simp at e
    exact hT e.2.1

set_option linter.unusedSimpArgs false in
set_option maxRecDepth 100000 in
set_option maxHeartbeats 4000000 in
theorem substring_any (t : Option Addr) (A : Option Addr) (cap : Nat) (s : List UInt8) (a b : Int) (w : World) (hs : ascii s) (ha : 0 ≤ a) (ha1 : a ≤ 1000000000) (hb0 : 0 ≤ b) (hb1 : b ≤ 1000000000)
    (h : Has (.slice A 3 cap) [.text ⟨s.toArray⟩, .num 0 a, .num 0 b] w) :
    Calls Tryz.prog 90 #[.agg #[.pointer t, .slice A 3 cap]] w fun e w' => e = .returned (.string ⟨(subTo (rnd a) (rnd a + rnd b) s s.length).toArray⟩) ∧ Below w.heap.size w w' := by
  have hr : ∀ v : Int, 0 ≤ v → v ≤ 1000000000 → 0 ≤ rnd v ∧ rnd v ≤ 10000000000 := fun v h0 h1 => by unfold rnd; omega
  obtain ⟨r, hrE⟩ : ∃ r, r = rnd a := ⟨_, rfl⟩
  obtain ⟨q, hqE⟩ : ∃ q, q = rnd b := ⟨_, rfl⟩
  have hr1 := hr a ha ha1
  have hq1 := hr b hb0 hb1
  have hRa : ∀ w : World, Calls Tryz.prog 66 #[fin a] w fun e w' => e = .returned (fin r) ∧ Below w.heap.size w w' := fun w => hrE ▸ round_fin a w ha (by omega)
  have hRb : ∀ w : World, Calls Tryz.prog 66 #[fin b] w fun e w' => e = .returned (fin q) ∧ Below w.heap.size w w' := fun w => hqE ▸ round_fin b w hb0 (by omega)
  rw [← hrE, ← hqE]
  rw [← hrE] at hr1
  rw [← hqE] at hq1
  clear hr hrE hqE
  go_enter Tryz.func90, Tryz.ntmps90
  go_wp2_with fail
  refine Calls.mono (num_any _ _ [.text ⟨s.toArray⟩, .num 0 a, .num 0 b] 1 0 a _ (h.alloc _).1 rfl) ?_
  rintro e w1 ⟨rfl, hb1⟩
  dsimp only
  go_wp2_with fail
  refine Calls.mono (hRa _) ?_
  rintro e w2 ⟨rfl, hb2⟩
  dsimp only
  have hg := heap_alloc_new w2 (.cells #[.int .i64 0, .int .i64 0] 29)
  have hz1 := hb1.size
  have hz2 := hb2.size
  simp at hz1
  have hbox2 : w2.heap[w.heap.size]? = some (.cells #[.pointer t, .slice A 3 cap] 88 (0, 0)) := (hb2.block _ (by omega)).trans ((hb1.block _ (by simp)).trans (heap_alloc_new w _))
  have hbel2 : Below w.heap.size w w2 := below_then (below_then ((Below.refl _ _).alloc (Nat.le_refl _) _) (by simp) hb1) (by omega) hb2
  obtain ⟨hp1, hp2, hp3⟩ := put_new w2 #[.int .i64 0, .int .i64 0] #[.int .i64 0, .int .i64 r] 29
  have hbox3 := (hp1.block _ (by omega)).trans hbox2
  have hbel3 := below_then hbel2 (by omega) hp1
  have hd0 := cell_alloc (two0 hbox3) (.cells #[.pointer none, .slice none 0 0] 191)
  have hd1 := cell_alloc (two1 hbox3) (.cells #[.pointer none, .slice none 0 0] 191)
  go_wp2_with (refine wpList_store_row rfl 29 (.tmp 3) (.tmp 10) rfl (w2.heap.size) #[.int .i64 0, .int .i64 r] rfl rfl 29 _ hg (by kernel_rfl) rfl (by simp [Value.oneCell']) ?_)
  have hbel4 := hbel3.alloc (by omega) (.cells #[.pointer none, .slice none 0 0] 191)
  refine Calls.mono (Has.str (xs := [.text ⟨s.toArray⟩, .num 0 a, .num 0 b]) _ 0 _ rfl (h.below hbel4)) ?_
  rintro e w5 ⟨rfl, hb5⟩
  dsimp only
  go_wp2_with fail
  refine Calls.mono (chars_strs s hs.1 hs.2 _) ?_
  rintro e w6 ⟨A6, cap6, rfl, hst, hb6⟩
  dsimp only
  have hz5 := hb5.size
  have hz6 := hb6.size
  simp [hp3] at hz5
  have hb46 := below_then hb5 (by simp [hp3]; omega) hb6
  have hbox6 := (hb46.block w.heap.size (by simp [hp3]; omega)).trans ((Below.heap_alloc _ _ _ (by simp [hp3]; omega)).trans hbox3)
  have hfrom6 := (hb46.block w2.heap.size (by simp [hp3]; omega)).trans ((Below.heap_alloc _ _ _ (by simp [hp3])).trans hp2)
  have hbld6 := (hb46.block (w2.heap.size + 1) (by simp [hp3])).trans ((congrArg _ hp3.symm).trans (heap_alloc_new _ _))
  have hbel6 := below_then hbel4 (by simp [hp3]; omega) hb46
  have hrel0 : SubRel w.heap.size w2.heap.size (w2.heap.size + 1) w w6 (.pointer t) (.slice A 3 cap) (.slice A6 s.length cap6) [.text ⟨s.toArray⟩, .num 0 a, .num 0 b] r (r + q) s 0 :=
    ⟨by omega, by simpa [Lib.byteCells, subTo] using builder_new (by omega) hbld6, hst, hbox6, hfrom6, hbel6, h.below hbel6⟩
  clear hb46 hbox6 hfrom6 hbld6 hbel6 hst hd0 hd1 hbel4 hb5 hb6 hp1 hp2 hp3 hbox3 hbel3 hbox2 hbel2 hg
  have hh0 := h
  clear h
  have hlen := hs.2
  go_wp2_with fail
  go_loopw [15] (fun v wr => ∃ k : Nat, v = .int .i64 k ∧ SubRel w.heap.size w2.heap.size (w2.heap.size + 1) w wr (.pointer t) (.slice A 3 cap) (.slice A6 s.length cap6) [.text ⟨s.toArray⟩, .num 0 a, .num 0 b] r (r + q) s k)
    (fun i _ => s.length - (intOf i).toNat)
  case atStart => exact ⟨0, rfl, hrel0⟩
  case round =>
    obtain ⟨k, rfl, hR⟩ := hrel
    clear hrel0
    have hk := hR.le
    by_cases hlt : k < s.length
    · obtain ⟨c, hc⟩ : ∃ c, s[k]? = some c := ⟨s[k], by simp [hlt]⟩
      obtain ⟨g, rfl, hcell⟩ := Strs.cell hR.strs hc
      have HC := Lib.hid hc
      clear hc
      go_wp2_with fail
      refine Calls.mono (int_any ((k : Int) + 1) _ (by omega) (by omega)) ?_
      rintro e w7 ⟨rfl, hb7⟩
      dsimp only
      have hR7 := hR.on hb7 hR.bel.size
      clear hb7 hcell
      obtain ⟨at_, hat⟩ : ∃ x, x = ((k : Int) + 1) * 1000000 := ⟨_, rfl⟩
      rw [← hat]
      obtain ⟨x, hx⟩ : ∃ x, x = decide (cmpI at_ r ≥ 0) := ⟨_, rfl⟩
      obtain ⟨y, hy⟩ : ∃ y, y = decide (cmpI at_ (r + q) < 0) := ⟨_, rfl⟩
      have hH1 : ∀ w : World, Calls Tryz.prog 137 #[.int .i64 8, fin at_, fin r] w fun e w' => e = .returned (.bool x) ∧ Below w.heap.size w w' := fun w => holds_fin 8 at_ r x (by rw [hx]; rfl) w
      have hH2 : ∀ w : World, Calls Tryz.prog 137 #[.int .i64 5, fin at_, fin (r + q)] w fun e w' => e = .returned (.bool y) ∧ Below w.heap.size w w' := fun w => holds_fin 5 at_ (r + q) y (by rw [hy]; rfl) w
      have hwi : within r (r + q) k = (x && y) := by rw [hx, hy, hat]; rfl
      have HWI := Lib.hid hwi
      clear hx hy hat hwi
      have hg := heap_alloc_new w7 (.cells #[.int .i64 0, .int .i64 0] 29)
      obtain ⟨hp1, hp2, hp3⟩ := put_new w7 #[.int .i64 0, .int .i64 0] #[.int .i64 0, .int .i64 at_] 29
      have hz7 := hR7.bel.size
      have hR8 := hR7.on hp1 hz7
      have hS0 := held6 (w0 := (w7.alloc (.cells #[.int .i64 0, .int .i64 0] 29)).setRow w7.heap.size #[.int .i64 0, .int .i64 at_]) ((Below.refl _ _).drew) ⟨two0 hp2, two1 hp2, two0 hR8.from_, two1 hR8.from_, two0 hR8.box, two1 hR8.box, hR8.has, Below.refl _ _⟩
      go_wp2_with (refine wpList_store_row rfl 29 (.tmp 7) (.tmp 22) rfl (w7.heap.size) #[.int .i64 0, .int .i64 at_] rfl rfl 29 _ hg (by kernel_rfl) rfl (by simp [Value.oneCell']) ?_)
      cases x
      · refine wp_region_held_drew (S := (fun w' => w'.cell? ⟨w7.heap.size, 0, none⟩ = some (.int .i64 0) ∧ w'.cell? ⟨w7.heap.size, 1, none⟩ = some (.int .i64 at_) ∧ w'.cell? ⟨w2.heap.size, 0, none⟩ = some (.int .i64 0) ∧ w'.cell? ⟨w2.heap.size, 1, none⟩ = some (.int .i64 r) ∧
            w'.cell? ⟨w.heap.size, 0, none⟩ = some (.pointer t) ∧ w'.cell? ⟨w.heap.size, 1, none⟩ = some (.slice A 3 cap) ∧ Has (.slice A 3 cap) [.text ⟨s.toArray⟩, .num 0 a, .num 0 b] w' ∧ Below ((w7.alloc (.cells #[.int .i64 0, .int .i64 0] 29)).setRow w7.heap.size #[.int .i64 0, .int .i64 at_]).heap.size ((w7.alloc (.cells #[.int .i64 0, .int .i64 0] 29)).setRow w7.heap.size #[.int .i64 0, .int .i64 at_]) w')) (by kernel_rfl) hS0 (fun hSd => ?_)
        refine wpAnyH_take (i := 0) (oi := ⟨some 23, _, _, _, _, _⟩) (v := fin at_) rfl (by kernel_rfl) (by kernel_rfl) (by kernel_rfl) (fun _ _ _ h => h) (Or.inl ⟨by rfl, fun w hw => by obtain ⟨g1, g2, g3, g4, g5, g6, g7, g8⟩ := hw; go_simp⟩) (by assumption) ?_
        try simp only [Act.put, List.setIfInBounds_toArray, List.set_cons_zero, List.set_cons_succ]
        refine wpAnyH_take (i := 1) (oi := ⟨some 24, _, _, _, _, _⟩) (v := fin r) rfl (by kernel_rfl) (by kernel_rfl) (by kernel_rfl) (fun _ _ _ h => h) (Or.inl ⟨by rfl, fun w hw => by obtain ⟨g1, g2, g3, g4, g5, g6, g7, g8⟩ := hw; go_simp⟩) (by assumption) ?_
        try simp only [Act.put, List.setIfInBounds_toArray, List.set_cons_zero, List.set_cons_succ]
        refine wpAnyH_ready (rs := [2]) (by kernel_rfl) (by simp) ?_
        refine AllReadyH.cons (o := ⟨some 25, _, _, _, _, _⟩) rfl (fun K hK => ?_) AllReadyH.nil
        go_simp
        refine Calls.mono (hH1 _) ?_
        rintro e w8 ⟨rfl, hb8⟩
        dsimp only
        refine hK.out _ _ (held6 hb8 hSd) (fun hHeld => ?_)
        clear hK K
        try simp only [Act.put, List.setIfInBounds_toArray, List.set_cons_zero, List.set_cons_succ]
        refine wpAnyH_take (i := 3) (oi := ⟨some 26, _, _, _, _, _⟩) (v := .bool false) rfl (by kernel_rfl) (by kernel_rfl) (by kernel_rfl) (fun _ _ _ h => h) (Or.inl ⟨by rfl, fun w hw => by go_simp⟩) (by assumption) ?_
        try simp only [Act.put, List.setIfInBounds_toArray, List.set_cons_zero, List.set_cons_succ]
        refine wpAnyH_take (i := 4) (oi := ⟨some 27, _, _, _, _, _⟩) (v := undef) rfl (by kernel_rfl) (by kernel_rfl) (by kernel_rfl) (fun _ _ _ h => h) (Or.inr ⟨by kernel_rfl, rfl⟩) (by assumption) ?_
        try simp only [Act.put, List.setIfInBounds_toArray, List.set_cons_zero, List.set_cons_succ]
        refine wpAnyH_take (i := 5) (oi := ⟨some 28, _, _, _, _, _⟩) (v := undef) rfl (by kernel_rfl) (by kernel_rfl) (by kernel_rfl) (fun _ _ _ h => h) (Or.inr ⟨by kernel_rfl, rfl⟩) (by assumption) ?_
        try simp only [Act.put, List.setIfInBounds_toArray, List.set_cons_zero, List.set_cons_succ]
        refine wpAnyH_take (i := 6) (oi := ⟨some 29, _, _, _, _, _⟩) (v := undef) rfl (by kernel_rfl) (by kernel_rfl) (by kernel_rfl) (fun _ _ _ h => h) (Or.inr ⟨by kernel_rfl, rfl⟩) (by assumption) ?_
        try simp only [Act.put, List.setIfInBounds_toArray, List.set_cons_zero, List.set_cons_succ]
        refine wpAnyH_take (i := 7) (oi := ⟨some 30, _, _, _, _, _⟩) (v := undef) rfl (by kernel_rfl) (by kernel_rfl) (by kernel_rfl) (fun _ _ _ h => h) (Or.inr ⟨by kernel_rfl, rfl⟩) (by assumption) ?_
        try simp only [Act.put, List.setIfInBounds_toArray, List.set_cons_zero, List.set_cons_succ]
        refine wpAnyH_take (i := 8) (oi := ⟨some 31, _, _, _, _, _⟩) (v := undef) rfl (by kernel_rfl) (by kernel_rfl) (by kernel_rfl) (fun _ _ _ h => h) (Or.inr ⟨by kernel_rfl, rfl⟩) (by assumption) ?_
        try simp only [Act.put, List.setIfInBounds_toArray, List.set_cons_zero, List.set_cons_succ]
        refine wpAnyH_take (i := 9) (oi := ⟨some 32, _, _, _, _, _⟩) (v := undef) rfl (by kernel_rfl) (by kernel_rfl) (by kernel_rfl) (fun _ _ _ h => h) (Or.inr ⟨by kernel_rfl, rfl⟩) (by assumption) ?_
        try simp only [Act.put, List.setIfInBounds_toArray, List.set_cons_zero, List.set_cons_succ]
        refine wpAnyH_take (i := 10) (oi := ⟨some 33, _, _, _, _, _⟩) (v := undef) rfl (by kernel_rfl) (by kernel_rfl) (by kernel_rfl) (fun _ _ _ h => h) (Or.inr ⟨by kernel_rfl, rfl⟩) (by assumption) ?_
        try simp only [Act.put, List.setIfInBounds_toArray, List.set_cons_zero, List.set_cons_succ]
        refine wpAnyH_take (i := 11) (oi := ⟨some 34, _, _, _, _, _⟩) (v := undef) rfl (by kernel_rfl) (by kernel_rfl) (by kernel_rfl) (fun _ _ _ h => h) (Or.inr ⟨by kernel_rfl, rfl⟩) (by assumption) ?_
        try simp only [Act.put, List.setIfInBounds_toArray, List.set_cons_zero, List.set_cons_succ]
        refine wpAnyH_take (i := 12) (oi := ⟨some 35, _, _, _, _, _⟩) (v := undef) rfl (by kernel_rfl) (by kernel_rfl) (by kernel_rfl) (fun _ _ _ h => h) (Or.inr ⟨by kernel_rfl, rfl⟩) (by assumption) ?_
        try simp only [Act.put, List.setIfInBounds_toArray, List.set_cons_zero, List.set_cons_succ]
        refine wpAnyH_take (i := 13) (oi := ⟨some 36, _, _, _, _, _⟩) (v := undef) rfl (by kernel_rfl) (by kernel_rfl) (by kernel_rfl) (fun _ _ _ h => h) (Or.inr ⟨by kernel_rfl, rfl⟩) (by assumption) ?_
        try simp only [Act.put, List.setIfInBounds_toArray, List.set_cons_zero, List.set_cons_succ]
        refine wpAnyH_take (i := 14) (oi := ⟨some 37, _, _, _, _, _⟩) (v := undef) rfl (by kernel_rfl) (by kernel_rfl) (by kernel_rfl) (fun _ _ _ h => h) (Or.inr ⟨by kernel_rfl, rfl⟩) (by assumption) ?_
        try simp only [Act.put, List.setIfInBounds_toArray, List.set_cons_zero, List.set_cons_succ]
        refine wpAnyH_take (i := 15) (oi := ⟨some 38, _, _, _, _, _⟩) (v := undef) rfl (by kernel_rfl) (by kernel_rfl) (by kernel_rfl) (fun _ _ _ h => h) (Or.inr ⟨by kernel_rfl, rfl⟩) (by assumption) ?_
        try simp only [Act.put, List.setIfInBounds_toArray, List.set_cons_zero, List.set_cons_succ]
        refine wpAnyH_take (i := 16) (oi := ⟨some 39, _, _, _, _, _⟩) (v := undef) rfl (by kernel_rfl) (by kernel_rfl) (by kernel_rfl) (fun _ _ _ h => h) (Or.inr ⟨by kernel_rfl, rfl⟩) (by assumption) ?_
        try simp only [Act.put, List.setIfInBounds_toArray, List.set_cons_zero, List.set_cons_succ]
        refine wpAnyH_take (i := 17) (oi := ⟨some 40, _, _, _, _, _⟩) (v := .bool false) rfl (by kernel_rfl) (by kernel_rfl) (by kernel_rfl) (fun _ _ _ h => h) (Or.inl ⟨by rfl, fun w hw => by go_simp⟩) (by assumption) ?_
        try simp only [Act.put, List.setIfInBounds_toArray, List.set_cons_zero, List.set_cons_succ]
        refine wpAnyH_done (by kernel_rfl) ?_ _
        have hR9 := hR8.on hHeld.2.2.2.2.2.2.2 (by omega)
        go_wp2_with fail
        go_roundw
        case rel => exact ⟨k + 1, by go_num, hR9.next (by omega) (by simpa [subTo, HWI.out] using hR9.bld)⟩
        case measure => simp [intOf]; omega
      · go_region_held3 (fun w' => w'.cell? ⟨w7.heap.size, 0, none⟩ = some (.int .i64 0) ∧ w'.cell? ⟨w7.heap.size, 1, none⟩ = some (.int .i64 at_) ∧ w'.cell? ⟨w2.heap.size, 0, none⟩ = some (.int .i64 0) ∧ w'.cell? ⟨w2.heap.size, 1, none⟩ = some (.int .i64 r) ∧
            w'.cell? ⟨w.heap.size, 0, none⟩ = some (.pointer t) ∧ w'.cell? ⟨w.heap.size, 1, none⟩ = some (.slice A 3 cap) ∧ Has (.slice A 3 cap) [.text ⟨s.toArray⟩, .num 0 a, .num 0 b] w' ∧ Below ((w7.alloc (.cells #[.int .i64 0, .int .i64 0] 29)).setRow w7.heap.size #[.int .i64 0, .int .i64 at_]).heap.size ((w7.alloc (.cells #[.int .i64 0, .int .i64 0] 29)).setRow w7.heap.size #[.int .i64 0, .int .i64 at_]) w')
          (first | exact hS0 | exact held6 ‹_› ‹_›)
          (first
            | (go_at_call_of 137 (Value.int IntKind.i64 8); refine Calls.mono (hH1 _) ?_; rintro e w8 ⟨rfl, hb8⟩)
            | (go_at_call 60; refine Calls.mono (num_any _ _ [.text ⟨s.toArray⟩, .num 0 a, .num 0 b] 2 0 b _ ?_ rfl) ?_; exact (‹_ ∧ _ ∧ _ ∧ _ ∧ _ ∧ _ ∧ Has _ _ _ ∧ _›).2.2.2.2.2.2.1.1; rintro e w9 ⟨rfl, hb9⟩)
            | (go_at_call 66; refine Calls.mono (hRb _) ?_; rintro e w10 ⟨rfl, hb10⟩)
            | (go_at_call 118; refine Calls.mono (add_fin r q _ hr1.1 hr1.2 hq1.1 hq1.2) ?_; rintro e w11 ⟨rfl, hb11⟩)
            | (go_at_call_of 137 (Value.int IntKind.i64 5); refine Calls.mono (hH2 _) ?_; rintro e w12 ⟨rfl, hb12⟩))
        rename_i hLast
        have hR9 := hR8.on hLast.2.2.2.2.2.2.2 (by omega)
        cases y
        · go_wp2_with fail
          go_roundw
          case rel => exact ⟨k + 1, by go_num, hR9.next (by omega) (by simpa [subTo, HWI.out] using hR9.bld)⟩
          case measure => simp [intOf]; omega
        · go_wp2_with fail
          have hl := subTo_length r (r + q) s k
          refine Calls.mono (writeString_k _ _ _ ⟨#[c]⟩ _ hR9.bld (by simp [Lib.byteCells_length, ByteArray.size]; omega) (by have := hR9.bel.size; omega)) ?_
          rintro e w13 ⟨rfl, hbld13, hb13, ho13⟩
          dsimp only
          have hbx := others_two (T := 88) (by decide) (by decide) hR9.box hR9.bld ho13
          have hfx := others_two (T := 29) (by decide) (by decide) hR9.from_ hR9.bld ho13
          have hsx := hR9.strs.others hR9.bld ho13
          have hbe := hR9.bel.trans hb13
          have hha := hh0.below hbe
          clear hR9 hR8 hR7 hR hb13 ho13 hH1 hH2 hRa hRb hh0
          go_wp2_with fail
          go_roundw
          case rel => exact ⟨k + 1, by go_num, ⟨by omega, by simpa [subTo, HWI.out, HC.out, Lib.byteCells_append, Lib.strCells_eq] using hbld13, hsx, hbx, hfx, hbe, hha⟩⟩
          case measure => simp [intOf]; omega
    · obtain rfl : k = s.length := by omega
      go_wp2_with fail
      refine Calls.mono (Tryz.Builder_String_any_k _ _ _ _ hR.bld (by have := hR.bel.size; omega)) ?_
      rintro e w7 ⟨rfl, _, hb7, _⟩
      dsimp only
      go_wp2_with fail
      go_ret
      exact ⟨rfl, hR.bel.trans hb7⟩
end Go.Proofs.YtaadhehcoegmhaaGreatDoor
