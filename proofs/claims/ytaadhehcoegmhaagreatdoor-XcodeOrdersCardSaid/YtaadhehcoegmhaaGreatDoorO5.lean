/- Parse at one leaf. -/
import Derived.Test.YtaadhehcoegmhaaGreatDoorO4
import Derived.DeepKeys
import Derived.Maps.RangeRun
import Derived.ChangeMaps5
import Derived.RangeFuncNested
import Derived.RangeFuncBound
import Derived.RangeFuncCalls
import Derived.RangeFuncLeaves
import Derived.RangeFuncWrites
import Derived.Shelf.Abstract
import Derived.Shelf.RegionOpen
import Derived.WalkKit
import Derived.OwnWalkIn
import Derived.TacticsInMore
import Derived.LoopNIn
import Derived.LoopIn
namespace Go.Proofs.YtaadhehcoegmhaaGreatDoor
open Go Go.RowKit

theorem LexIs.mono {B B' : Nat} {w : World} {v : Value} {ts : List Lx} (h : LexIs B w v ts) (hB : B ≤ B') : LexIs B' w v ts := by
  obtain ⟨A, cap, h1, h2, h3⟩ := h
  refine ⟨A, cap, h1, h2, fun hne => ?_⟩
  obtain ⟨b, off, h4, h5, h6⟩ := h3 hne
  exact ⟨b, off, h4, Nat.lt_of_lt_of_le h5 hB, h6⟩

set_option maxRecDepth 100000 in
set_option maxHeartbeats 4000000 in
theorem parse_leaf (t : Tok) (ht : t.ok) (op k v : Int) (x : List UInt8) (ex : Ex) (htk : (lxOf t 0).kind ≠ 8) (hex : ∀ lo w, ExIs lo w ex [.int .i64 op, .string (bs x), .int .i64 k, .int .i64 v, .int .i64 0, .int .i64 0, .slice none 0 0] )
    (hinv : ∀ lo w cs, ExIs lo w ex cs → cs = [.int .i64 op, .string (bs x), .int .i64 k, .int .i64 v, .int .i64 0, .int .i64 0, .slice none 0 0])
    (hprim : ∀ B p, LeafAt 330 (.tuple #[.agg (leaf7 op x k v), .bool true]) B p (lxOf t 0) []) (w : World) (hE : Env w) :
    Calls Tryz.prog 104 #[.string (bs t.bytes)] w fun e w' => e = .returned (.tuple #[.agg (leaf7 op x k v), .int .i64 0]) ∧ Below w.heap.size w w' := by
  have hg0 := heap_alloc_new w (.cells zero155 155)
  have hb0 : Below w.heap.size w (w.alloc (.cells zero155 155)) := (Below.refl _ _).alloc (Nat.le_refl _) _
  have hscan := fun w => scan_any [t] (fun u hu => by simp at hu; rw [hu]; exact ht) (by simp) w
  have HSC := Lib.hid hscan
  have HPR := Lib.hid hprim
  have HEX := Lib.hid hex
  have HIN := Lib.hid hinv
  clear hscan hprim hex hinv
  go_enter Tryz.func104, Tryz.ntmps104
  go_wp2_with fail
  refine Calls.mono (HSC.out _) ?_
  rintro e w1 ⟨lex, rfl, hown, hb1⟩
  dsimp only
  have hlex : LexIs w1.heap.size w1 lex (lexFrom 0 [t]) := lexIs_of_own hown (Nat.le_refl _)
  have hlex0 := hlex
  obtain ⟨A0, cap0, rfl, hcap0, hcl⟩ := hlex0
  have hb01 := below_then hb0 hb0.size hb1
  have hg1 := (hb1.block w.heap.size (by simp)).trans hg0
  have hpar : Par (w1.heap.size + 1) w1.heap.size [lxOf t 0] (w1.alloc (.cells #[.slice A0 (lexFrom 0 [t]).length cap0, .int .i64 0, .int .i64 0] 227)) :=
    ⟨⟨_, heap_alloc_new w1 _, (hlex.kept (fun k hk => heap_alloc_old w1 _ hk)).mono (Nat.le_succ _)⟩, by omega, by simp, (hE.below hb01).low, (hE.below hb01).below ((Below.refl _ _).alloc (Nat.le_refl _) _)⟩
  have HPAR := Lib.hid hpar
  have hbA : Below w1.heap.size w1 (w1.alloc (.cells #[.slice A0 (lexFrom 0 [t]).length cap0, .int .i64 0, .int .i64 0] 227)) := (Below.refl _ _).alloc (Nat.le_refl _) _
  clear hpar hown hcl hlex
  go_wp2_with fail
  refine Calls.mono (whole_any (w1.heap.size + 1) w1.heap.size [lxOf t 0] ex (expr_alone _ _ _ ex (expr_leaf _ _ (lxOf t 0) [] op k v x ex (.inl rfl) htk HEX.out (HPR.out _ _))) _ HPAR.out) ?_
  rintro e w2 ⟨op', x', k', v', A', n', cap', rfl, he, hP2, hgr2⟩
  have hcs := HIN.out _ _ _ he
  simp only [List.cons.injEq, Value.int.injEq, true_and, Value.string.injEq, Value.slice.injEq, and_true] at hcs
  obtain ⟨rfl, hxx, rfl, rfl, rfl, rfl, rfl⟩ := hcs
  obtain rfl := bs_inj hxx
  dsimp only
  have hs2 := hgr2.size
  simp at hs2
  have hs1 := hb1.size
  simp at hs1
  have hg2 := (hgr2.block w.heap.size (by simp; omega) (by intro e; have := Option.some.inj e; omega)).trans ((hbA.block w.heap.size (by omega)).trans hg1)
  have hbw2 : Below w.heap.size w w2 := (hb01.trans ((hbA.mono hb01.size))).trans ⟨hgr2.os, hgr2.tape, hgr2.output, hgr2.size, fun i hi => hgr2.block i (by simp; omega) (by intro e; have := Option.some.inj e; omega)⟩
  obtain ⟨hp1, hp2, hp3⟩ := put_new w2 zero155 (leaf7 op' x' k' v') 155
  have HGA := Lib.hid (heap_alloc_new w2 (.cells zero155 155))
  obtain ⟨W, hW⟩ : ∃ W, W = (w2.alloc (.cells zero155 155)).setRow w2.heap.size (leaf7 op' x' k' v') := ⟨_, rfl⟩
  rw [← hW] at hp1 hp2 hp3
  have HW := Lib.hid hW
  have hbw := below_then hbw2 hbw2.size hp1
  have hgW := (hp1.block _ (by omega)).trans hg2
  obtain ⟨⟨lexW, hrowW, _⟩, _, _⟩ := hP2.below hp1
  have m2 : W.cell? ⟨w1.heap.size, 2, none⟩ = some (.int .i64 0) := by rw [Lib.cell_of_heap hrowW]; rfl
  have r0 : W.cell? ⟨w2.heap.size, 0, none⟩ = some (.int .i64 op') := by rw [Lib.cell_of_heap hp2]; rfl
  have r1 : W.cell? ⟨w2.heap.size, 1, none⟩ = some (.string (bs x')) := by rw [Lib.cell_of_heap hp2]; rfl
  have r2 : W.cell? ⟨w2.heap.size, 2, none⟩ = some (.int .i64 k') := by rw [Lib.cell_of_heap hp2]; rfl
  have r3 : W.cell? ⟨w2.heap.size, 3, none⟩ = some (.int .i64 v') := by rw [Lib.cell_of_heap hp2]; rfl
  have r4 : W.cell? ⟨w2.heap.size, 4, none⟩ = some (.int .i64 0) := by rw [Lib.cell_of_heap hp2]; rfl
  have r5 : W.cell? ⟨w2.heap.size, 5, none⟩ = some (.int .i64 0) := by rw [Lib.cell_of_heap hp2]; rfl
  have r6 : W.cell? ⟨w2.heap.size, 6, none⟩ = some (.slice none 0 0) := by rw [Lib.cell_of_heap hp2]; rfl
  have HGW := Lib.hid hgW
  have HBW := Lib.hid hbw
  have HQ := Lib.hid hp2
  clear hp1 hp2 hW hg0 hb0 hgW hg1 hg2 hgr2 hb1 hb01 hbA hbw2 hbw hP2 hrowW he
  go_wp2_with (refine wpList_store_row rfl 155 (.tmp 8) (.tmp 27) rfl w2.heap.size (leaf7 op' x' k' v') rfl rfl 155 _ HGA.out (by kernel_rfl) rfl (by simp [Value.oneCell']) ?_; rw [← HW.out])
  refine Calls.mono (deep_leaf op' k' v' x' W) ?_
  rintro e w3 ⟨rfl, hb3⟩
  dsimp only
  have hq3 := (hb3.block _ (Array.getElem?_eq_some_iff.1 HQ.out).1).trans HQ.out
  have s0 : w3.cell? ⟨w2.heap.size, 0, none⟩ = some (.int .i64 op') := by rw [Lib.cell_of_heap hq3]; rfl
  have s1 : w3.cell? ⟨w2.heap.size, 1, none⟩ = some (.string (bs x')) := by rw [Lib.cell_of_heap hq3]; rfl
  have s2 : w3.cell? ⟨w2.heap.size, 2, none⟩ = some (.int .i64 k') := by rw [Lib.cell_of_heap hq3]; rfl
  have s3 : w3.cell? ⟨w2.heap.size, 3, none⟩ = some (.int .i64 v') := by rw [Lib.cell_of_heap hq3]; rfl
  have s4 : w3.cell? ⟨w2.heap.size, 4, none⟩ = some (.int .i64 0) := by rw [Lib.cell_of_heap hq3]; rfl
  have s5 : w3.cell? ⟨w2.heap.size, 5, none⟩ = some (.int .i64 0) := by rw [Lib.cell_of_heap hq3]; rfl
  have s6 : w3.cell? ⟨w2.heap.size, 6, none⟩ = some (.slice none 0 0) := by rw [Lib.cell_of_heap hq3]; rfl
  have hg3 := (hb3.block _ (Array.getElem?_eq_some_iff.1 HGW.out).1).trans HGW.out
  have hbw3 := below_then HBW.out HBW.out.size hb3
  have HG3 := Lib.hid hg3
  have HB3 := Lib.hid hbw3
  have HQ3 := Lib.hid hq3
  clear hb3 hg3 hbw3 hq3 r0 r1 r2 r3 r4 r5 r6 m2
  go_wp2_with fail
  refine Calls.mono (size_leaf op' k' v' 512 x' w3) ?_
  rintro e w4 ⟨rfl, hb4⟩
  dsimp only
  have hq4 := (hb4.block _ (Array.getElem?_eq_some_iff.1 HQ3.out).1).trans HQ3.out
  have t0 : w4.cell? ⟨w2.heap.size, 0, none⟩ = some (.int .i64 op') := by rw [Lib.cell_of_heap hq4]; rfl
  have t1 : w4.cell? ⟨w2.heap.size, 1, none⟩ = some (.string (bs x')) := by rw [Lib.cell_of_heap hq4]; rfl
  have t2 : w4.cell? ⟨w2.heap.size, 2, none⟩ = some (.int .i64 k') := by rw [Lib.cell_of_heap hq4]; rfl
  have t3 : w4.cell? ⟨w2.heap.size, 3, none⟩ = some (.int .i64 v') := by rw [Lib.cell_of_heap hq4]; rfl
  have t4 : w4.cell? ⟨w2.heap.size, 4, none⟩ = some (.int .i64 0) := by rw [Lib.cell_of_heap hq4]; rfl
  have t5 : w4.cell? ⟨w2.heap.size, 5, none⟩ = some (.int .i64 0) := by rw [Lib.cell_of_heap hq4]; rfl
  have t6 : w4.cell? ⟨w2.heap.size, 6, none⟩ = some (.slice none 0 0) := by rw [Lib.cell_of_heap hq4]; rfl
  have hg4 := (hb4.block _ (Array.getElem?_eq_some_iff.1 HG3.out).1).trans HG3.out
  have hbw4 := below_then HB3.out HB3.out.size hb4
  have HG4 := Lib.hid hg4
  have HB4 := Lib.hid hbw4
  clear hb4 hg4 hbw4 hq4 s0 s1 s2 s3 s4 s5 s6
  go_wp2_with (refine wpList_store_row rfl 155 (.tmp 2) (.tmp 50) rfl w.heap.size (leaf7 op' x' k' v') rfl rfl 155 _ HG4.out (by kernel_rfl) rfl (by simp [Value.oneCell']) ?_)
  exact bodyPost_ret (results_cell_tmp Tryz.results104 _ _ (w.heap.size) 155 _ (0, 0) _ rfl (setRow_heap _ _ _ _ 155 _ HG4.out) Tryz.underlying155 rfl (by kernel_rfl)) rfl ⟨rfl, below_setRow HB4.out (Nat.le_refl _)⟩

theorem parse_var (c : UInt8) (h1 : 97 ≤ c.toNat) (h2 : c.toNat ≤ 104) (w : World) (hE : Env w) :
    Calls Tryz.prog 104 #[.string (bs [36, c])] w fun e w' => e = .returned (.tuple #[.agg (leaf7 18 [c] 0 0), .int .i64 0]) ∧ Below w.heap.size w w' :=
  parse_leaf (.var c) ⟨h1, h2⟩ 18 0 0 [c] (.var [c]) (by show (7 : Int) ≠ 8; decide) (fun _ _ => rfl) (fun _ _ _ h => h) (fun B p w h => primary_var B p [c] 0 [] w h (by simp)) w hE
end Go.Proofs.YtaadhehcoegmhaaGreatDoor
/- xeval: add, and the code of a leaf. -/
namespace Go.Proofs.YtaadhehcoegmhaaGreatDoor
open Go Go.RowKit

/-- A code of n instructions, the call's own. -/
structure CodeAt (B c n : Nat) (w : World) : Prop where
  row : ∃ lv xs, w.heap[c]? = some (.cells #[lv] 302 (0, 0)) ∧ w.ownsRow B 358 13 lv n xs
  ge : B ≤ c
theorem CodeAt.below {B c n : Nat} {w w' : World} (h : CodeAt B c n w) (hb : Below w.heap.size w w') : CodeAt B c n w' := by
  obtain ⟨⟨lv, xs, h1, h2⟩, h3⟩ := h
  exact ⟨⟨lv, xs, (hb.block _ (Array.getElem?_eq_some_iff.1 h1).1).trans h1, h2.kept (grown_of_below hb none) (by cases hv : lv.ownBlock <;> simp)⟩, h3⟩

/-- An instruction's cells, where it is one of a leaf. -/
abbrev ins13 (kd vk k v : Int) (x : List UInt8) : Array Value := #[.int .i64 kd, .int .i64 0, .int .i64 0, .int .i64 vk, .slice none 0 0, .int .i64 k, .int .i64 v, .string ⟨#[]⟩, .bool false, .string (bs x), .int .i64 0, .nilFunc, .slice none 0 0]

theorem info358z : (Tryz.prog.info? 358).map (fun i => (i.zero, i.size, i.bytes)) = some (some (.agg (ins13 0 0 0 0 [])), 13, 152) := by kernel_rfl

/-- Blocks of other kinds than codes and their rows stand. -/
def OthersT (w w' : World) : Prop := ∀ (k : Nat) (x : Array Value) (t : TypeId) (fr : Nat × Nat), w.heap[k]? = some (Obj.cells x t fr) → t ≠ 302 → t ≠ 358 → w'.heap[k]? = some (Obj.cells x t fr)
theorem OthersT.trans {a b c : World} (h : OthersT a b) (k : OthersT b c) : OthersT a c := fun i x t fr h1 h2 h3 => k i x t fr (h i x t fr h1 h2 h3) h2 h3
theorem OthersT.of_below {w w' : World} (h : Below w.heap.size w w') : OthersT w w' := fun k _ _ _ h1 _ _ => (h.block k (Array.getElem?_eq_some_iff.1 h1).1).trans h1

set_option maxRecDepth 100000 in
set_option maxHeartbeats 4000000 in
theorem codeAdd_any (B c n : Nat) (kd vk k v : Int) (x : List UInt8) (w : World) (h : CodeAt B c n w) (hn : n ≤ 1000) (hB : B ≤ w.heap.size) :
    Calls Tryz.prog 273 #[.pointer (some ⟨c, 0, none⟩), .agg (ins13 kd vk k v x)] w fun e w' => e = .returned (.int .i64 n) ∧ CodeAt B c (n + 1) w' ∧ Below B w w' ∧ OthersT w w' := by
  obtain ⟨i0, hi, hz0, hz1, hz2⟩ := info_parts info358z
  obtain ⟨⟨lv, xs, hc, hown⟩, hBc⟩ := h
  have hlt : c < w.heap.size := (Array.getElem?_eq_some_iff.1 hc).1
  have hsz := hown.1
  obtain ⟨W0, hW0⟩ : ∃ W0, W0 = w.alloc (.cells (ins13 kd vk k v x) 358) := ⟨_, rfl⟩
  have hc0 : W0.heap[c]? = some (.cells #[lv] 302 (0, 0)) := by rw [hW0]; exact (heap_alloc_old w _ hlt).trans hc
  have hown0 : W0.ownsRow B 358 13 lv n xs := by rw [hW0]; exact hown.alloc _
  have hs0 : W0.heap.size = w.heap.size + 1 := by rw [hW0]; simp
  have hb0 : Below B w W0 := by rw [hW0]; exact (Below.refl _ _).alloc hB _
  have hbox : W0.heap[w.heap.size]? = some (.cells (ins13 kd vk k v x) 358 (0, 0)) := by rw [hW0]; exact heap_alloc_new w _
  have c0 : W0.cell? ⟨c, 0, none⟩ = some lv := by rw [Lib.cell_of_heap hc0]; rfl
  have c0' := cell_alloc c0 (.cells (ins13 kd vk k v x) 358)
  have HC := Lib.hid hc0
  have HO := Lib.hid hown0
  have HW := Lib.hid hW0
  have HB0 := Lib.hid hb0
  have hot : OthersT w W0 := by rw [hW0]; exact OthersT.of_below ((Below.refl _ _).alloc (Nat.le_refl _) _)
  have HOT := Lib.hid hot
  clear hot
  have HBX := Lib.hid hbox
  have HS0 := Lib.hid hs0
  have hbc := fun i => Lib.cell_of_heap (w := W0) hbox i
  have b0 : W0.cell? ⟨w.heap.size, 0, none⟩ = some (.int .i64 kd) := by rw [hbc]; rfl
  have b1 : W0.cell? ⟨w.heap.size, 1, none⟩ = some (.int .i64 0) := by rw [hbc]; rfl
  have b2 : W0.cell? ⟨w.heap.size, 2, none⟩ = some (.int .i64 0) := by rw [hbc]; rfl
  have b3 : W0.cell? ⟨w.heap.size, 3, none⟩ = some (.int .i64 vk) := by rw [hbc]; rfl
  have b4 : W0.cell? ⟨w.heap.size, 4, none⟩ = some (.slice none 0 0) := by rw [hbc]; rfl
  have b5 : W0.cell? ⟨w.heap.size, 5, none⟩ = some (.int .i64 k) := by rw [hbc]; rfl
  have b6 : W0.cell? ⟨w.heap.size, 6, none⟩ = some (.int .i64 v) := by rw [hbc]; rfl
  have b7 : W0.cell? ⟨w.heap.size, 7, none⟩ = some (.string ⟨#[]⟩) := by rw [hbc]; rfl
  have b8 : W0.cell? ⟨w.heap.size, 8, none⟩ = some (.bool false) := by rw [hbc]; rfl
  have b9 : W0.cell? ⟨w.heap.size, 9, none⟩ = some (.string (bs x)) := by rw [hbc]; rfl
  have b10 : W0.cell? ⟨w.heap.size, 10, none⟩ = some (.int .i64 0) := by rw [hbc]; rfl
  have b11 : W0.cell? ⟨w.heap.size, 11, none⟩ = some .nilFunc := by rw [hbc]; rfl
  have b12 : W0.cell? ⟨w.heap.size, 12, none⟩ = some (.slice none 0 0) := by rw [hbc]; rfl
  clear hc hown hc0 hown0 hb0 hbox hbc hs0
  go_enter Tryz.func273, Tryz.ntmps273
  go_wp2_with fail
  rw [← hW0]
  clear hW0
  go_region_law (first
    | (refine step_append_lies _ (by rfl) _ _ _ (by rfl) B 358 i0 _ 13 152 Tryz.underlying300 hi hz0 hz1 hz2 rfl (by omega) lv n xs (by rfl) ((HO.out.alloc _).drew)
            ⟨W0.heap.size, 0, none⟩ 1 1 (ins13 kd vk k v x).toList (by rfl) (by rfl) (World.news_of_block (cs := ins13 kd vk k v x) (t := 358) (fr := (0, 0)) (heap_alloc_new W0 _)) (by simp [Value.oneCell'])
            (by omega) (by simp [maxLen]; omega) (by omega) (by have := HS0.out; simp; omega) (W0.heap.size + 1) (by simp) ?_; intro gg cap w2 hown1 hgrow hat hlt2; have hg2 : w2.heap[c]? = some (.cells #[lv] 302 (0, 0)) := (hgrow.block c (by have := HS0.out; simp; omega) (own_ne HO.out HC.out (by decide))).trans ((heap_alloc_old W0 _ (by have := HS0.out; omega)).trans HC.out); have d2 : w2.cell? ⟨c, 0, none⟩ = some lv := by rw [Lib.cell_of_heap hg2]; rfl
       have f2 : w2.frozen? ⟨c, 0, none⟩ = false := by simp [World.frozen?, hg2]))
  all_goals
    have hs0 := HS0.out
    have hbelA : Below B w w2 := below_grown ((HB0.out.alloc (by omega) _).drew) (by simp; omega) (fun k hk => (HO.out.lt k hk).1) hgrow
    have hgW := setCell_row hg2 (i := 0) (.slice (some ⟨gg, 0, none⟩) (n + 1) cap)
    have hownW : (w2.setCell ⟨c, 0, none⟩ (.slice (some ⟨gg, 0, none⟩) (n + 1) cap)).ownsRow B 358 13 (.slice (some ⟨gg, 0, none⟩) (n + 1) cap) (n + 1) (xs ++ (ins13 kd vk k v x).toList) :=
      hown1.kept (grown_setCell (c := c) (i := 0) (v := .slice (some ⟨gg, 0, none⟩) (n + 1) cap) (⟨rfl, rfl, rfl, Nat.le_refl _, fun _ _ _ => rfl⟩ : w2.grownBy w2 (some c))) (.inr (Ne.symm (own_ne hown1 hg2 (by decide))))
    have hoW : OthersT w (w2.setCell ⟨c, 0, none⟩ (.slice (some ⟨gg, 0, none⟩) (n + 1) cap)) := HOT.out.trans (fun i y t fr h1 h2 h3 => by
      have hi := (Array.getElem?_eq_some_iff.1 h1).1
      have hic : i ≠ c := fun e => by rw [e, HC.out] at h1; cases h1; exact h2 rfl
      rw [Below.heap_setCell _ _ _ _ hic]
      exact (hgrow.block i (by simp; omega) (own_ne HO.out h1 (Ne.symm h3))).trans ((heap_alloc_old W0 _ hi).trans h1))
    have hbelW := hbelA.setCell (p := ⟨c, 0, none⟩) hBc (.slice (some ⟨gg, 0, none⟩) (n + 1) cap)
    have e0 : (w2.setCell ⟨c, 0, none⟩ (.slice (some ⟨gg, 0, none⟩) (n + 1) cap)).cell? ⟨c, 0, none⟩ = some (.slice (some ⟨gg, 0, none⟩) (n + 1) cap) := by rw [Lib.cell_of_heap hgW]; rfl
    generalize w2.setCell ⟨c, 0, none⟩ (.slice (some ⟨gg, 0, none⟩) (n + 1) cap) = W at *
    have hcode : CodeAt B c (n + 1) W := ⟨⟨_, _, hgW, hownW⟩, hBc⟩
    have HCODE := Lib.hid hcode
    have HBELW := Lib.hid hbelW
    have HOW := Lib.hid hoW
    clear hg2 d2 f2 hgrow hat hlt2 hown1 hbelA hgW hownW hbelW hcode hoW
    go_wp2_with fail
    go_ret
    exact ⟨rfl, HCODE.out, HBELW.out, HOW.out⟩
end Go.Proofs.YtaadhehcoegmhaaGreatDoor
/- xeval.Compile at a leaf. -/
namespace Go.Proofs.YtaadhehcoegmhaaGreatDoor
open Go Go.RowKit

set_option maxRecDepth 100000 in
set_option maxHeartbeats 2000000 in
theorem Right_leaf (op k v : Int) (x : List UInt8) (hr : ∀ w, Env w → Calls Tryz.prog 212 #[.agg (leaf7 op x k v)] w fun e w' => e = .returned (.bool true) ∧ Below w.heap.size w w') (w : World) (hE : Env w) :
    Calls Tryz.prog 161 #[.agg (leaf7 op x k v)] w fun e w' => e = .returned (.bool true) ∧ Below w.heap.size w w' := by
  have hg := heap_alloc_new w (.cells (leaf7 op x k v) 155)
  have hb : Below w.heap.size w (w.alloc (.cells (leaf7 op x k v) 155)) := (Below.refl _ _).alloc (Nat.le_refl _) _
  have HR := Lib.hid hr
  clear hr
  go_enter Tryz.func161, Tryz.ntmps161
  go_wp2_with fail
  refine Calls.mono (size_leaf op k v 512 x _) ?_
  rintro e w1 ⟨rfl, hb1⟩
  dsimp only
  have hq1 := (hb1.block w.heap.size (by simp)).trans hg
  have s0 : w1.cell? ⟨w.heap.size, 0, none⟩ = some (.int .i64 op) := by rw [Lib.cell_of_heap hq1]; rfl
  have s1 : w1.cell? ⟨w.heap.size, 1, none⟩ = some (.string (bs x)) := by rw [Lib.cell_of_heap hq1]; rfl
  have s2 : w1.cell? ⟨w.heap.size, 2, none⟩ = some (.int .i64 k) := by rw [Lib.cell_of_heap hq1]; rfl
  have s3 : w1.cell? ⟨w.heap.size, 3, none⟩ = some (.int .i64 v) := by rw [Lib.cell_of_heap hq1]; rfl
  have s4 : w1.cell? ⟨w.heap.size, 4, none⟩ = some (.int .i64 0) := by rw [Lib.cell_of_heap hq1]; rfl
  have s5 : w1.cell? ⟨w.heap.size, 5, none⟩ = some (.int .i64 0) := by rw [Lib.cell_of_heap hq1]; rfl
  have s6 : w1.cell? ⟨w.heap.size, 6, none⟩ = some (.slice none 0 0) := by rw [Lib.cell_of_heap hq1]; rfl
  have hbw1 := below_then hb hb.size hb1
  have HQ1 := Lib.hid hq1
  have HB1 := Lib.hid hbw1
  clear hb hb1 hg hq1 hbw1
  go_wp2_with fail
  refine Calls.mono (deep_leaf op k v x w1) ?_
  rintro e w2 ⟨rfl, hb2⟩
  dsimp only
  have hq2 := (hb2.block _ (Array.getElem?_eq_some_iff.1 HQ1.out).1).trans HQ1.out
  have t0 : w2.cell? ⟨w.heap.size, 0, none⟩ = some (.int .i64 op) := by rw [Lib.cell_of_heap hq2]; rfl
  have t1 : w2.cell? ⟨w.heap.size, 1, none⟩ = some (.string (bs x)) := by rw [Lib.cell_of_heap hq2]; rfl
  have t2 : w2.cell? ⟨w.heap.size, 2, none⟩ = some (.int .i64 k) := by rw [Lib.cell_of_heap hq2]; rfl
  have t3 : w2.cell? ⟨w.heap.size, 3, none⟩ = some (.int .i64 v) := by rw [Lib.cell_of_heap hq2]; rfl
  have t4 : w2.cell? ⟨w.heap.size, 4, none⟩ = some (.int .i64 0) := by rw [Lib.cell_of_heap hq2]; rfl
  have t5 : w2.cell? ⟨w.heap.size, 5, none⟩ = some (.int .i64 0) := by rw [Lib.cell_of_heap hq2]; rfl
  have t6 : w2.cell? ⟨w.heap.size, 6, none⟩ = some (.slice none 0 0) := by rw [Lib.cell_of_heap hq2]; rfl
  have hbw2 := below_then HB1.out HB1.out.size hb2
  have HB2 := Lib.hid hbw2
  clear hb2 hq2 hbw2 s0 s1 s2 s3 s4 s5 s6
  go_wp2_with fail
  refine Calls.mono (HR.out w2 (hE.below HB2.out)) ?_
  rintro e w3 ⟨rfl, hb3⟩
  dsimp only
  go_wp2_with fail
  go_ret
  exact ⟨rfl, below_then HB2.out HB2.out.size hb3⟩

set_option maxRecDepth 100000 in
set_option maxHeartbeats 2000000 in
theorem cloneScope_nil (w : World) : Calls Tryz.prog 162 #[.slice none 0 0] w fun e w' => e = .returned (.slice none 0 0) ∧ w' = w := by
  have heq := fun w => Lib.run_eql_slice_nil (P := Tryz.prog) w 232 149 none 0 0 0 0 Tryz.underlying232
  go_enter Tryz.func162, Tryz.ntmps162
  go_wp2_with fail
  go_ret
  exact ⟨rfl, rfl⟩

/-- expr's code at a leaf: two instructions. -/
def CodeLeaf (op k v : Int) (x : List UInt8) : Prop := ∀ (B c : Nat) (cp : Value) (w : World), CodeAt B c 0 w → B ≤ w.heap.size →
    Calls Tryz.prog 213 #[cp, .pointer (some ⟨c, 0, none⟩), .agg (leaf7 op x k v)] w fun e w' => e = .returned (.tuple #[]) ∧ CodeAt B c 2 w' ∧ Below B w w' ∧ OthersT w w'

set_option maxRecDepth 100000 in
set_option maxHeartbeats 4000000 in
theorem codeExpr_var (x : List UInt8) : CodeLeaf 18 0 0 x := by
  intro B c cp w h hB
  have hg := heap_alloc_new w (.cells (leaf7 18 x 0 0) 155)
  have hb : Below B w (w.alloc (.cells (leaf7 18 x 0 0) 155)) := (Below.refl _ _).alloc hB _
  have hoA : OthersT w (w.alloc (.cells (leaf7 18 x 0 0) 155)) := OthersT.of_below ((Below.refl _ _).alloc (Nat.le_refl _) _)
  have hC0 := Lib.hid (h.below ((Below.refl _ _).alloc (Nat.le_refl _) (.cells (leaf7 18 x 0 0) 155)))
  have hcw : c < w.heap.size := by obtain ⟨⟨lv, xs, h1, _⟩, _⟩ := h; exact (Array.getElem?_eq_some_iff.1 h1).1
  clear h
  go_enter Tryz.func213, Tryz.ntmps213
  go_wp2_with fail
  refine Calls.mono (codeAdd_any B c 0 0 0 0 0 [] _ hC0.out (by omega) (by simp; omega)) ?_
  rintro e w1 ⟨rfl, hC1, hb1, ho1⟩
  dsimp only
  have hq1 := ho1 _ _ _ _ hg (by decide) (by decide)
  have s0 : w1.cell? ⟨w.heap.size, 0, none⟩ = some (.int .i64 18) := by rw [Lib.cell_of_heap hq1]; rfl
  have s1 : w1.cell? ⟨w.heap.size, 1, none⟩ = some (.string (bs x)) := by rw [Lib.cell_of_heap hq1]; rfl
  have HC1 := Lib.hid hC1
  have hs1 := hb1.size
  simp at hs1
  have hbw := hb.trans hb1
  have HBW := Lib.hid hbw
  have HO1 := Lib.hid (hoA.trans ho1)
  clear hC1 hb1 ho1 hg hb hq1 hbw hoA
  go_wp2_with fail
  refine Calls.mono (codeAdd_any B c 1 2 0 0 0 x _ HC1.out (by omega) (by omega)) ?_
  rintro e w2 ⟨rfl, hC2, hb2, ho2⟩
  dsimp only
  have HC2 := Lib.hid hC2
  have HB2 := Lib.hid hb2
  have HO2 := Lib.hid ho2
  clear hC2 hb2 ho2
  go_wp2_with fail
  go_end0
  exact ⟨rfl, HC2.out, HBW.out.trans HB2.out, HO1.out.trans HO2.out⟩

set_option maxRecDepth 100000 in
set_option maxHeartbeats 4000000 in
theorem codeExpr_num (k v : Int) : CodeLeaf 16 k v [] := by
  intro B c cp w h hB
  have hg := heap_alloc_new w (.cells (leaf7 16 [] k v) 155)
  have hb : Below B w (w.alloc (.cells (leaf7 16 [] k v) 155)) := (Below.refl _ _).alloc hB _
  have hoA : OthersT w (w.alloc (.cells (leaf7 16 [] k v) 155)) := OthersT.of_below ((Below.refl _ _).alloc (Nat.le_refl _) _)
  have hC0 := Lib.hid (h.below ((Below.refl _ _).alloc (Nat.le_refl _) (.cells (leaf7 16 [] k v) 155)))
  have hcw : c < w.heap.size := by obtain ⟨⟨lv, xs, h1, _⟩, _⟩ := h; exact (Array.getElem?_eq_some_iff.1 h1).1
  clear h
  go_enter Tryz.func213, Tryz.ntmps213
  go_wp2_with fail
  refine Calls.mono (codeAdd_any B c 0 0 0 0 0 [] _ hC0.out (by omega) (by simp; omega)) ?_
  rintro e w1 ⟨rfl, hC1, hb1, ho1⟩
  dsimp only
  have hq1 := ho1 _ _ _ _ hg (by decide) (by decide)
  have s0 : w1.cell? ⟨w.heap.size, 0, none⟩ = some (.int .i64 16) := by rw [Lib.cell_of_heap hq1]; rfl
  have s2 : w1.cell? ⟨w.heap.size, 2, none⟩ = some (.int .i64 k) := by rw [Lib.cell_of_heap hq1]; rfl
  have s3 : w1.cell? ⟨w.heap.size, 3, none⟩ = some (.int .i64 v) := by rw [Lib.cell_of_heap hq1]; rfl
  have HC1 := Lib.hid hC1
  have hs1 := hb1.size
  simp at hs1
  have hbw := hb.trans hb1
  have HBW := Lib.hid hbw
  have HO1 := Lib.hid (hoA.trans ho1)
  clear hC1 hb1 ho1 hg hb hq1 hbw hoA
  go_wp2_with fail
  refine Calls.mono (codeAdd_any B c 1 1 1 k v [] _ HC1.out (by omega) (by omega)) ?_
  rintro e w2 ⟨rfl, hC2, hb2, ho2⟩
  dsimp only
  have HC2 := Lib.hid hC2
  have HB2 := Lib.hid hb2
  have HO2 := Lib.hid ho2
  clear hC2 hb2 ho2
  go_wp2_with fail
  go_end0
  exact ⟨rfl, HC2.out, HBW.out.trans HB2.out, HO1.out.trans HO2.out⟩

set_option maxRecDepth 100000 in
set_option maxHeartbeats 2000000 in
theorem code_leaf (op k v : Int) (x : List UInt8) (hl : CodeLeaf op k v x) (cp : Value) (w : World) :
    Calls Tryz.prog 163 #[cp, .agg (leaf7 op x k v)] w fun e w' => ∃ c, e = .returned (.pointer (some ⟨c, 0, none⟩)) ∧ w.heap.size ≤ c ∧ c < w'.heap.size ∧ Below w.heap.size w w' ∧ OthersT w w' := by
  have hb : Below w.heap.size w ((w.alloc (.cells (leaf7 op x k v) 155)).alloc (.cells #[.slice none 0 0] 302)) := ((Below.refl _ _).alloc (Nat.le_refl _) _).alloc (by simp) _
  have hc : CodeAt w.heap.size (w.heap.size + 1) 0 ((w.alloc (.cells (leaf7 op x k v) 155)).alloc (.cells #[.slice none 0 0] 302)) := ⟨⟨.slice none 0 0, [], new_at _ _ (by simp), rfl, .inl ⟨rfl, rfl⟩⟩, by omega⟩
  have HL := Lib.hid hl
  have HC := Lib.hid hc
  clear hl hc
  go_enter Tryz.func163, Tryz.ntmps163
  go_wp2_with fail
  refine Calls.mono (HL.out w.heap.size (w.heap.size + 1) cp _ HC.out (by simp <;> omega)) ?_
  rintro e w1 ⟨rfl, hC1, hb1, ho1⟩
  dsimp only
  have hlt : w.heap.size + 1 < w1.heap.size := by have := hb1.size; simp at this; omega
  have HB := Lib.hid (hb.trans hb1)
  have HO := Lib.hid ((OthersT.of_below hb).trans ho1)
  clear hC1 hb1 ho1 hb
  go_wp2_with fail
  go_ret
  exact ⟨w.heap.size + 1, rfl, by omega, hlt, HB.out, HO.out⟩

set_option maxRecDepth 100000 in
set_option maxHeartbeats 4000000 in
theorem evalCompile_leaf (op k v : Int) (x : List UInt8) (hl : CodeLeaf op k v x) (hr : ∀ w, Env w → Calls Tryz.prog 212 #[.agg (leaf7 op x k v)] w fun e w' => e = .returned (.bool true) ∧ Below w.heap.size w w') (w : World) (hE : Env w) :
    Calls Tryz.prog 106 #[.agg (leaf7 op x k v), .slice none 0 0] w fun e w' => ∃ c, e = .returned (.tuple #[.pointer (some ⟨c, 0, none⟩), .int .i64 0]) ∧ Below w.heap.size w w' := by
  have hg := heap_alloc_new w (.cells (leaf7 op x k v) 155)
  have hb : Below w.heap.size w (w.alloc (.cells (leaf7 op x k v) 155)) := (Below.refl _ _).alloc (Nat.le_refl _) _
  have HL := Lib.hid hl
  have HR := Lib.hid hr
  clear hl hr
  go_enter Tryz.func106, Tryz.ntmps106
  go_wp2_with fail
  refine Calls.mono (Right_leaf op k v x HR.out _ (hE.below hb)) ?_
  rintro e w1 ⟨rfl, hb1⟩
  dsimp only
  have hbw1 := below_then hb hb.size hb1
  have hq1 := (hb1.block w.heap.size (by simp)).trans hg
  have HQ1 := Lib.hid hq1
  have HB1 := Lib.hid hbw1
  clear hb hb1 hg hq1 hbw1
  go_wp2_with fail
  refine Calls.mono (cloneScope_nil _) ?_
  rintro e w2 ⟨rfl, rfl⟩
  dsimp only
  have hsz := HB1.out.size
  have hq2 := (heap_alloc_old w2 (.cells #[.slice none 0 0, .int .i64 0] 237) (Array.getElem?_eq_some_iff.1 HQ1.out).1).trans HQ1.out
  have hk2 := heap_alloc_new w2 (.cells #[.slice none 0 0, .int .i64 0] 237)
  have s0 : (w2.alloc (.cells #[.slice none 0 0, .int .i64 0] 237)).cell? ⟨w.heap.size, 0, none⟩ = some (.int .i64 op) := by rw [Lib.cell_of_heap hq2]; rfl
  have s1 : (w2.alloc (.cells #[.slice none 0 0, .int .i64 0] 237)).cell? ⟨w.heap.size, 1, none⟩ = some (.string (bs x)) := by rw [Lib.cell_of_heap hq2]; rfl
  have s2 : (w2.alloc (.cells #[.slice none 0 0, .int .i64 0] 237)).cell? ⟨w.heap.size, 2, none⟩ = some (.int .i64 k) := by rw [Lib.cell_of_heap hq2]; rfl
  have s3 : (w2.alloc (.cells #[.slice none 0 0, .int .i64 0] 237)).cell? ⟨w.heap.size, 3, none⟩ = some (.int .i64 v) := by rw [Lib.cell_of_heap hq2]; rfl
  have s4 : (w2.alloc (.cells #[.slice none 0 0, .int .i64 0] 237)).cell? ⟨w.heap.size, 4, none⟩ = some (.int .i64 0) := by rw [Lib.cell_of_heap hq2]; rfl
  have s5 : (w2.alloc (.cells #[.slice none 0 0, .int .i64 0] 237)).cell? ⟨w.heap.size, 5, none⟩ = some (.int .i64 0) := by rw [Lib.cell_of_heap hq2]; rfl
  have s6 : (w2.alloc (.cells #[.slice none 0 0, .int .i64 0] 237)).cell? ⟨w.heap.size, 6, none⟩ = some (.slice none 0 0) := by rw [Lib.cell_of_heap hq2]; rfl
  have hbk : Below w.heap.size w (w2.alloc (.cells #[.slice none 0 0, .int .i64 0] 237)) := HB1.out.alloc hsz _
  have HBK := Lib.hid hbk
  have HK2 := Lib.hid hk2
  clear hq2 hbk hk2
  go_wp2_with fail
  refine Calls.mono (code_leaf op k v x HL.out _ _) ?_
  rintro e w3 ⟨c, rfl, _, _, hb3, ho3⟩
  dsimp only
  have hk3 := ho3 _ _ _ _ HK2.out (by decide) (by decide)
  have t1 : w3.cell? ⟨w2.heap.size, 1, none⟩ = some (.int .i64 0) := by rw [Lib.cell_of_heap hk3]; rfl
  have HB3 := Lib.hid (HBK.out.trans (hb3.mono HBK.out.size))
  clear hb3 ho3 hk3 s0 s1 s2 s3 s4 s5 s6
  go_wp2_with fail
  go_ret2
  exact ⟨c, rfl, HB3.out⟩
end Go.Proofs.YtaadhehcoegmhaaGreatDoor
/- Rows of lets; measure.look and size of them. -/
namespace Go.Proofs.YtaadhehcoegmhaaGreatDoor
open Go Go.RowKit

/-- A let: its name, and what it selects. -/
structure Lt where
  name : List UInt8
  sel : List UInt8
def Lt.cells (t : Lt) : List Value := [.int .i64 14, .string (bs t.name), .string (bs t.sel), .string ⟨#[]⟩, .string ⟨#[]⟩, .bool false, .slice none 0 0, .slice none 0 0, .slice none 0 0]
/-- A value that is nil or a row that holds these lets. -/
def LetsAt (w : World) (v : Value) (ls : List Lt) : Prop :=
  (v = .slice none 0 0 ∧ ls = []) ∨ ∃ g cap, v = .slice (some ⟨g, 0, none⟩) ls.length cap ∧ ls.length ≤ cap ∧ ∀ i t, ls[i]? = some t → ∀ j u, t.cells[j]? = some u → w.cell? ⟨g, i * 9 + j, none⟩ = some u
theorem LetsAt.below {w w' : World} {v : Value} {ls : List Lt} (h : LetsAt w v ls) (hb : Below w.heap.size w w') : LetsAt w' v ls := by
  rcases h with h | ⟨g, cap, h1, h2, h3⟩
  · exact .inl h
  · exact .inr ⟨g, cap, h1, h2, fun i t ht j u hu => (hb.cell (at_lt (h3 i t ht j u hu))).trans (h3 i t ht j u hu)⟩

set_option maxRecDepth 100000 in
set_option maxHeartbeats 1000000 in
theorem look_nil (m : Value) (d : Int) (w : World) : Calls Tryz.prog 99 #[m, .slice none 0 0, .int .i64 d] w fun e w' => e = .returned (.tuple #[]) ∧ w' = w := by
  go_enter Tryz.func99, Tryz.ntmps99
  go_wp2_with fail
  go_loopw [10] (fun v wr => v = .int .i64 0 ∧ w = wr)
    (fun _ _ => 0)
  case atStart => exact ⟨rfl, rfl⟩
  case round =>
    obtain ⟨rfl, rfl⟩ := hrel
    go_wp2_with fail
    go_end0
    exact ⟨rfl, rfl⟩

def depthOf (n : Nat) : Int := if n = 0 then 0 else 1
abbrev zero51 : Array Value := #[.int .i64 0, .string ⟨#[]⟩, .string ⟨#[]⟩, .string ⟨#[]⟩, .string ⟨#[]⟩, .bool false, .slice none 0 0, .slice none 0 0, .slice none 0 0]
abbrev let9 (t : Lt) : Array Value := #[.int .i64 14, .string (bs t.name), .string (bs t.sel), .string ⟨#[]⟩, .string ⟨#[]⟩, .bool false, .slice none 0 0, .slice none 0 0, .slice none 0 0]

set_option maxRecDepth 100000 in
set_option maxHeartbeats 4000000 in
theorem look_lets (mb g cap : Nat) (ls : List Lt) (w : World) (hm : w.heap[mb]? = some (.cells #[.int .i64 0, .int .i64 0, .bool false] 142 (0, 0))) (hgm : g ≠ mb) (hl : ls.length ≤ 1000)
    (hc : ∀ i t, ls[i]? = some t → ∀ j u, t.cells[j]? = some u → w.cell? ⟨g, i * 9 + j, none⟩ = some u) :
    Calls Tryz.prog 99 #[.pointer (some ⟨mb, 0, none⟩), .slice (some ⟨g, 0, none⟩) ls.length cap, .int .i64 1] w fun e w' => e = .returned (.tuple #[]) ∧
      w'.heap[mb]? = some (.cells #[.int .i64 ls.length, .int .i64 (depthOf ls.length), .bool false] 142 (0, 0)) ∧ w.grownBy w' (some mb) := by
  have hmw := (Array.getElem?_eq_some_iff.1 hm).1
  have HC := Lib.hid hc
  have HM := Lib.hid hm
  clear hc hm
  go_enter Tryz.func99, Tryz.ntmps99
  go_wp2_with fail
  go_loopw [10] (fun v wr => ∃ i : Nat, v = .int .i64 i ∧ i ≤ ls.length ∧ wr.heap[mb]? = some (.cells #[.int .i64 i, .int .i64 (depthOf i), .bool false] 142 (0, 0)) ∧ w.grownBy wr (some mb))
    (fun i _ => ls.length - (intOf i).toNat)
  case atStart => exact ⟨0, rfl, by omega, HM.out, ⟨rfl, rfl, rfl, Nat.le_refl _, fun _ _ _ => rfl⟩⟩
  case round =>
    obtain ⟨i, rfl, hi, hm, hgr⟩ := hrel
    rename World => wr
    by_cases hlt : i < ls.length
    · obtain ⟨t, ht⟩ : ∃ t, ls[i]? = some t := ⟨ls[i], by simp [hlt]⟩
      have hgw : g < w.heap.size := at_lt (HC.out i t ht 0 _ rfl)
      have hcr : ∀ j u, t.cells[j]? = some u → wr.cell? ⟨g, i * 9 + j, none⟩ = some u := fun j u hu => by
        rw [World.cell?_of_block (w := w) (hgr.block g hgw (fun e => hgm (Option.some.inj e)))]
        exact HC.out i t ht j u hu
      have c0 := hcr 0 _ rfl
      have c1 := hcr 1 _ rfl
      have c2 := hcr 2 _ rfl
      have c3 := hcr 3 _ rfl
      have c4 := hcr 4 _ rfl
      have c5 := hcr 5 _ rfl
      have c6 := hcr 6 _ rfl
      have c7 := hcr 7 _ rfl
      have c8 := hcr 8 _ rfl
      rw [Nat.add_zero] at c0
      obtain ⟨hp1, hp2, hp3⟩ := put_new wr zero51 (let9 t) 51
      have HGA := Lib.hid (heap_alloc_new wr (.cells zero51 51))
      obtain ⟨W, hW⟩ : ∃ W, W = (wr.alloc (.cells zero51 51)).setRow wr.heap.size (let9 t) := ⟨_, rfl⟩
      rw [← hW] at hp1 hp2 hp3
      have HW := Lib.hid hW
      have hmW := (hp1.block mb (Nat.lt_of_lt_of_le hmw hgr.size)).trans hm
      have q0 : W.cell? ⟨wr.heap.size, 0, none⟩ = some (.int .i64 14) := by rw [Lib.cell_of_heap hp2]; rfl
      have q7 : W.cell? ⟨wr.heap.size, 7, none⟩ = some (.slice none 0 0) := by rw [Lib.cell_of_heap hp2]; rfl
      have m0 : W.cell? ⟨mb, 0, none⟩ = some (.int .i64 i) := by rw [Lib.cell_of_heap hmW]; rfl
      have m1 : W.cell? ⟨mb, 1, none⟩ = some (.int .i64 (depthOf i)) := by rw [Lib.cell_of_heap hmW]; rfl
      have m2 : W.cell? ⟨mb, 2, none⟩ = some (.bool false) := by rw [Lib.cell_of_heap hmW]; rfl
      have f0 : W.frozen? ⟨mb, 0, none⟩ = false := by simp [World.frozen?, hmW]
      have f1 : W.frozen? ⟨mb, 1, none⟩ = false := by simp [World.frozen?, hmW]
      have f2 : W.frozen? ⟨mb, 2, none⟩ = false := by simp [World.frozen?, hmW]
      have hs := hgr.size
      have hmq : ¬ mb = wr.heap.size := by omega
      have hqm : ¬ wr.heap.size = mb := by omega
      have hgW : w.grownBy W (some mb) := hgr.trans (grown_of_below hp1 _)
      have HMW := Lib.hid hmW
      have HGW := Lib.hid hgW
      have h4 : ¬ ((i : Int) + 1 > 4096) := by omega
      clear hcr hp1 hp2 hW hm hgr hmW hgW ht
      by_cases hi0 : i = 0
      · subst hi0
        have hd0 : depthOf 0 = 0 := rfl
        rw [hd0] at m1
        go_wp2_with (refine wpList_store_row rfl 51 (.tmp 7) (.tmp 13) rfl wr.heap.size (let9 t) rfl rfl 51 _ HGA.out (by kernel_rfl) rfl (by simp [Value.oneCell']) ?_; rw [← HW.out])
        refine Calls.mono (look_nil _ 2 _) ?_
        rintro e w3 ⟨rfl, rfl⟩
        dsimp only
        go_wp2_with fail
        go_roundw
        case rel => exact ⟨0 + 1, by go_num, by omega, by rw [setCell_row (setCell_row (setCell_row HMW.out _) _) _]; simp [depthOf] <;> rfl, grown_setCell (grown_setCell (grown_setCell HGW.out))⟩
        case measure => simp [intOf] <;> omega
      · have hd1 : depthOf i = 1 := by simp [depthOf, hi0]
        rw [hd1] at m1
        go_wp2_with (refine wpList_store_row rfl 51 (.tmp 7) (.tmp 13) rfl wr.heap.size (let9 t) rfl rfl 51 _ HGA.out (by kernel_rfl) rfl (by simp [Value.oneCell']) ?_; rw [← HW.out])
        refine Calls.mono (look_nil _ 2 _) ?_
        rintro e w3 ⟨rfl, rfl⟩
        dsimp only
        go_wp2_with fail
        go_roundw
        case rel => exact ⟨i + 1, by go_num, by omega, by rw [setCell_row (setCell_row (setCell_row HMW.out _) _) _]; simp [depthOf] <;> rfl, grown_setCell (grown_setCell (grown_setCell HGW.out))⟩
        case measure => simp [intOf] <;> omega
    · obtain rfl : i = ls.length := by omega
      have HMM := Lib.hid hm
      have HGR := Lib.hid hgr
      clear hm hgr
      go_wp2_with fail
      go_end0
      exact ⟨rfl, HMM.out, HGR.out⟩
end Go.Proofs.YtaadhehcoegmhaaGreatDoor
/- size of a sheet of lets. -/
namespace Go.Proofs.YtaadhehcoegmhaaGreatDoor
open Go Go.RowKit

theorem depthOf_le (n : Nat) : 0 ≤ depthOf n ∧ depthOf n ≤ 1 := by unfold depthOf; split <;> omega

set_option maxRecDepth 100000 in
set_option maxHeartbeats 2000000 in
theorem size_lets (g cap : Nat) (ls : List Lt) (w : World) (hl : ls.length ≤ 1000) (hgw : g < w.heap.size)
    (hc : ∀ i t, ls[i]? = some t → ∀ j u, t.cells[j]? = some u → w.cell? ⟨g, i * 9 + j, none⟩ = some u) :
    Calls Tryz.prog 41 #[.agg #[.slice none 0 0, .slice (some ⟨g, 0, none⟩) ls.length cap, .slice none 0 0, .int .i64 0, .bool false]] w fun e w' => e = .returned (.int .i64 0) ∧ Below w.heap.size w w' := by
  obtain ⟨W, hW⟩ : ∃ W, W = (w.alloc (.cells #[.slice none 0 0, .slice (some ⟨g, 0, none⟩) ls.length cap, .slice none 0 0, .int .i64 0, .bool false] 59)).alloc (.cells #[.int .i64 0, .int .i64 0, .bool false] 142) := ⟨_, rfl⟩
  have hb : Below w.heap.size w W := by rw [hW]; exact ((Below.refl _ _).alloc (Nat.le_refl _) _).alloc (by simp) _
  have hm : W.heap[w.heap.size + 1]? = some (.cells #[.int .i64 0, .int .i64 0, .bool false] 142 (0, 0)) := by rw [hW]; exact new_at _ _ (by simp)
  have hq : W.heap[w.heap.size]? = some (.cells #[.slice none 0 0, .slice (some ⟨g, 0, none⟩) ls.length cap, .slice none 0 0, .int .i64 0, .bool false] 59 (0, 0)) := by rw [hW]; exact alloc_old _ (heap_alloc_new w _) rfl
  have hs : W.heap.size = w.heap.size + 2 := by rw [hW]; simp
  have hlook := look_lets (w.heap.size + 1) g cap ls W hm (by omega) hl (fun i t ht j u hu => (hb.cell (p := ⟨g, i * 9 + j, none⟩) hgw).trans (hc i t ht j u hu))
  have HLK := Lib.hid hlook
  have HQ := Lib.hid hq
  have HB := Lib.hid hb
  have HS := Lib.hid hs
  have HW := Lib.hid hW
  clear hlook hq hb hm hs hc
  go_enter Tryz.func41, Tryz.ntmps41
  go_wp2_with fail
  rw [← hW]
  refine Calls.mono HLK.out ?_
  rintro e w1 ⟨rfl, hm1, hgr⟩
  dsimp only
  have hs1 := hgr.size
  have hs0 := HS.out
  have hq1 := (hgr.block w.heap.size (by omega) (by intro e; have := Option.some.inj e; omega)).trans HQ.out
  have q0 : w1.cell? ⟨w.heap.size, 0, none⟩ = some (.slice none 0 0) := by rw [Lib.cell_of_heap hq1]; rfl
  have m0 : w1.cell? ⟨w.heap.size + 1, 0, none⟩ = some (.int .i64 ls.length) := by rw [Lib.cell_of_heap hm1]; rfl
  have m1 : w1.cell? ⟨w.heap.size + 1, 1, none⟩ = some (.int .i64 (depthOf ls.length)) := by rw [Lib.cell_of_heap hm1]; rfl
  have m2 : w1.cell? ⟨w.heap.size + 1, 2, none⟩ = some (.bool false) := by rw [Lib.cell_of_heap hm1]; rfl
  obtain ⟨D, hD⟩ : ∃ D, D = depthOf ls.length := ⟨_, rfl⟩
  have hD2 := depthOf_le ls.length
  rw [← hD] at m1 hD2
  have hd3 : ¬ (D > 32) := by omega
  have hl4 : ¬ ((ls.length : Int) > 4096) := by omega
  have hbw : Below w.heap.size w w1 := HB.out.trans ⟨hgr.os, hgr.tape, hgr.output, hgr.size, fun i hi => hgr.block i (by omega) (by intro e; have := Option.some.inj e; omega)⟩
  have HBW := Lib.hid hbw
  clear hbw hgr hm1 hq1 hW hD hs1 hs0
  go_wp2_with fail
  go_loopw [19] (fun v wr => v = .int .i64 0 ∧ w1 = wr)
    (fun _ _ => 0)
  case atStart => exact ⟨rfl, rfl⟩
  case round =>
    obtain ⟨rfl, rfl⟩ := hrel
    go_wp2_with fail
    go_ret
    exact ⟨rfl, HBW.out⟩
end Go.Proofs.YtaadhehcoegmhaaGreatDoor
/- Clones; copied at a row of lets. -/
namespace Go.Proofs.YtaadhehcoegmhaaGreatDoor
open Go Go.RowKit

def letCells (ls : List Lt) : List Value := ls.flatMap Lt.cells
theorem letCells_length (ls : List Lt) : (letCells ls).length = ls.length * 9 := by
  induction ls with
  | nil => rfl
  | cons t ls ih => simp [letCells, Lt.cells] at ih ⊢; omega
theorem letCells_at : ∀ (ls : List Lt) (i : Nat) (t : Lt), ls[i]? = some t → ∀ j u, t.cells[j]? = some u → (letCells ls)[i * 9 + j]? = some u
  | [], i, t, h, _, _, _ => by simp at h
  | s :: ls, 0, t, h, j, u, hu => by
    simp at h
    subst h
    have hj : j < s.cells.length := (List.getElem?_eq_some_iff.1 hu).1
    have e : letCells (s :: ls) = s.cells ++ letCells ls := by simp [letCells]
    rw [e, Nat.zero_mul, Nat.zero_add, List.getElem?_append_left hj, hu]
  | s :: ls, i + 1, t, h, j, u, hu => by
    have ih := letCells_at ls i t (by simpa using h) j u hu
    have e : letCells (s :: ls) = s.cells ++ letCells ls := by simp [letCells]
    have h9 : s.cells.length = 9 := rfl
    rw [e, List.getElem?_append_right (by omega), h9, show (i + 1) * 9 + j - 9 = i * 9 + j by omega]
    exact ih

theorem info51 : (Tryz.prog.info? 51).map (fun i => (i.zero, i.size, i.bytes)) = some (some (.agg zero51), 9, 152) := by kernel_rfl

set_option maxRecDepth 100000 in
set_option maxHeartbeats 1000000 in
theorem cloneRules_nil (w : World) : Calls Tryz.prog 100 #[.slice none 0 0] w fun e w' => e = .returned (.slice none 0 0) ∧ w' = w := by
  have heq := fun w => Lib.run_eql_slice_nil (P := Tryz.prog) w 55 64 none 0 0 0 0 Tryz.underlying55
  go_enter Tryz.func100, Tryz.ntmps100
  go_wp2_with fail
  go_ret
  exact ⟨rfl, rfl⟩
set_option maxRecDepth 100000 in
set_option maxHeartbeats 1000000 in
theorem cloneTexts_nil (w : World) : Calls Tryz.prog 101 #[.slice none 0 0] w fun e w' => e = .returned (.slice none 0 0) ∧ w' = w := by
  have heq := fun w => Lib.run_eql_slice_nil (P := Tryz.prog) w 56 9 none 0 0 0 0 Tryz.underlying56
  go_enter Tryz.func101, Tryz.ntmps101
  go_wp2_with fail
  go_ret
  exact ⟨rfl, rfl⟩
set_option maxRecDepth 100000 in
set_option maxHeartbeats 1000000 in
theorem clonePairs_nil (w : World) : Calls Tryz.prog 103 #[.slice none 0 0] w fun e w' => e = .returned (.slice none 0 0) ∧ w' = w := by
  have heq := fun w => Lib.run_eql_slice_nil (P := Tryz.prog) w 49 149 none 0 0 0 0 Tryz.underlying49
  go_enter Tryz.func103, Tryz.ntmps103
  go_wp2_with fail
  go_ret
  exact ⟨rfl, rfl⟩
set_option maxRecDepth 100000 in
set_option maxHeartbeats 1000000 in
theorem cloneInstrs_nil (w : World) : Calls Tryz.prog 156 #[.slice none 0 0] w fun e w' => e = .returned (.slice none 0 0) ∧ w' = w := by
  have heq := fun w => Lib.run_eql_slice_nil (P := Tryz.prog) w 47 51 none 0 0 0 0 Tryz.underlying47
  go_enter Tryz.func156, Tryz.ntmps156
  go_wp2_with fail
  go_ret
  exact ⟨rfl, rfl⟩

set_option maxRecDepth 100000 in
set_option maxHeartbeats 1000000 in
theorem copied_nil (w : World) : Calls Tryz.prog 102 #[.slice none 0 0] w fun e w' => e = .returned (.slice none 0 0) ∧ w' = w := by
  go_enter Tryz.func102, Tryz.ntmps102
  go_wp2_with fail
  refine Calls.mono (cloneInstrs_nil _) ?_
  rintro e w1 ⟨rfl, rfl⟩
  dsimp only
  go_wp2_with fail
  go_loopw [9] (fun v wr => v = .int .i64 0 ∧ w1 = wr)
    (fun _ _ => 0)
  case atStart => exact ⟨rfl, rfl⟩
  case round =>
    obtain ⟨rfl, rfl⟩ := hrel
    go_wp2_with fail
    go_ret
    exact ⟨rfl, rfl⟩

set_option maxRecDepth 100000 in
set_option maxHeartbeats 2000000 in
theorem cloneLets (g cap : Nat) (ls : List Lt) (w : World) (hl : ls.length ≤ 1000) (h0 : 0 < ls.length)
    (hc : ∀ j u, (letCells ls)[j]? = some u → w.cell? ⟨g, j, none⟩ = some u) :
    Calls Tryz.prog 156 #[.slice (some ⟨g, 0, none⟩) ls.length cap] w fun e w' => ∃ v, e = .returned v ∧ w'.ownsRow w.heap.size 51 9 v ls.length (letCells ls) ∧ Below w.heap.size w w' := by
  obtain ⟨i0, hi, hz0, hz1, hz2⟩ := info_parts info51
  have heq := fun w => Lib.run_eql_slice_nil (P := Tryz.prog) w 47 51 (some ⟨g, 0, none⟩) ls.length cap 0 0 Tryz.underlying47
  have hown0 := World.ownsRow_made (base := w.heap.size) (e := 51) (size := 9) w #[] 0 (Nat.le_refl _) (Nat.zero_le _) rfl
  have hone : ∀ u ∈ letCells ls, u.oneCell' = true := by
    intro u hu
    obtain ⟨t, _, ht⟩ := List.mem_flatMap.1 hu
    simp [Lt.cells] at ht
    rcases ht with rfl | rfl | rfl | rfl | rfl | rfl <;> simp [Value.oneCell']
  have hcA : ∀ j u, (letCells ls)[j]? = some u → (w.alloc (.cells #[] 51)).cell? ((⟨g, 0, none⟩ : Addr).add j) = some u := fun j u hu => by
    rw [addr_add, Nat.zero_add]; exact cell_alloc (hc j u hu) _
  have HO := Lib.hid hown0
  have HONE := Lib.hid hone
  have HCA := Lib.hid hcA
  have HLL := Lib.hid (letCells_length ls)
  clear hc hown0 hone hcA
  go_enter Tryz.func156, Tryz.ntmps156
  go_wp2_with (at_builtin; refine wpList_append_own_at _ rfl (.tmp 5) (.tmp 6) 47 (by rfl) w.heap.size 51 i0 _ 9 152 Tryz.underlying47 hi hz0 hz1 hz2 rfl (by omega) _ 0 [] (by rfl) HO.out ⟨g, 0, none⟩ ls.length cap (letCells ls) (by rfl) HLL.out HCA.out HONE.out (by simp [maxLen]; omega) (by omega) (by simp) ?_; intro v1 w1 hown1 hg1 hnil1 hat1)
  go_ret
  refine ⟨v1, rfl, by simpa using hown1, ((Below.refl _ _).alloc (Nat.le_refl _) _).grown hg1 (by simp) ?_⟩
  intro k hk
  simp [Value.ownBlock] at hk
  omega
end Go.Proofs.YtaadhehcoegmhaaGreatDoor
/- copied at a row of lets. -/
namespace Go.Proofs.YtaadhehcoegmhaaGreatDoor
open Go Go.RowKit

/-- A store of what a cell holds turns no block. -/
theorem setCell_still {w : World} {b i : Nat} {cs : Array Value} {T : TypeId} {fr : Nat × Nat} {v : Value} (hb : w.heap[b]? = some (.cells cs T fr)) (hv : cs[i]? = some v) (k : Nat) : (w.setCell ⟨b, i, none⟩ v).heap[k]? = w.heap[k]? := by
  by_cases h : k = b
  · subst h
    rw [setCell_same hb hv, hb]
  · exact Below.heap_setCell _ _ _ _ h

set_option maxRecDepth 100000 in
set_option maxHeartbeats 4000000 in
theorem copied_lets (g cap : Nat) (ls : List Lt) (w : World) (hl : ls.length ≤ 1000) (h0 : 0 < ls.length)
    (hc : ∀ j u, (letCells ls)[j]? = some u → w.cell? ⟨g, j, none⟩ = some u) :
    Calls Tryz.prog 102 #[.slice (some ⟨g, 0, none⟩) ls.length cap] w fun e w' => ∃ g2 cap2, e = .returned (.slice (some ⟨g2, 0, none⟩) ls.length cap2) ∧ w.heap.size ≤ g2 ∧ g2 < w'.heap.size ∧ (∀ j u, (letCells ls)[j]? = some u → w'.cell? ⟨g2, j, none⟩ = some u) ∧ Below w.heap.size w w' := by
  have HCL := Lib.hid (cloneLets g cap ls w hl h0 hc)
  clear hc
  go_enter Tryz.func102, Tryz.ntmps102
  go_wp2_with fail
  refine Calls.mono HCL.out ?_
  rintro e w1 ⟨v1, rfl, hown, hb1⟩
  dsimp only
  obtain ⟨g2, cap2, cur, rfl, hg2, hheap, hcap2, _, _, htake⟩ : ∃ g2 cap2 cur, v1 = .slice (some ⟨g2, 0, none⟩) ls.length cap2 ∧ w.heap.size ≤ g2 ∧ w1.heap[g2]? = some (.cells cur 51 (0, 0)) ∧ ls.length ≤ cap2 ∧ True ∧ True ∧ cur.toList.take (ls.length * 9) = letCells ls := by
    rcases hown.2 with ⟨_, h⟩ | ⟨g2, cap2, cur, h1, h2, h3, h4, _, _, h7⟩
    · omega
    · exact ⟨g2, cap2, cur, h1, h2, h3, h4, trivial, trivial, h7⟩
  have hcur : ∀ j u, (letCells ls)[j]? = some u → cur[j]? = some u := fun j u hu => by
    rw [← htake, List.getElem?_take] at hu
    split at hu
    · rw [← Array.getElem?_toList]; exact hu
    · cases hu
  have HCUR := Lib.hid hcur
  have HH := Lib.hid hheap
  have HB1 := Lib.hid hb1
  clear hown hheap htake hcur hb1
  go_wp2_with fail
  go_loopw [9] (fun v wr => ∃ i : Nat, v = .int .i64 i ∧ i ≤ ls.length ∧ wr.heap[g2]? = some (.cells cur 51 (0, 0)) ∧ Below w.heap.size w wr)
    (fun i _ => ls.length - (intOf i).toNat)
  case atStart => exact ⟨0, rfl, by omega, HH.out, HB1.out⟩
  case round =>
    obtain ⟨i, rfl, hi, hrow, hbel⟩ := hrel
    rename World => wr
    by_cases hlt : i < ls.length
    · obtain ⟨t, ht⟩ : ∃ t, ls[i]? = some t := ⟨ls[i], by simp [hlt]⟩
      have k6 := HCUR.out _ _ (letCells_at ls i t ht 6 _ rfl)
      have k7 := HCUR.out _ _ (letCells_at ls i t ht 7 _ rfl)
      have k8 := HCUR.out _ _ (letCells_at ls i t ht 8 _ rfl)
      have c6 : wr.cell? ⟨g2, i * 9 + 6, none⟩ = some (.slice none 0 0) := by rw [Lib.cell_of_heap hrow]; exact k6
      have c7 : wr.cell? ⟨g2, i * 9 + 7, none⟩ = some (.slice none 0 0) := by rw [Lib.cell_of_heap hrow]; exact k7
      have c8 : wr.cell? ⟨g2, i * 9 + 8, none⟩ = some (.slice none 0 0) := by rw [Lib.cell_of_heap hrow]; exact k8
      have f6 : wr.frozen? ⟨g2, i * 9 + 6, none⟩ = false := by simp [World.frozen?, hrow]
      have f7 : wr.frozen? ⟨g2, i * 9 + 7, none⟩ = false := by simp [World.frozen?, hrow]
      have f8 : wr.frozen? ⟨g2, i * 9 + 8, none⟩ = false := by simp [World.frozen?, hrow]
      have hil : (i : Int) < (ls.length : Int) := by omega
      have HROW := Lib.hid hrow
      have K6 := Lib.hid k6
      have K7 := Lib.hid k7
      have K8 := Lib.hid k8
      clear hrow k6 k7 k8 ht
      go_wp2_with fail
      go_region_law (first
        | (go_simp; go_at_call 103; refine Calls.mono (clonePairs_nil _) ?_; rintro e w ⟨rfl, rfl⟩))
      all_goals
        have k := setCell_same (i := i * 9 + 8) (v := .slice none 0 0) (setCell_same (i := i * 9 + 6) (v := .slice none 0 0) HROW.out K6.out) K8.out
        have hbX : Below w.heap.size w ((wr.setCell ⟨g2, i * 9 + 6, none⟩ (.slice none 0 0)).setCell ⟨g2, i * 9 + 8, none⟩ (.slice none 0 0)).drew := ((hbel.setCell (p := ⟨g2, i * 9 + 6, none⟩) hg2 _).setCell (p := ⟨g2, i * 9 + 8, none⟩) hg2 _).drew
        have hX : ((wr.setCell ⟨g2, i * 9 + 6, none⟩ (.slice none 0 0)).setCell ⟨g2, i * 9 + 8, none⟩ (.slice none 0 0)).drew.heap[g2]? = some (.cells cur 51 (0, 0)) := k
        clear k c6 c7 c8 f6 f7 f8
        generalize ((wr.setCell ⟨g2, i * 9 + 6, none⟩ (.slice none 0 0)).setCell ⟨g2, i * 9 + 8, none⟩ (.slice none 0 0)).drew = X at hbX hX ⊢
        have d7 : X.cell? ⟨g2, i * 9 + 7, none⟩ = some (.slice none 0 0) := by rw [Lib.cell_of_heap hX]; exact K7.out
        have e7 : X.frozen? ⟨g2, i * 9 + 7, none⟩ = false := by simp [World.frozen?, hX]
        have HX := Lib.hid hX
        have HBX := Lib.hid hbX
        clear hX hbX hbel
        go_wp2_with fail
        refine Calls.mono (copied_nil _) ?_
        rintro e w3 ⟨rfl, rfl⟩
        dsimp only
        go_wp2_with fail
        go_roundw
        case rel => exact ⟨i + 1, by go_num, by omega, setCell_same HX.out K7.out, HBX.out.setCell (p := ⟨g2, i * 9 + 7, none⟩) hg2 _⟩
        case measure => simp [intOf]; omega
    · obtain rfl : i = ls.length := by omega
      have HR := Lib.hid hrow
      have HBL := Lib.hid hbel
      clear hrow hbel
      go_wp2_with fail
      go_ret
      exact ⟨g2, cap2, rfl, hg2, (Array.getElem?_eq_some_iff.1 HR.out).1, fun j u hu => by rw [Lib.cell_of_heap HR.out]; exact HCUR.out j u hu, HBL.out⟩
end Go.Proofs.YtaadhehcoegmhaaGreatDoor
/- sheet at lets. -/
namespace Go.Proofs.YtaadhehcoegmhaaGreatDoor
open Go Go.RowKit

abbrev sheet5 (v : Value) : Array Value := #[.slice none 0 0, v, .slice none 0 0, .int .i64 0, .bool false]

set_option maxRecDepth 100000 in
set_option maxHeartbeats 4000000 in
theorem sheet_lets (g cap : Nat) (ls : List Lt) (w : World) (hl : ls.length ≤ 1000) (h0 : 0 < ls.length) (hgw : g < w.heap.size)
    (hc : ∀ j u, (letCells ls)[j]? = some u → w.cell? ⟨g, j, none⟩ = some u) :
    Calls Tryz.prog 42 #[.agg (sheet5 (.slice (some ⟨g, 0, none⟩) ls.length cap))] w fun e w' => ∃ g2 cap2, e = .returned (.agg (sheet5 (.slice (some ⟨g2, 0, none⟩) ls.length cap2))) ∧ w.heap.size ≤ g2 ∧ g2 < w'.heap.size ∧ (∀ j u, (letCells ls)[j]? = some u → w'.cell? ⟨g2, j, none⟩ = some u) ∧ Below w.heap.size w w' := by
  obtain ⟨W, hW⟩ : ∃ W, W = (w.alloc (.cells (sheet5 (.slice (some ⟨g, 0, none⟩) ls.length cap)) 59)).alloc (.cells (sheet5 (.slice none 0 0)) 59) := ⟨_, rfl⟩
  have hb : Below w.heap.size w W := by rw [hW]; exact ((Below.refl _ _).alloc (Nat.le_refl _) _).alloc (by simp) _
  have hq : W.heap[w.heap.size]? = some (.cells (sheet5 (.slice (some ⟨g, 0, none⟩) ls.length cap)) 59 (0, 0)) := by rw [hW]; exact alloc_old _ (heap_alloc_new w _) rfl
  have hr : W.heap[w.heap.size + 1]? = some (.cells (sheet5 (.slice none 0 0)) 59 (0, 0)) := by rw [hW]; exact new_at _ _ (by simp)
  have hs : W.heap.size = w.heap.size + 2 := by rw [hW]; simp
  have q0 : W.cell? ⟨w.heap.size, 0, none⟩ = some (.slice none 0 0) := by rw [Lib.cell_of_heap hq]; rfl
  have q1 : W.cell? ⟨w.heap.size, 1, none⟩ = some (.slice (some ⟨g, 0, none⟩) ls.length cap) := by rw [Lib.cell_of_heap hq]; rfl
  have q2 : W.cell? ⟨w.heap.size, 2, none⟩ = some (.slice none 0 0) := by rw [Lib.cell_of_heap hq]; rfl
  have z0 : W.frozen? ⟨w.heap.size, 0, none⟩ = false := by simp [World.frozen?, hq]
  have z1 : W.frozen? ⟨w.heap.size, 1, none⟩ = false := by simp [World.frozen?, hq]
  have z2 : W.frozen? ⟨w.heap.size, 2, none⟩ = false := by simp [World.frozen?, hq]
  have hcW : ∀ j u, (letCells ls)[j]? = some u → W.cell? ⟨g, j, none⟩ = some u := fun j u hu => (hb.cell (p := ⟨g, j, none⟩) hgw).trans (hc j u hu)
  have HCW := Lib.hid hcW
  have HQ := Lib.hid hq
  have HR := Lib.hid hr
  have HB := Lib.hid hb
  have HS := Lib.hid hs
  have HW := Lib.hid hW
  clear hc hcW hq hr hb hs
  go_enter Tryz.func42, Tryz.ntmps42
  go_wp2_with fail
  rw [← hW]
  clear hW
  go_region_law (first
    | (go_simp; go_at_call 100; refine Calls.mono (cloneRules_nil _) ?_; rintro e w ⟨rfl, rfl⟩)
    | (go_simp; go_at_call 101; refine Calls.mono (cloneTexts_nil _) ?_; rintro e w ⟨rfl, rfl⟩)
    | (go_simp; go_at_call 102; refine Calls.mono (copied_lets g cap ls _ hl h0 HCW.out) ?_; rintro e w3 ⟨g2, cap2, rfl, hg2, hlt2, hc2, hb2⟩; have r0 := (hb2.cell (at_lt q0)).trans q0; have r1 := (hb2.cell (at_lt q1)).trans q1; have r2 := (hb2.cell (at_lt q2)).trans q2
       have y0 := (hb2.frozen (p := ⟨w.heap.size, 0, none⟩) (at_lt q0)).trans z0; have y1 := (hb2.frozen (p := ⟨w.heap.size, 1, none⟩) (at_lt q1)).trans z1; have y2 := (hb2.frozen (p := ⟨w.heap.size, 2, none⟩) (at_lt q2)).trans z2))
  all_goals
    have hbb : Below w.heap.size w w3 := by first | exact below_then HB.out.drew (by have := HS.out; simp; omega) hb2 | exact below_then HB.out (by have := HS.out; omega) hb2
    have hq3 : w3.heap[w.heap.size]? = some (.cells (sheet5 (.slice (some ⟨g, 0, none⟩) ls.length cap)) 59 (0, 0)) := (hb2.block _ (Array.getElem?_eq_some_iff.1 HQ.out).1).trans HQ.out
    have hr3 : w3.heap[w.heap.size + 1]? = some (.cells (sheet5 (.slice none 0 0)) 59 (0, 0)) := (hb2.block _ (Array.getElem?_eq_some_iff.1 HR.out).1).trans HR.out
    have hgg : w.heap.size + 2 ≤ g2 := by have := HS.out; simp at hg2; omega
    have k := setCell_row (i := 1) (setCell_same (i := 2) (v := .slice none 0 0) (setCell_same (i := 0) (v := .slice none 0 0) hq3 rfl) rfl) (.slice (some ⟨g2, 0, none⟩) ls.length cap2)
    have ho : ∀ k', k' ≠ w.heap.size → (((w3.setCell ⟨w.heap.size, 0, none⟩ (.slice none 0 0)).setCell ⟨w.heap.size, 2, none⟩ (.slice none 0 0)).setCell ⟨w.heap.size, 1, none⟩ (.slice (some ⟨g2, 0, none⟩) ls.length cap2)).heap[k']? = w3.heap[k']? := fun k' hk => by
      rw [Below.heap_setCell _ _ _ _ hk, Below.heap_setCell _ _ _ _ hk, Below.heap_setCell _ _ _ _ hk]
    have hbX := ((hbb.setCell (p := ⟨w.heap.size, 0, none⟩) (Nat.le_refl _) (.slice none 0 0)).setCell (p := ⟨w.heap.size, 2, none⟩) (Nat.le_refl _) (.slice none 0 0)).setCell (p := ⟨w.heap.size, 1, none⟩) (Nat.le_refl _) (.slice (some ⟨g2, 0, none⟩) ls.length cap2)
    have hsz : (((w3.setCell ⟨w.heap.size, 0, none⟩ (.slice none 0 0)).setCell ⟨w.heap.size, 2, none⟩ (.slice none 0 0)).setCell ⟨w.heap.size, 1, none⟩ (.slice (some ⟨g2, 0, none⟩) ls.length cap2)).heap.size = w3.heap.size := by simp [World.setCell]
    generalize ((w3.setCell ⟨w.heap.size, 0, none⟩ (.slice none 0 0)).setCell ⟨w.heap.size, 2, none⟩ (.slice none 0 0)).setCell ⟨w.heap.size, 1, none⟩ (.slice (some ⟨g2, 0, none⟩) ls.length cap2) = X at k ho hbX hsz ⊢
    have hX : X.heap[w.heap.size]? = some (.cells (sheet5 (.slice (some ⟨g2, 0, none⟩) ls.length cap2)) 59 (0, 0)) := by rw [k]; rfl
    have hRX := (ho (w.heap.size + 1) (by omega)).trans hr3
    have hcX : ∀ j u, (letCells ls)[j]? = some u → X.cell? ⟨g2, j, none⟩ = some u := fun j u hu => (World.cell?_of_block (w := w3) (a := ⟨g2, j, none⟩) (ho g2 (by omega))).trans (hc2 j u hu)
    have x0 : X.cell? ⟨w.heap.size, 0, none⟩ = some (.slice none 0 0) := by rw [Lib.cell_of_heap hX]; rfl
    have x1 : X.cell? ⟨w.heap.size, 1, none⟩ = some (.slice (some ⟨g2, 0, none⟩) ls.length cap2) := by rw [Lib.cell_of_heap hX]; rfl
    have x2 : X.cell? ⟨w.heap.size, 2, none⟩ = some (.slice none 0 0) := by rw [Lib.cell_of_heap hX]; rfl
    have x3 : X.cell? ⟨w.heap.size, 3, none⟩ = some (.int .i64 0) := by rw [Lib.cell_of_heap hX]; rfl
    have x4 : X.cell? ⟨w.heap.size, 4, none⟩ = some (.bool false) := by rw [Lib.cell_of_heap hX]; rfl
    have HRX := Lib.hid hRX
    have HBX := Lib.hid hbX
    have HCX := Lib.hid hcX
    clear k ho hX hRX hbX hcX hbb hq3 hr3 hb2 hc2 r0 r1 r2 y0 y1 y2 q0 q1 q2 z0 z1 z2
    go_wp2_with fail
    go_loopw [19] (fun v wr => v = .int .i64 0 ∧ X = wr)
      (fun _ _ => 0)
    case atStart => exact ⟨rfl, rfl⟩
    case round =>
      obtain ⟨rfl, rfl⟩ := hrel
      go_wp2_with (refine wpList_store_row rfl 59 (.tmp 2) (.tmp 47) rfl (w.heap.size + 1) (sheet5 (.slice (some ⟨g2, 0, none⟩) ls.length cap2)) rfl rfl 59 _ HRX.out (by kernel_rfl) rfl (by simp [Value.oneCell']) ?_)
      exact bodyPost_ret (results_cell_row Tryz.results42 _ _ (w.heap.size + 1) 59 _ (0, 0) _ rfl (setRow_heap _ _ _ _ 59 _ HRX.out) Tryz.underlying59 rfl (by kernel_rfl)) rfl ⟨g2, cap2, rfl, by omega, by simp [World.setRow]; omega, fun j u hu => (World.cell?_of_block (a := ⟨g2, j, none⟩) (heap_setRow_ne _ _ _ _ (by show g2 ≠ w.heap.size + 1; omega))).trans (HCX.out j u hu), below_setRow HBX.out (by omega)⟩
end Go.Proofs.YtaadhehcoegmhaaGreatDoor
/- keyOf without a scope; two keys compared. -/
namespace Go.Proofs.YtaadhehcoegmhaaGreatDoor
open Go Go.RowKit

abbrev key2 (s : ByteArray) : Array Value := #[.string s, .string ⟨#[]⟩]

set_option maxRecDepth 100000 in
set_option maxHeartbeats 1000000 in
theorem keyOf_nil (s : ByteArray) (w : World) : Calls Tryz.prog 110 #[.string s, .slice none 0 0] w fun e w' => e = .returned (.agg (key2 s)) ∧ Below w.heap.size w w' := by
  obtain ⟨W, hW⟩ : ∃ W, W = ((w.alloc (.cells (key2 ⟨#[]⟩) 172)).alloc (.cells (key2 ⟨#[]⟩) 172)).setRow (w.heap.size + 1) (key2 s) := ⟨_, rfl⟩
  have hg1 : ((w.alloc (.cells (key2 ⟨#[]⟩) 172)).alloc (.cells (key2 ⟨#[]⟩) 172)).heap[w.heap.size + 1]? = some (.cells (key2 ⟨#[]⟩) 172 (0, 0)) := new_at _ _ (by simp)
  have hg0 : ((w.alloc (.cells (key2 ⟨#[]⟩) 172)).alloc (.cells (key2 ⟨#[]⟩) 172)).heap[w.heap.size]? = some (.cells (key2 ⟨#[]⟩) 172 (0, 0)) := alloc_old _ (heap_alloc_new w _) rfl
  have hq : W.heap[w.heap.size + 1]? = some (.cells (key2 s) 172 (0, 0)) := by rw [hW]; exact setRow_heap _ _ _ _ 172 _ hg1
  have hr : W.heap[w.heap.size]? = some (.cells (key2 ⟨#[]⟩) 172 (0, 0)) := by rw [hW, heap_setRow_ne _ _ _ _ (by omega)]; exact hg0
  have hb : Below w.heap.size w W := by rw [hW]; exact below_setRow (((Below.refl _ _).alloc (Nat.le_refl _) _).alloc (by simp) _) (by omega)
  have q0 : W.cell? ⟨w.heap.size + 1, 0, none⟩ = some (.string s) := by rw [Lib.cell_of_heap hq]; rfl
  have q1 : W.cell? ⟨w.heap.size + 1, 1, none⟩ = some (.string ⟨#[]⟩) := by rw [Lib.cell_of_heap hq]; rfl
  have HW := Lib.hid hW
  have HG1 := Lib.hid hg1
  have HR := Lib.hid hr
  have HB := Lib.hid hb
  clear hW hg1 hg0 hq hr hb
  go_enter Tryz.func110, Tryz.ntmps110
  go_wp2_with (refine wpList_store_row rfl 172 (.tmp 5) (.tmp 9) rfl (w.heap.size + 1) (key2 s) rfl rfl 172 _ HG1.out (by kernel_rfl) rfl (by simp [Value.oneCell']) ?_; rw [← HW.out])
  go_loopw [12] (fun v wr => v = .int .i64 0 ∧ W = wr)
    (fun _ _ => 0)
  case atStart => exact ⟨rfl, rfl⟩
  case round =>
    obtain ⟨rfl, rfl⟩ := hrel
    go_wp2_with (refine wpList_store_row rfl 172 (.tmp 4) (.tmp 28) rfl w.heap.size (key2 s) rfl rfl 172 _ HR.out (by kernel_rfl) rfl (by simp [Value.oneCell']) ?_)
    exact bodyPost_ret (results_cell_row Tryz.results110 _ _ (w.heap.size) 172 _ (0, 0) _ rfl (setRow_heap _ _ _ _ 172 _ HR.out) Tryz.underlying172 rfl (by kernel_rfl)) rfl ⟨rfl, below_setRow HB.out (Nat.le_refl _)⟩

theorem part0 (s : ByteArray) (w : World) : (part 9 (key2 s) (0 * Tryz.prog.cellsOf 9)).run Tryz.prog w = .ok (.string s) w := by kernel_rfl
theorem part1 (s : ByteArray) (w : World) : (part 9 (key2 s) (1 * Tryz.prog.cellsOf 9)).run Tryz.prog w = .ok (.string ⟨#[]⟩) w := by kernel_rfl
theorem equal_str (d : Nat) (a b : ByteArray) (w : World) : (Op.equalIn (d + 1) 9 (.string a) (.string b)).run Tryz.prog w = .ok (a == b) w := by
  simp [Op.equalIn, run_underlying Tryz.underlying9]

theorem run_equal_key (a b : ByteArray) (w : World) : (Op.equal 172 (.agg (key2 a)) (.agg (key2 b))).run Tryz.prog w = .ok (a == b) w := by
  obtain ⟨i0, hi, _⟩ := info_parts info9
  show (Op.equalIn (9999 + 1) 172 _ _).run Tryz.prog w = _
  rw [run_equalIn_array (P := Tryz.prog) w 9999 (key2 a) (key2 b) Tryz.underlying172 hi]
  simp only [show List.range 2 = [0, 1] from rfl, Op.eqItems, Sem.run_bind, part0, Result.andThen_ok]
  rw [show (9999 : Nat) = 9998 + 1 from rfl, equal_str]
  cases h : (a == b)
  · simp [Result.andThen]
  · have h1 := fun s => part1 s w
    simp only [Nat.one_mul] at h1
    have h2 := equal_str 9998 ⟨#[]⟩ ⟨#[]⟩ w
    have he : ((⟨#[]⟩ : ByteArray) == ⟨#[]⟩) = true := rfl
    rw [he] at h2
    simp [Result.andThen, h1, h2]

/-- Two keys, as the walk compares them. -/
theorem run_eql_key (a b : ByteArray) (w : World) : (binOp .eql 172 (.agg (key2 a)) (.agg (key2 b))).run Tryz.prog w = .ok (.bool (a == b)) w := by
  simp only [binOp]
  simp [run_equal_key]
end Go.Proofs.YtaadhehcoegmhaaGreatDoor
/- A new key laid into the codes' map. -/
namespace Go.Proofs.YtaadhehcoegmhaaGreatDoor
open Go Go.RowKit

theorem checkKey_key (s : ByteArray) (w : World) : (Instr.checkKey false 10000 172 (.agg (key2 s))).run Tryz.prog w = .ok () w := by kernel_rfl

/-- Entries whose keys are other texts. -/
def KeysNot (s : ByteArray) (l : List MapEntry) : Prop := ∀ x ∈ l, ∃ k, x.key = .agg (key2 k) ∧ (s == k) = false ∧ (k == s) = false

theorem findAsking_not (s : ByteArray) (w : World) : ∀ (l : List MapEntry) (i : Nat), KeysNot s l → (Instr.findAsking 172 (.agg (key2 s)) l i).run Tryz.prog w = .ok none w
  | [], i, _ => rfl
  | x :: l, i, h => by
    obtain ⟨k, hk, hne, _⟩ := h x (by simp)
    have ih := findAsking_not s w l (i + 1) (fun y hy => h y (by simp [hy]))
    unfold Instr.findAsking
    rw [hk]
    simp only [Sem.run_bind, run_equal_key, hne, Result.andThen_ok]
    exact ih

theorem findKey_not (s : ByteArray) (w : World) (l : List MapEntry) (h : KeysNot s l) : (Instr.findKey 172 (.agg (key2 s)) l).run Tryz.prog w = .ok none w := by
  unfold Instr.findKey
  simp only [Sem.run_bind, run_underlying Tryz.underlying172, Result.andThen_ok]
  cases l with
  | nil => rfl
  | cons x l =>
    obtain ⟨k, hk, _⟩ := h x (by simp)
    have : Instr.findNow (.array 2 9) (.agg (key2 s)) (x :: l) 0 = none := by simp [Instr.findNow, Instr.sameNow]
    rw [this]
    exact findAsking_not s w (x :: l) 0 h

theorem run_mapUpdate_key (s : ByteArray) (v : Value) (mb clock : Nat) (es : Array MapEntry) (w : World) (hb : w.heap[mb]? = some (.map es clock)) (h : KeysNot s es.toList) :
    (Instr.mapUpdate 95 (.map (some mb)) (.agg (key2 s)) v).run Tryz.prog w = .ok () { w with heap := w.heap.setIfInBounds mb (.map (es.push { key := .agg (key2 s), val := v, born := clock }) (clock + 1)) } := by
  simp [Instr.mapUpdate, run_underlying Tryz.underlying95, MapKept.run_getObj_map hb, checkKey_key, findKey_not s w _ h, MapKept.run_setObj_map _ hb, Result.andThen]
end Go.Proofs.YtaadhehcoegmhaaGreatDoor
/- compile: a new text's code. -/
namespace Go.Proofs.YtaadhehcoegmhaaGreatDoor
open Go Go.RowKit

/-- How many of the map's entries are still to come. -/
def leftIn (es : Array MapEntry) (r : Nat) (w : World) : Nat := match w.heap[r]? with | some (.mapIter _ _ seen _) => (leftOf es seen).size | _ => 0

theorem heap_setBlock_at {w : World} {r k : Nat} {o o' : Obj} (hr : w.heap[r]? = some o') : (ChangeMaps.setBlock w r o).heap[k]? = if k = r then some o else w.heap[k]? := by
  have hlt := (Array.getElem?_eq_some_iff.1 hr).1
  unfold ChangeMaps.setBlock
  simp only [Array.getElem?_setIfInBounds]
  by_cases h : r = k
  · subst h; simp [hlt]
  · rw [if_neg h, if_neg (Ne.symm h)]
theorem below_setBlock {B : Nat} {a w : World} (h : Below B a w) {r : Nat} {o o' : Obj} (hr : w.heap[r]? = some o') (hB : B ≤ r) : Below B a (ChangeMaps.setBlock w r o) :=
  h.trans ⟨rfl, rfl, rfl, by simp [ChangeMaps.setBlock], fun k hk => by rw [heap_setBlock_at hr, if_neg (by omega)]⟩

set_option maxRecDepth 100000 in
set_option maxHeartbeats 4000000 in
theorem compile_new (pp mb clock : Nat) (es : Array MapEntry) (sel : List UInt8) (op k v : Int) (x : List UInt8) (w : World) (hE : Env w) (hp : w.cell? ⟨pp, 6, none⟩ = some (.map (some mb))) (hm : w.heap[mb]? = some (.map es clock))
    (hk : KeysNot (bs sel) es.toList) (hborn : ∀ y ∈ es.toList, y.born < clock) (hnd : (es.toList.map (·.born)).Nodup)
    (hparse : ∀ w, Calls Tryz.prog 104 #[.string (bs sel)] w fun e w' => e = .returned (.tuple #[.agg (leaf7 op x k v), .int .i64 0]) ∧ Below w.heap.size w w')
    (hev : ∀ w, Env w → Calls Tryz.prog 106 #[.agg (leaf7 op x k v), .slice none 0 0] w fun e w' => ∃ c, e = .returned (.tuple #[.pointer (some ⟨c, 0, none⟩), .int .i64 0]) ∧ Below w.heap.size w w') :
    Calls Tryz.prog 47 #[.pointer (some ⟨pp, 0, none⟩), .string (bs sel), .slice none 0 0] w fun e w' => ∃ c, e = .returned (.tuple #[.pointer (some ⟨c, 0, none⟩), .int .i64 0]) ∧
      w'.heap[mb]? = some (.map (es.push { key := .agg (key2 (bs sel)), val := .pointer (some ⟨c, 0, none⟩), born := clock }) (clock + 1)) ∧ w.grownBy w' (some mb) := by
  have HPA := Lib.hid hparse
  have HEV := Lib.hid hev
  have HK := Lib.hid hk
  have HBO := Lib.hid hborn
  have HND := Lib.hid hnd
  have HMB := Lib.hid hm
  have HPP := Lib.hid hp
  clear hparse hev hk hborn hnd hm hp
  go_enter Tryz.func47, Tryz.ntmps47
  go_wp2_with fail
  refine Calls.mono (keyOf_nil (bs sel) w) ?_
  rintro e w1 ⟨rfl, hb1⟩
  dsimp only
  obtain ⟨hp1, hp2, hp3⟩ := put_new w1 (key2 ⟨#[]⟩) (key2 (bs sel)) 172
  have HGA := Lib.hid (heap_alloc_new w1 (.cells (key2 ⟨#[]⟩) 172))
  obtain ⟨W, hW⟩ : ∃ W, W = (w1.alloc (.cells (key2 ⟨#[]⟩) 172)).setRow w1.heap.size (key2 (bs sel)) := ⟨_, rfl⟩
  rw [← hW] at hp1 hp2 hp3
  have HW := Lib.hid hW
  have hbw := below_then hb1 hb1.size hp1
  have hmW := (hbw.block mb (Array.getElem?_eq_some_iff.1 HMB.out).1).trans HMB.out
  have hpW := (hbw.cell (p := ⟨pp, 6, none⟩) (at_lt HPP.out)).trans HPP.out
  have hrg := run_range_map (P := Tryz.prog) W 95 172 69 mb es clock Tryz.underlying95 hmW
  have HMW := Lib.hid hmW
  have HBW := Lib.hid hbw
  have HKW := Lib.hid hp2
  have hmlt : mb < w.heap.size := (Array.getElem?_eq_some_iff.1 HMB.out).1
  have hsW := hbw.size
  have hs1 := hb1.size
  have HP3 := Lib.hid hp3
  clear hp1 hp2 hp3 hW hb1 hmW hbw
  go_wp2_with (refine wpList_store_row rfl 172 (.tmp 8) (.tmp 16) rfl w1.heap.size (key2 (bs sel)) rfl rfl 172 _ HGA.out (by kernel_rfl) rfl (by simp [Value.oneCell']) ?_; rw [← HW.out])
  go_loopw [10] (fun _ wr => ∃ seen c0, wr.heap[W.heap.size]? = some (.mapIter (some mb) clock seen c0) ∧ clock ≤ c0 ∧ Below W.heap.size W wr)
    (fun _ wr => leftIn es W.heap.size wr)
  case atStart => exact ⟨#[], clock, heap_alloc_new W _, Nat.le_refl _, (Below.refl _ _).alloc (Nat.le_refl _) _⟩
  case round =>
    obtain ⟨seen, c0, hit, hc0, hbel⟩ := hrel
    rename World => wr
    have hmr := (hbel.block mb (by omega)).trans HMW.out
    rcases run_next_at (P := Tryz.prog) wr 0 W.heap.size mb clock c0 seen es clock hit hmr HBO.out hc0 with ⟨h0, hx⟩ | ⟨en, hen, w2, hw2, hx⟩
    · have HBR := Lib.hid hbel
      clear hit hbel h0
      go_wp2_with fail
      refine Calls.mono (HPA.out wr) ?_
      rintro e w5 ⟨rfl, hb5⟩
      dsimp only
      have hmr5 := (hb5.block mb (Array.getElem?_eq_some_iff.1 hmr).1).trans hmr
      obtain ⟨hp1, hp2, hp3⟩ := put_new w5 (leaf7 0 [] 0 0) (leaf7 op x k v) 155
      have HG5 := Lib.hid (heap_alloc_new w5 (.cells (leaf7 0 [] 0 0) 155))
      obtain ⟨W6, hW6⟩ : ∃ W6, W6 = (w5.alloc (.cells (leaf7 0 [] 0 0) 155)).setRow w5.heap.size (leaf7 op x k v) := ⟨_, rfl⟩
      rw [← hW6] at hp1 hp2 hp3
      have HW6 := Lib.hid hW6
      have r0 : W6.cell? ⟨w5.heap.size, 0, none⟩ = some (.int .i64 op) := by rw [Lib.cell_of_heap hp2]; rfl
      have r1 : W6.cell? ⟨w5.heap.size, 1, none⟩ = some (.string (bs x)) := by rw [Lib.cell_of_heap hp2]; rfl
      have r2 : W6.cell? ⟨w5.heap.size, 2, none⟩ = some (.int .i64 k) := by rw [Lib.cell_of_heap hp2]; rfl
      have r3 : W6.cell? ⟨w5.heap.size, 3, none⟩ = some (.int .i64 v) := by rw [Lib.cell_of_heap hp2]; rfl
      have r4 : W6.cell? ⟨w5.heap.size, 4, none⟩ = some (.int .i64 0) := by rw [Lib.cell_of_heap hp2]; rfl
      have r5 : W6.cell? ⟨w5.heap.size, 5, none⟩ = some (.int .i64 0) := by rw [Lib.cell_of_heap hp2]; rfl
      have r6 : W6.cell? ⟨w5.heap.size, 6, none⟩ = some (.slice none 0 0) := by rw [Lib.cell_of_heap hp2]; rfl
      have h56 := Lib.hid (HBR.out.trans ((below_then hb5 hb5.size hp1).mono HBR.out.size))
      have H5 := Lib.hid hb5.size
      clear hp1 hp2 hp3 hW6 hb5 hmr hmr5
      go_wp2_with (refine wpList_store_row rfl 155 (.tmp 11) (.tmp 34) rfl w5.heap.size (leaf7 op x k v) rfl rfl 155 _ HG5.out (by kernel_rfl) rfl (by simp [Value.oneCell']) ?_; rw [← HW6.out])
      refine Calls.mono (HEV.out W6 (hE.below (HBW.out.trans (h56.out.mono hsW)))) ?_
      rintro e w7 ⟨c, rfl, hb7⟩
      dsimp only
      have h67 := below_then h56.out h56.out.size (show Below W6.heap.size W6 w7 from hb7)
      have hb07 : Below w.heap.size w w7 := HBW.out.trans (h67.mono hsW)
      have hm7 := (hb07.block mb hmlt).trans HMB.out
      have hp7 := (hb07.cell (p := ⟨pp, 6, none⟩) (at_lt HPP.out)).trans HPP.out
      have hk7 := (h67.block w1.heap.size (by have := HP3.out; omega)).trans HKW.out
      have b0 : w7.cell? ⟨w1.heap.size, 0, none⟩ = some (.string (bs sel)) := by rw [Lib.cell_of_heap hk7]; rfl
      have b1 : w7.cell? ⟨w1.heap.size, 1, none⟩ = some (.string ⟨#[]⟩) := by rw [Lib.cell_of_heap hk7]; rfl
      have hmu := run_mapUpdate_key (bs sel) (.pointer (some ⟨c, 0, none⟩)) mb clock es w7.drew hm7 HK.out
      obtain ⟨W8, hW8⟩ : ∃ W8, W8 = { w7.drew with heap := w7.drew.heap.setIfInBounds mb (.map (es.push { key := .agg (key2 (bs sel)), val := .pointer (some ⟨c, 0, none⟩), born := clock }) (clock + 1)) } := ⟨_, rfl⟩
      rw [← hW8] at hmu
      have hlt7 : mb < w7.heap.size := (Array.getElem?_eq_some_iff.1 hm7).1
      have hfin : W8.heap[mb]? = some (.map (es.push { key := .agg (key2 (bs sel)), val := .pointer (some ⟨c, 0, none⟩), born := clock }) (clock + 1)) ∧ w.grownBy W8 (some mb) := by
        rw [hW8]
        refine ⟨by show (w7.heap.setIfInBounds mb _)[mb]? = _; simp [hlt7], (grown_of_below hb07.drew (some mb)).trans (grownBy_setIn _)⟩
      have HFIN := Lib.hid hfin
      clear hfin hW8 hm7 hk7 h67 hb07 hb7 hlt7 r0 r1 r2 r3 r4 r5 r6
      go_wp2_with fail
      go_region_law (go_simp)
      all_goals first | (go_ret2; exact ⟨_, rfl, HFIN.out⟩) | (go_wp2_with fail; go_ret2; exact ⟨_, rfl, HFIN.out⟩)
    · obtain ⟨hmem, hnseen⟩ := mem_left hen
      obtain ⟨kk, hkk, _, hne⟩ := HK.out en hmem
      have hit2 : w2.heap[W.heap.size]? = some (.mapIter (some mb) clock seen c0) := by rcases hw2 with rfl | rfl <;> exact hit
      have hbel2 : Below W.heap.size W w2 := by rcases hw2 with rfl | rfl; exact hbel; exact hbel.drew
      obtain ⟨w3, hw3⟩ : ∃ w3, w3 = ChangeMaps.setBlock w2 W.heap.size (.mapIter (some mb) clock (seen.push en.born) clock) := ⟨_, rfl⟩
      have hit3 : w3.heap[W.heap.size]? = some (.mapIter (some mb) clock (seen.push en.born) clock) := by rw [hw3, heap_setBlock_at hit2, if_pos rfl]
      have hbel3 : Below W.heap.size W w3 := by rw [hw3]; exact below_setBlock hbel2 hit2 (Nat.le_refl _)
      rw [← hw3] at hx
      have hm3 := (hbel3.block mb (by omega)).trans HMW.out
      have hent := run_entry_at (P := Tryz.prog) w3 W.heap.size mb clock seen es clock en hit3 hm3 hmem HND.out
      rw [hkk] at hx hent
      obtain ⟨hp1, hp2, hp3⟩ := put_new w3 (key2 ⟨#[]⟩) (key2 kk) 172
      have HG3 := Lib.hid (heap_alloc_new w3 (.cells (key2 ⟨#[]⟩) 172))
      obtain ⟨W4, hW4⟩ : ∃ W4, W4 = (w3.alloc (.cells (key2 ⟨#[]⟩) 172)).setRow w3.heap.size (key2 kk) := ⟨_, rfl⟩
      rw [← hW4] at hp1 hp2 hp3
      have HW4 := Lib.hid hW4
      have hbel4 : Below W.heap.size W W4 := below_then hbel3 hbel3.size hp1
      have hk8 := (hbel4.block w1.heap.size (by have := HP3.out; omega)).trans HKW.out
      have a0 : W4.cell? ⟨w3.heap.size, 0, none⟩ = some (.string kk) := by rw [Lib.cell_of_heap hp2]; rfl
      have a1 : W4.cell? ⟨w3.heap.size, 1, none⟩ = some (.string ⟨#[]⟩) := by rw [Lib.cell_of_heap hp2]; rfl
      have b0 : W4.cell? ⟨w1.heap.size, 0, none⟩ = some (.string (bs sel)) := by rw [Lib.cell_of_heap hk8]; rfl
      have b1 : W4.cell? ⟨w1.heap.size, 1, none⟩ = some (.string ⟨#[]⟩) := by rw [Lib.cell_of_heap hk8]; rfl
      have hit4 : W4.heap[W.heap.size]? = some (.mapIter (some mb) clock (seen.push en.born) clock) := (hp1.block _ (Array.getElem?_eq_some_iff.1 hit3).1).trans hit3
      have HLE := Lib.hid (show leftIn es W.heap.size W4 < leftIn es W.heap.size wr by
        unfold leftIn; rw [hit4, hit]; exact left_shrinks es seen en hen)
      have HB4 := Lib.hid hbel4
      have HI4 := Lib.hid hit4
      have hcm : (Op.equalIn 10000 172 (.agg #[.string kk, .string ⟨#[]⟩]) (.agg #[.string (bs sel), .string ⟨#[]⟩])).run Tryz.prog W4 = .ok false W4 := by
        have := run_equal_key kk (bs sel) W4
        rw [hne] at this
        exact this
      clear hw3 hp1 hp2 hp3 hW4 hbel4 hk8 hit4 hbel3 hit3 hm3 hbel2 hit2
      go_wp2_with (refine wpList_store_row rfl 172 (.tmp 9) (.tmp 25) rfl w3.heap.size (key2 kk) rfl rfl 172 _ HG3.out (by kernel_rfl) rfl (by simp [Value.oneCell']) ?_; rw [← HW4.out])
      go_roundw
      case rel => exact ⟨_, _, HI4.out, Nat.le_refl _, HB4.out⟩
      case measure => exact HLE.out
end Go.Proofs.YtaadhehcoegmhaaGreatDoor
/- compile: a text's code, be it there or not. -/
namespace Go.Proofs.YtaadhehcoegmhaaGreatDoor
open Go Go.RowKit

theorem byte_comm (a b : ByteArray) : (a == b) = (b == a) := by
  have e : ∀ x y : ByteArray, (x == y) = (x.data == y.data) := fun _ _ => rfl
  rw [e, e, BEq.comm]

/-- The codes' map: keys of two texts, codes behind them. -/
structure CodesAt (mb : Nat) (w : World) : Prop where
  out : ∃ es clock, w.heap[mb]? = some (.map es clock) ∧ (∀ y ∈ es.toList, y.born < clock) ∧ (es.toList.map (·.born)).Nodup ∧ ∀ y ∈ es.toList, (∃ k, y.key = .agg (key2 k)) ∧ ∃ c, y.val = .pointer (some ⟨c, 0, none⟩)
theorem CodesAt.below {mb : Nat} {w w' : World} (h : CodesAt mb w) (hb : Below w.heap.size w w') : CodesAt mb w' := by
  obtain ⟨es, clock, hm, rest⟩ := h.out
  exact ⟨es, clock, (hb.block mb (Array.getElem?_eq_some_iff.1 hm).1).trans hm, rest⟩

set_option maxRecDepth 100000 in
set_option maxHeartbeats 4000000 in
theorem compile_any (pp mb : Nat) (sel : List UInt8) (op k v : Int) (x : List UInt8) (w : World) (hE : Env w) (hp : w.cell? ⟨pp, 6, none⟩ = some (.map (some mb))) (hcodes : CodesAt mb w)
    (hparse : ∀ w, Calls Tryz.prog 104 #[.string (bs sel)] w fun e w' => e = .returned (.tuple #[.agg (leaf7 op x k v), .int .i64 0]) ∧ Below w.heap.size w w')
    (hev : ∀ w, Env w → Calls Tryz.prog 106 #[.agg (leaf7 op x k v), .slice none 0 0] w fun e w' => ∃ c, e = .returned (.tuple #[.pointer (some ⟨c, 0, none⟩), .int .i64 0]) ∧ Below w.heap.size w w') :
    Calls Tryz.prog 47 #[.pointer (some ⟨pp, 0, none⟩), .string (bs sel), .slice none 0 0] w fun e w' => ∃ c, e = .returned (.tuple #[.pointer (some ⟨c, 0, none⟩), .int .i64 0]) ∧
      CodesAt mb w' ∧ w.grownBy w' (some mb) := by
  obtain ⟨es, clock, hm, hborn, hnd, hk⟩ := hcodes.out
  clear hcodes
  have HPA := Lib.hid hparse
  have HEV := Lib.hid hev
  have HK := Lib.hid hk
  have HBO := Lib.hid hborn
  have HND := Lib.hid hnd
  have HMB := Lib.hid hm
  have HPP := Lib.hid hp
  clear hparse hev hk hborn hnd hm hp
  go_enter Tryz.func47, Tryz.ntmps47
  go_wp2_with fail
  refine Calls.mono (keyOf_nil (bs sel) w) ?_
  rintro e w1 ⟨rfl, hb1⟩
  dsimp only
  obtain ⟨hp1, hp2, hp3⟩ := put_new w1 (key2 ⟨#[]⟩) (key2 (bs sel)) 172
  have HGA := Lib.hid (heap_alloc_new w1 (.cells (key2 ⟨#[]⟩) 172))
  obtain ⟨W, hW⟩ : ∃ W, W = (w1.alloc (.cells (key2 ⟨#[]⟩) 172)).setRow w1.heap.size (key2 (bs sel)) := ⟨_, rfl⟩
  rw [← hW] at hp1 hp2 hp3
  have HW := Lib.hid hW
  have hbw := below_then hb1 hb1.size hp1
  have hmW := (hbw.block mb (Array.getElem?_eq_some_iff.1 HMB.out).1).trans HMB.out
  have hpW := (hbw.cell (p := ⟨pp, 6, none⟩) (at_lt HPP.out)).trans HPP.out
  have hrg := run_range_map (P := Tryz.prog) W 95 172 69 mb es clock Tryz.underlying95 hmW
  have HMW := Lib.hid hmW
  have HBW := Lib.hid hbw
  have HKW := Lib.hid hp2
  have hmlt : mb < w.heap.size := (Array.getElem?_eq_some_iff.1 HMB.out).1
  have hsW := hbw.size
  have hs1 := hb1.size
  have HP3 := Lib.hid hp3
  clear hp1 hp2 hp3 hW hb1 hmW hbw
  go_wp2_with (refine wpList_store_row rfl 172 (.tmp 8) (.tmp 16) rfl w1.heap.size (key2 (bs sel)) rfl rfl 172 _ HGA.out (by kernel_rfl) rfl (by simp [Value.oneCell']) ?_; rw [← HW.out])
  go_loopw [10] (fun _ wr => ∃ seen c0, wr.heap[W.heap.size]? = some (.mapIter (some mb) clock seen c0) ∧ clock ≤ c0 ∧ Below W.heap.size W wr ∧ ∀ y ∈ es.toList, seen.contains y.born = true → ∃ k, y.key = .agg (key2 k) ∧ (bs sel == k) = false ∧ (k == bs sel) = false)
    (fun _ wr => leftIn es W.heap.size wr)
  case atStart => exact ⟨#[], clock, heap_alloc_new W _, Nat.le_refl _, (Below.refl _ _).alloc (Nat.le_refl _) _, fun y _ hy => by simp at hy⟩
  case round =>
    obtain ⟨seen, c0, hit, hc0, hbel, hsn⟩ := hrel
    rename World => wr
    have hmr := (hbel.block mb (by omega)).trans HMW.out
    rcases run_next_at (P := Tryz.prog) wr 0 W.heap.size mb clock c0 seen es clock hit hmr HBO.out hc0 with ⟨h0, hx⟩ | ⟨en, hen, w2, hw2, hx⟩
    · have HKN := Lib.hid (show KeysNot (bs sel) es.toList from fun y hy => hsn y hy (all_seen es seen h0 y hy))
      have HBR := Lib.hid hbel
      clear hit hbel h0 hsn
      go_wp2_with fail
      refine Calls.mono (HPA.out wr) ?_
      rintro e w5 ⟨rfl, hb5⟩
      dsimp only
      have hmr5 := (hb5.block mb (Array.getElem?_eq_some_iff.1 hmr).1).trans hmr
      obtain ⟨hp1, hp2, hp3⟩ := put_new w5 (leaf7 0 [] 0 0) (leaf7 op x k v) 155
      have HG5 := Lib.hid (heap_alloc_new w5 (.cells (leaf7 0 [] 0 0) 155))
      obtain ⟨W6, hW6⟩ : ∃ W6, W6 = (w5.alloc (.cells (leaf7 0 [] 0 0) 155)).setRow w5.heap.size (leaf7 op x k v) := ⟨_, rfl⟩
      rw [← hW6] at hp1 hp2 hp3
      have HW6 := Lib.hid hW6
      have r0 : W6.cell? ⟨w5.heap.size, 0, none⟩ = some (.int .i64 op) := by rw [Lib.cell_of_heap hp2]; rfl
      have r1 : W6.cell? ⟨w5.heap.size, 1, none⟩ = some (.string (bs x)) := by rw [Lib.cell_of_heap hp2]; rfl
      have r2 : W6.cell? ⟨w5.heap.size, 2, none⟩ = some (.int .i64 k) := by rw [Lib.cell_of_heap hp2]; rfl
      have r3 : W6.cell? ⟨w5.heap.size, 3, none⟩ = some (.int .i64 v) := by rw [Lib.cell_of_heap hp2]; rfl
      have r4 : W6.cell? ⟨w5.heap.size, 4, none⟩ = some (.int .i64 0) := by rw [Lib.cell_of_heap hp2]; rfl
      have r5 : W6.cell? ⟨w5.heap.size, 5, none⟩ = some (.int .i64 0) := by rw [Lib.cell_of_heap hp2]; rfl
      have r6 : W6.cell? ⟨w5.heap.size, 6, none⟩ = some (.slice none 0 0) := by rw [Lib.cell_of_heap hp2]; rfl
      have h56 := Lib.hid (HBR.out.trans ((below_then hb5 hb5.size hp1).mono HBR.out.size))
      have H5 := Lib.hid hb5.size
      clear hp1 hp2 hp3 hW6 hb5 hmr hmr5
      go_wp2_with (refine wpList_store_row rfl 155 (.tmp 11) (.tmp 34) rfl w5.heap.size (leaf7 op x k v) rfl rfl 155 _ HG5.out (by kernel_rfl) rfl (by simp [Value.oneCell']) ?_; rw [← HW6.out])
      refine Calls.mono (HEV.out W6 (hE.below (HBW.out.trans (h56.out.mono hsW)))) ?_
      rintro e w7 ⟨c, rfl, hb7⟩
      dsimp only
      have h67 := below_then h56.out h56.out.size (show Below W6.heap.size W6 w7 from hb7)
      have hb07 : Below w.heap.size w w7 := HBW.out.trans (h67.mono hsW)
      have hm7 := (hb07.block mb hmlt).trans HMB.out
      have hp7 := (hb07.cell (p := ⟨pp, 6, none⟩) (at_lt HPP.out)).trans HPP.out
      have hk7 := (h67.block w1.heap.size (by have := HP3.out; omega)).trans HKW.out
      have b0 : w7.cell? ⟨w1.heap.size, 0, none⟩ = some (.string (bs sel)) := by rw [Lib.cell_of_heap hk7]; rfl
      have b1 : w7.cell? ⟨w1.heap.size, 1, none⟩ = some (.string ⟨#[]⟩) := by rw [Lib.cell_of_heap hk7]; rfl
      have hmu := run_mapUpdate_key (bs sel) (.pointer (some ⟨c, 0, none⟩)) mb clock es w7.drew hm7 HKN.out
      obtain ⟨W8, hW8⟩ : ∃ W8, W8 = { w7.drew with heap := w7.drew.heap.setIfInBounds mb (.map (es.push { key := .agg (key2 (bs sel)), val := .pointer (some ⟨c, 0, none⟩), born := clock }) (clock + 1)) } := ⟨_, rfl⟩
      rw [← hW8] at hmu
      have hlt7 : mb < w7.heap.size := (Array.getElem?_eq_some_iff.1 hm7).1
      have hfin : W8.heap[mb]? = some (.map (es.push { key := .agg (key2 (bs sel)), val := .pointer (some ⟨c, 0, none⟩), born := clock }) (clock + 1)) ∧ w.grownBy W8 (some mb) := by
        rw [hW8]
        refine ⟨by show (w7.heap.setIfInBounds mb _)[mb]? = _; simp [hlt7], (grown_of_below hb07.drew (some mb)).trans (grownBy_setIn _)⟩
      have HFIN := Lib.hid hfin
      have HCO := Lib.hid (show CodesAt mb W8 from ⟨_, _, hfin.1, fun y hy => by
          simp at hy
          rcases hy with hy | rfl
          · have := HBO.out y (by simpa using hy); omega
          · simp, by
          simp only [Array.toList_push, List.map_append, List.nodup_append, List.map_cons, List.map_nil]
          refine ⟨HND.out, by simp, ?_⟩
          rintro a ha b hb rfl
          obtain ⟨y, hy, rfl⟩ := List.mem_map.1 ha
          have := HBO.out y hy
          simp at hb
          omega, fun y hy => by
          simp at hy
          rcases hy with hy | rfl
          · exact HK.out y (by simpa using hy)
          · exact ⟨⟨_, rfl⟩, _, rfl⟩⟩)
      clear hfin hW8 hm7 hk7 h67 hb07 hb7 hlt7 r0 r1 r2 r3 r4 r5 r6
      go_wp2_with fail
      go_region_law (go_simp)
      all_goals first | (go_ret2; exact ⟨_, rfl, HCO.out, HFIN.out.2⟩) | (go_wp2_with fail; go_ret2; exact ⟨_, rfl, HCO.out, HFIN.out.2⟩)
    · obtain ⟨hmem, hnseen⟩ := mem_left hen
      obtain ⟨⟨kk, hkk⟩, vc, hvc⟩ := HK.out en hmem
      have hit2 : w2.heap[W.heap.size]? = some (.mapIter (some mb) clock seen c0) := by rcases hw2 with rfl | rfl <;> exact hit
      have hbel2 : Below W.heap.size W w2 := by rcases hw2 with rfl | rfl; exact hbel; exact hbel.drew
      obtain ⟨w3, hw3⟩ : ∃ w3, w3 = ChangeMaps.setBlock w2 W.heap.size (.mapIter (some mb) clock (seen.push en.born) clock) := ⟨_, rfl⟩
      have hit3 : w3.heap[W.heap.size]? = some (.mapIter (some mb) clock (seen.push en.born) clock) := by rw [hw3, heap_setBlock_at hit2, if_pos rfl]
      have hbel3 : Below W.heap.size W w3 := by rw [hw3]; exact below_setBlock hbel2 hit2 (Nat.le_refl _)
      rw [← hw3] at hx
      have hm3 := (hbel3.block mb (by omega)).trans HMW.out
      have hent := run_entry_at (P := Tryz.prog) w3 W.heap.size mb clock seen es clock en hit3 hm3 hmem HND.out
      rw [hkk, hvc] at hx hent
      obtain ⟨hp1, hp2, hp3⟩ := put_new w3 (key2 ⟨#[]⟩) (key2 kk) 172
      have HG3 := Lib.hid (heap_alloc_new w3 (.cells (key2 ⟨#[]⟩) 172))
      obtain ⟨W4, hW4⟩ : ∃ W4, W4 = (w3.alloc (.cells (key2 ⟨#[]⟩) 172)).setRow w3.heap.size (key2 kk) := ⟨_, rfl⟩
      rw [← hW4] at hp1 hp2 hp3
      have HW4 := Lib.hid hW4
      have hbel4 : Below W.heap.size W W4 := below_then hbel3 hbel3.size hp1
      have hk8 := (hbel4.block w1.heap.size (by have := HP3.out; omega)).trans HKW.out
      have a0 : W4.cell? ⟨w3.heap.size, 0, none⟩ = some (.string kk) := by rw [Lib.cell_of_heap hp2]; rfl
      have a1 : W4.cell? ⟨w3.heap.size, 1, none⟩ = some (.string ⟨#[]⟩) := by rw [Lib.cell_of_heap hp2]; rfl
      have b0 : W4.cell? ⟨w1.heap.size, 0, none⟩ = some (.string (bs sel)) := by rw [Lib.cell_of_heap hk8]; rfl
      have b1 : W4.cell? ⟨w1.heap.size, 1, none⟩ = some (.string ⟨#[]⟩) := by rw [Lib.cell_of_heap hk8]; rfl
      have hit4 : W4.heap[W.heap.size]? = some (.mapIter (some mb) clock (seen.push en.born) clock) := (hp1.block _ (Array.getElem?_eq_some_iff.1 hit3).1).trans hit3
      have HLE := Lib.hid (show leftIn es W.heap.size W4 < leftIn es W.heap.size wr by
        unfold leftIn; rw [hit4, hit]; exact left_shrinks es seen en hen)
      have HB4 := Lib.hid hbel4
      have HI4 := Lib.hid hit4
      have hcm : (Op.equalIn 10000 172 (.agg #[.string kk, .string ⟨#[]⟩]) (.agg #[.string (bs sel), .string ⟨#[]⟩])).run Tryz.prog W4 = .ok (kk == bs sel) W4 := run_equal_key kk (bs sel) W4
      clear hw3 hp1 hp2 hp3 hW4 hbel4 hk8 hit4 hbel3 hit3 hm3 hbel2 hit2
      have HSN := Lib.hid hsn
      have hHB := Lib.hid (HBW.out.trans (HB4.out.mono hsW))
      rcases hq : (kk == bs sel) with _ | _
      · rw [hq] at hcm
        have HS2 := Lib.hid (show ∀ y ∈ es.toList, (seen.push en.born).contains y.born = true → ∃ k, y.key = .agg (key2 k) ∧ (bs sel == k) = false ∧ (k == bs sel) = false from fun y hy hc => by
          rw [contains_push, Bool.or_eq_true] at hc
          rcases hc with hc | hc
          · exact HSN.out y hy hc
          · obtain rfl := born_inj HND.out hy hmem (eq_of_beq hc)
            exact ⟨kk, hkk, by rw [byte_comm]; exact hq, hq⟩)
        clear hsn
        go_wp2_with (refine wpList_store_row rfl 172 (.tmp 9) (.tmp 25) rfl w3.heap.size (key2 kk) rfl rfl 172 _ HG3.out (by kernel_rfl) rfl (by simp [Value.oneCell']) ?_; rw [← HW4.out])
        go_roundw
        case rel => exact ⟨_, _, HI4.out, Nat.le_refl _, HB4.out, HS2.out⟩
        case measure => exact HLE.out
      · rw [hq] at hcm
        clear hsn
        have HCO := Lib.hid (show CodesAt mb W4 from ⟨es, clock, ((HBW.out.trans (HB4.out.mono hsW)).block mb hmlt).trans HMB.out, HBO.out, HND.out, HK.out⟩)
        go_wp2_with (refine wpList_store_row rfl 172 (.tmp 9) (.tmp 25) rfl w3.heap.size (key2 kk) rfl rfl 172 _ HG3.out (by kernel_rfl) rfl (by simp [Value.oneCell']) ?_; rw [← HW4.out])
        go_ret2
        exact ⟨_, rfl, HCO.out, grown_of_below hHB.out _⟩
end Go.Proofs.YtaadhehcoegmhaaGreatDoor
/- The expressions of a Let: exprs and templates, as iterators. -/
namespace Go.Proofs.YtaadhehcoegmhaaGreatDoor
open Go Go.RowKit Go.Shelf
attribute [local go_sem] Oper.semAt_some

set_option maxRecDepth 100000 in
set_option maxHeartbeats 1000000 in
theorem templates_let (t : Lt) (w : World) : Calls Tryz.prog 165 #[.agg (let9 t)] w fun e w' => e = .returned (.func (.func 214) #[] #[.pointer (some ⟨w.heap.size, 0, none⟩)]) ∧ w' = w.alloc (.cells (let9 t) 51) := by
  go_enter Tryz.func165, Tryz.ntmps165
  go_wp2_with fail
  go_ret
  exact ⟨rfl, rfl⟩

set_option maxRecDepth 100000 in
set_option maxHeartbeats 1000000 in
theorem exprs_let (t : Lt) (w : World) : Calls Tryz.prog 108 #[.agg (let9 t)] w fun e w' => e = .returned (.func (.func 164) #[] #[.pointer (some ⟨w.heap.size, 0, none⟩)]) ∧ w' = w.alloc (.cells (let9 t) 51) := by
  go_enter Tryz.func108, Tryz.ntmps108
  go_wp2_with fail
  go_ret
  exact ⟨rfl, rfl⟩

end Go.Proofs.YtaadhehcoegmhaaGreatDoor
/- A range over a function whose rounds all go on: a law of our own, with what a round keeps of the loops' own blocks. -/
namespace Go.Proofs.YtaadhehcoegmhaaGreatDoor
open Go Go.RowKit Go.Shelf

/-- The blocks of the loops' own book-keeping. -/
def isHouse : Obj → Bool | .loop _ => true | .deferred _ => true | _ => false
theorem house_not_cells {o : Obj} (h : isHouse o = true) : o.isCells = false := by cases o <;> simp_all [isHouse, Obj.isCells]

/-- What a round keeps: every block of that book-keeping. -/
structure KeepsHouse (W W' : World) : Prop where
  size : W.heap.size ≤ W'.heap.size
  same : ∀ (k : Nat) (o : Obj), W.heap[k]? = some o → isHouse o = true → W'.heap[k]? = some o
theorem KeepsHouse.refl (W : World) : KeepsHouse W W := ⟨Nat.le_refl _, fun _ _ h _ => h⟩
theorem KeepsHouse.trans {A B C : World} (h : KeepsHouse A B) (k : KeepsHouse B C) : KeepsHouse A C := ⟨Nat.le_trans h.size k.size, fun i o hi ho => k.same i o (h.same i o hi ho) ho⟩
theorem KeepsHouse.below {W W' : World} (h : Below W.heap.size W W') : KeepsHouse W W' := ⟨h.size, fun k _ hk _ => (h.block k (Array.getElem?_eq_some_iff.1 hk).1).trans hk⟩
theorem KeepsHouse.grown {W W' : World} {row : Option Nat} (h : W.grownBy W' row) (hr : ∀ r, row = some r → ∃ o : Obj, W.heap[r]? = some o ∧ isHouse o = false) : KeepsHouse W W' :=
  ⟨h.size, fun k o hk ho => (h.block k (Array.getElem?_eq_some_iff.1 hk).1 (fun e => by obtain ⟨o', h1, h2⟩ := hr k e.symm; rw [hk] at h1; cases h1; rw [ho] at h2; cases h2)).trans hk⟩

/-- What the iterator may lean on behind a round: the deferred calls' blocks. -/
structure KeepsDef (W W' : World) : Prop where
  size : W.heap.size ≤ W'.heap.size
  same : ∀ (k : Nat) (x : Option (List Deferred)), W.heap[k]? = some (.deferred x) → W'.heap[k]? = some (.deferred x)
theorem KeepsHouse.defs {W W' : World} (h : KeepsHouse W W') : KeepsDef W W' := ⟨h.size, fun k _ hk => h.same k _ hk rfl⟩
theorem KeepsDef.trans {A B C : World} (h : KeepsDef A B) (k : KeepsDef B C) : KeepsDef A C := ⟨Nat.le_trans h.size k.size, fun i x hi => k.same i x (h.same i x hi)⟩
theorem KeepsDef.loop {W : World} {l : Nat} {r r' : Loop} (hl : W.heap[l]? = some (.loop r)) : KeepsDef W (W.putObj l (.loop r')) :=
  ⟨by simp [World.putObj], fun k x hk => by rw [World.putObj_heap_other (by rintro rfl; rw [hl] at hk; cases hk)]; exact hk⟩

/-- An iterator's contract, where every round says 'go on'. -/
def SeqGoes {α : Type} (n : Nat) (P : Program) (g : Nat) (lb : Array Value) (encs : α → Array Value) (xs : List α) (w : World) : Prop :=
  ∀ (l : Nat) (J : List α → World → Prop) (W : World), Below w.heap.size w W → OwnFrom W.heap.size J →
    (∀ pre x post W1, xs = pre ++ x :: post → J pre W1 → YieldAt Fence.wide (n - 1) P l (encs x) W1 fun e W' => e = .returned (.bool true) ∧ J (pre ++ [x]) W' ∧ KeepsDef W1 W') →
    J [] W →
    CallsIn Fence.wide n P g (#[.func (.yield l) #[] #[]] ++ lb) W fun e W' => (∃ v, e = .returned v) ∧ J xs W'

/-- How a round's body ends. -/
def goesPost {α : Type} (I : List α → World → Prop) (xs : List α) (W : World) : Exit → Act → World → Prop
  | .normal, _, W' => KeepsHouse W W' ∧ I xs W'
  | _, _, _ => False

theorem range_goes {α : Type} {n : Nat} {P : Program} {g : Operand} {ps : Array Tmp} {assign body : Code} {Q : Exit → Act → World → Prop} {a : Act} {w : World}
    {gf : Nat} {lb : Array Value} (hg : a.eval g = .func (.func gf) #[] lb) (eg : ∀ args w, (callFunc gf args).run P w = .ok (.enter gf args) w)
    {encs : α → Array Value} {xs : List α} {w0 : World} (hseq : SeqGoes (n - 1) P gf lb encs xs w0) (hb0 : Below w0.heap.size w0 w) (hps : ∀ x, (encs x).size = ps.size)
    (I : List α → World → Prop) (hI : OwnFrom w.heap.size I) (h0 : I [] w) (a₁ : α → Act)
    (hassign : ∀ (l : Nat) (x : α) (W : World) (K : Act → World → Prop), x ∈ xs → K (a₁ x) W →
      assign.wpIn (Fence.wide.inRound l) (n - 1 - 1) P (Exit.then K (fun _ _ _ => False)) { tmps := (ps.zip (encs x)).foldl (fun t (p, v) => t.setIfInBounds p v) a.tmps, defers := [] } W)
    (hbody : ∀ (l : Nat) (pre : List α) (x : α) (post : List α) (W : World), xs = pre ++ x :: post → I pre W → body.wpIn (Fence.wide.inRound l) (n - 1 - 1) P (goesPost I (pre ++ [x]) W) (a₁ x) W)
    (hdone : ∀ (D : Nat) (W : World), w.heap.size ≤ D → I xs W → W.heap[D]? = some (.deferred (some [])) → Q .normal { a with defers := { target := .collected D, args := #[] } :: a.defers } W) :
    (Code.rangeFunc g ps assign body).wpIn Fence.wide n P Q a w := by
  refine wpIn_rangeFunc ?_
  intro fn hfn
  rw [show Fence.wide.round = none from rfl]
  obtain ⟨rec, hrec⟩ : ∃ rec : LoopState → Loop, rec = fun st => { state := st, pending := none, fn, tmps := a.tmps, params := ps, assign, body, defers := w.heap.size } := ⟨_, rfl⟩
  have hrs : ∀ s, (rec s).state = s := fun s => by rw [hrec]
  have hrp : ∀ s, (rec s).pending = none := fun s => by rw [hrec]
  have hrw : ∀ s s', { rec s with state := s' } = rec s' := fun s s' => by rw [hrec]
  have hre : ∀ s s', { rec s with state := s', pending := none } = rec s' := fun s s' => by rw [hrec]
  obtain ⟨W1, hW1⟩ : ∃ W1, (w.alloc (.deferred (some []))).alloc (.loop (rec .ready)) = W1 := ⟨_, rfl⟩
  have hsz : W1.heap.size = w.heap.size + 2 := by rw [← hW1]; simp
  have hL1 : W1.heap[w.heap.size + 1]? = some (.loop (rec .ready)) := by rw [← hW1]; exact new_at _ _ (by simp)
  have hD1 : W1.heap[w.heap.size]? = some (.deferred (some [])) := by rw [← hW1]; exact alloc_old _ (heap_alloc_new w _) rfl
  have hb1 : Below w0.heap.size w0 W1 := by
    rw [← hW1]; exact (hb0.alloc hb0.size _).alloc (by have := hb0.size; simp; omega) _
  have hI1 : I [] W1 := by rw [← hW1]; exact hI.alloc _ (hI.alloc _ h0)
  refine ⟨w.heap.size + 1, [{ target := .collected w.heap.size, args := #[] }], W1, { target := .fn (.func gf) lb, args := #[.func (.yield (w.heap.size + 1)) #[] #[]] }, W1, gf,
    #[.func (.yield (w.heap.size + 1)) #[] #[]] ++ lb, W1, ?_, ?_, fun _ _ => trivial, ?_, (fun h => (by simp [Fence.wide] at h)), ?_⟩
  · rw [← hW1, hrec]; exact run_enterLoop_outer _ _ _ _ _
  · simp only [resolve, hg]
    simp [go_sem]
  · simp [invoke, go_sem, eg]
  · refine (hseq (w.heap.size + 1) (fun pre W => (I pre W ∧ W.heap[w.heap.size + 1]? = some (.loop (rec .ready))) ∧ W.heap[w.heap.size]? = some (.deferred (some []))) W1 hb1 ?_ ?_ ⟨⟨hI1, hL1⟩, hD1⟩).mono ?_
    · rintro s A B row ⟨⟨hi, hl⟩, hd⟩ hg' hr
      have ho : ∀ k, k < w.heap.size + 2 → some k ≠ row := fun k hk e => by obtain ⟨h, _⟩ := hr k e.symm; omega
      exact ⟨⟨hI s A B row hi hg' (fun r e => ⟨by have := (hr r e).1; omega, (hr r e).2⟩), (hg'.block _ (Array.getElem?_eq_some_iff.1 hl).1 (ho _ (by omega))).trans hl⟩, (hg'.block _ (Array.getElem?_eq_some_iff.1 hd).1 (ho _ (by omega))).trans hd⟩
    · rintro pre x post W hxs ⟨⟨hi, hl⟩, hd⟩
      have hll := (Array.getElem?_eq_some_iff.1 hl).1
      have hy := run_yield (P := P) (args := encs x) hl (by rw [hrec]; exact hps x)
      rw [hrec] at hy
      refine ⟨fn, _, assign, body, hy, roundIn_of_wpIn hfn (hassign _ x W _ (by rw [hxs]; simp) ⟨_, run_beginRound hl (hrs _), ?_⟩)⟩
      rw [hrw]
      have hl2 : (W.putObj (w.heap.size + 1) (.loop (rec .busy))).heap[w.heap.size + 1]? = some (.loop (rec .busy)) := World.putObj_heap_same hll
      have hd2 : (W.putObj (w.heap.size + 1) (.loop (rec .busy))).heap[w.heap.size]? = some (.deferred (some [])) := (World.putObj_heap_other (by omega)).trans hd
      refine wpIn_mono (hbody _ pre x post _ hxs (hI.putObj _ hi (by omega) hl rfl)) ?_
      rintro e a3 W3 hp
      cases e with
      | normal =>
        obtain ⟨hk3, hi3⟩ := hp
        have hl3 := hk3.same _ _ hl2 rfl
        have hd3 := hk3.same _ _ hd2 rfl
        have hen := run_endRound (P := P) none hl3
        simp only [Option.isNone_none, if_true] at hen
        rw [hre] at hen
        exact ⟨_, _, hen, rfl, ⟨⟨hI.putObj _ hi3 (by omega) hl3 rfl, World.putObj_heap_same (Array.getElem?_eq_some_iff.1 hl3).1⟩, (World.putObj_heap_other (by omega)).trans hd3⟩, ((KeepsDef.loop hl).trans hk3.defs).trans (KeepsDef.loop hl3)⟩
      | ret => exact hp.elim
      | exit id => exact hp.elim
      | goto t => exact hp.elim
      | panic ch => exact hp.elim
      | outgrown => exact hp.elim
    · rintro e W2 ⟨⟨v, rfl⟩, ⟨hi, hl⟩, hd⟩
      have hen := run_endLoop (P := P) hl (by rw [hrs]; simp)
      rw [hrp] at hen
      exact ⟨none, _, hen, hdone _ _ (Nat.le_refl _) (hI.putObj _ hi (by omega) hl rfl) ((World.putObj_heap_other (by omega)).trans hd)⟩
end Go.Proofs.YtaadhehcoegmhaaGreatDoor
