/- Parse of any tokens whose expression is known. -/
import Derived.Test.YtaadhehcoegmhaaGreatDoorO8
import Derived.Test.YtaadhehcoegmhaaGreatDoorO7
import Derived.Test.YtaadhehcoegmhaaGreatDoorO1
import Derived.Test.YtaadhehcoegmhaaGreatDoorO3
namespace Go.Proofs.YtaadhehcoegmhaaGreatDoor
open Go Go.RowKit

set_option maxRecDepth 100000 in
set_option maxHeartbeats 4000000 in
theorem parse_any (ts : List Tok) (hok : ∀ t ∈ ts, t.ok) (hlen : ts.length ≤ 100) (ex : Ex) (hexp : ∀ B p, ExprAt 0 B p (lexFrom 0 ts) [] ex) (hd : ex.deepN ≤ 32) (hsz : ex.sizeN ≤ 512) (w : World) (hE : Env w) :
    Calls Tryz.prog 104 #[.string (bs (joinT ts))] w fun e w' => ∃ op x k v A n cap, e = .returned (.tuple #[.agg #[.int .i64 op, .string (bs x), .int .i64 k, .int .i64 v, .int .i64 0, .int .i64 0, .slice A n cap], .int .i64 0]) ∧ ExIs w.heap.size w' ex [.int .i64 op, .string (bs x), .int .i64 k, .int .i64 v, .int .i64 0, .int .i64 0, .slice A n cap] ∧ Below w.heap.size w w' := by
  have hg0 := heap_alloc_new w (.cells zero155 155)
  have hb0 : Below w.heap.size w (w.alloc (.cells zero155 155)) := (Below.refl _ _).alloc (Nat.le_refl _) _
  have hscan := fun w => scan_any ts hok hlen w
  have HSC := Lib.hid hscan
  have HPR := Lib.hid hexp
  obtain ⟨dn, hdn⟩ : ∃ n, n = ex.deepN := ⟨_, rfl⟩
  obtain ⟨sn, hsn⟩ : ∃ n, n = ex.sizeN := ⟨_, rfl⟩
  have HDN := Lib.hid hdn
  have HSN := Lib.hid hsn
  have hdI : ¬ ((dn : Nat) : Int) > 32 := by rw [hdn]; omega
  have hsI : ¬ ((sn : Nat) : Int) > 512 := by rw [hsn]; omega
  have HD := Lib.hid hd
  have HSZ := Lib.hid hsz
  clear hscan hexp hd hsz hdn hsn
  go_enter Tryz.func104, Tryz.ntmps104
  go_wp2_with fail
  refine Calls.mono (HSC.out _) ?_
  rintro e w1 ⟨lex, rfl, hown, hb1⟩
  dsimp only
  have hlex : LexIs w1.heap.size w1 lex (lexFrom 0 ts) := lexIs_of_own hown (Nat.le_refl _)
  have hlex0 := hlex
  obtain ⟨A0, cap0, rfl, hcap0, hcl⟩ := hlex0
  have hb01 := below_then hb0 hb0.size hb1
  have hg1 := (hb1.block w.heap.size (by simp)).trans hg0
  have hpar : Par (w1.heap.size + 1) w1.heap.size (lexFrom 0 ts) (w1.alloc (.cells #[.slice A0 (lexFrom 0 ts).length cap0, .int .i64 0, .int .i64 0] 227)) :=
    ⟨⟨_, heap_alloc_new w1 _, (hlex.kept (fun k hk => heap_alloc_old w1 _ hk)).mono (Nat.le_succ _)⟩, by omega, by simp, (hE.below hb01).low, (hE.below hb01).below ((Below.refl _ _).alloc (Nat.le_refl _) _)⟩
  have HPAR := Lib.hid hpar
  have hbA : Below w1.heap.size w1 (w1.alloc (.cells #[.slice A0 (lexFrom 0 ts).length cap0, .int .i64 0, .int .i64 0] 227)) := (Below.refl _ _).alloc (Nat.le_refl _) _
  clear hpar hown hcl hlex
  go_wp2_with fail
  refine Calls.mono (whole_any (w1.heap.size + 1) w1.heap.size (lexFrom 0 ts) ex (HPR.out _ _) _ HPAR.out) ?_
  rintro e w2 ⟨op', x', k', v', A', n', cap', rfl, he, hP2, hgr2⟩
  dsimp only
  have hs2 := hgr2.size
  simp at hs2
  have hs1 := hb1.size
  simp at hs1
  have hg2 := (hgr2.block w.heap.size (by simp; omega) (by intro e; have := Option.some.inj e; omega)).trans ((hbA.block w.heap.size (by omega)).trans hg1)
  have hbw2 : Below w.heap.size w w2 := (hb01.trans ((hbA.mono hb01.size))).trans ⟨hgr2.os, hgr2.tape, hgr2.output, hgr2.size, fun i hi => hgr2.block i (by simp; omega) (by intro e; have := Option.some.inj e; omega)⟩
  obtain ⟨hp1, hp2, hp3⟩ := put_new w2 zero155 (#[.int .i64 op', .string (bs x'), .int .i64 k', .int .i64 v', .int .i64 0, .int .i64 0, .slice A' n' cap']) 155
  have HGA := Lib.hid (heap_alloc_new w2 (.cells zero155 155))
  obtain ⟨W, hW⟩ : ∃ W, W = (w2.alloc (.cells zero155 155)).setRow w2.heap.size (#[.int .i64 op', .string (bs x'), .int .i64 k', .int .i64 v', .int .i64 0, .int .i64 0, .slice A' n' cap']) := ⟨_, rfl⟩
  rw [← hW] at hp1 hp2 hp3
  have HW := Lib.hid hW
  have hbw := below_then hbw2 hbw2.size hp1
  have hgW := (hp1.block _ (by omega)).trans hg2
  obtain ⟨⟨lexW, hrowW, _⟩, _, _⟩ := hP2.below hp1
  have m2 : W.cell? ⟨w1.heap.size, 2, none⟩ = some (.int .i64 0) := by rw [Lib.cell_of_heap hrowW]; rfl
  have r0 : W.cell? ⟨w2.heap.size, 0, none⟩ = some (.int .i64 op') := by rw [Lib.cell_of_heap hp2]; rfl
  have r1 : W.cell? ⟨w2.heap.size, 1, none⟩ = some (.string (bs x')) := by rw [Lib.cell_of_heap hp2]; rfl
  have r2 : W.cell? ⟨w2.heap.size, 2, none⟩ = some (.int .i64 k') := by rw [Lib.cell_of_heap hp2]; rfl
  have r3 : W.cell? ⟨w2.heap.size, 3, none⟩ = some (.int .i64 v') := by rw [Lib.cell_of_heap hp2]; rfl
  have r4 : W.cell? ⟨w2.heap.size, 4, none⟩ = some (.int .i64 0) := by rw [Lib.cell_of_heap hp2]; rfl
  have r5 : W.cell? ⟨w2.heap.size, 5, none⟩ = some (.int .i64 0) := by rw [Lib.cell_of_heap hp2]; rfl
  have r6 : W.cell? ⟨w2.heap.size, 6, none⟩ = some (.slice A' n' cap') := by rw [Lib.cell_of_heap hp2]; rfl
  have HEW := Lib.hid (show ExIs (w.heap.size + 1) W ex [.int .i64 op', .string (bs x'), .int .i64 k', .int .i64 v', .int .i64 0, .int .i64 0, .slice A' n' cap'] from (he.mono (by simp; omega)).below hp1)
  have HGW := Lib.hid hgW
  have HBW := Lib.hid hbw
  have HQ := Lib.hid hp2
  clear hp1 hp2 hW hg0 hb0 hgW hg1 hg2 hgr2 hb1 hb01 hbA hbw2 hbw hP2 hrowW he
  go_wp2_with (refine wpList_store_row rfl 155 (.tmp 8) (.tmp 27) rfl w2.heap.size (#[.int .i64 op', .string (bs x'), .int .i64 k', .int .i64 v', .int .i64 0, .int .i64 0, .slice A' n' cap']) rfl rfl 155 _ HGA.out (by kernel_rfl) rfl (by simp [Value.oneCell']) ?_; rw [← HW.out])
  refine Calls.mono (deep_any ex (w.heap.size + 1) [.int .i64 op', .string (bs x'), .int .i64 k', .int .i64 v', .int .i64 0, .int .i64 0, .slice A' n' cap'] W HEW.out (by have := HD.out; omega)) ?_
  rintro e w3 ⟨rfl, hb3⟩
  rw [← HDN.out]
  have HEW3 := Lib.hid (HEW.out.below hb3)
  dsimp only
  have hq3 := (hb3.block _ (Array.getElem?_eq_some_iff.1 HQ.out).1).trans HQ.out
  have s0 : w3.cell? ⟨w2.heap.size, 0, none⟩ = some (.int .i64 op') := by rw [Lib.cell_of_heap hq3]; rfl
  have s1 : w3.cell? ⟨w2.heap.size, 1, none⟩ = some (.string (bs x')) := by rw [Lib.cell_of_heap hq3]; rfl
  have s2 : w3.cell? ⟨w2.heap.size, 2, none⟩ = some (.int .i64 k') := by rw [Lib.cell_of_heap hq3]; rfl
  have s3 : w3.cell? ⟨w2.heap.size, 3, none⟩ = some (.int .i64 v') := by rw [Lib.cell_of_heap hq3]; rfl
  have s4 : w3.cell? ⟨w2.heap.size, 4, none⟩ = some (.int .i64 0) := by rw [Lib.cell_of_heap hq3]; rfl
  have s5 : w3.cell? ⟨w2.heap.size, 5, none⟩ = some (.int .i64 0) := by rw [Lib.cell_of_heap hq3]; rfl
  have s6 : w3.cell? ⟨w2.heap.size, 6, none⟩ = some (.slice A' n' cap') := by rw [Lib.cell_of_heap hq3]; rfl
  have hg3 := (hb3.block _ (Array.getElem?_eq_some_iff.1 HGW.out).1).trans HGW.out
  have hbw3 := below_then HBW.out HBW.out.size hb3
  have HG3 := Lib.hid hg3
  have HB3 := Lib.hid hbw3
  have HQ3 := Lib.hid hq3
  clear hb3 hg3 hbw3 hq3 r0 r1 r2 r3 r4 r5 r6 m2
  go_wp2_with fail
  refine Calls.mono (size_any ex (w.heap.size + 1) 512 [.int .i64 op', .string (bs x'), .int .i64 k', .int .i64 v', .int .i64 0, .int .i64 0, .slice A' n' cap'] w3 HEW3.out HSZ.out (by omega)) ?_
  rintro e w4 ⟨rfl, hb4⟩
  rw [← HSN.out]
  have HEW4 := Lib.hid (HEW3.out.below hb4)
  dsimp only
  have hq4 := (hb4.block _ (Array.getElem?_eq_some_iff.1 HQ3.out).1).trans HQ3.out
  have t0 : w4.cell? ⟨w2.heap.size, 0, none⟩ = some (.int .i64 op') := by rw [Lib.cell_of_heap hq4]; rfl
  have t1 : w4.cell? ⟨w2.heap.size, 1, none⟩ = some (.string (bs x')) := by rw [Lib.cell_of_heap hq4]; rfl
  have t2 : w4.cell? ⟨w2.heap.size, 2, none⟩ = some (.int .i64 k') := by rw [Lib.cell_of_heap hq4]; rfl
  have t3 : w4.cell? ⟨w2.heap.size, 3, none⟩ = some (.int .i64 v') := by rw [Lib.cell_of_heap hq4]; rfl
  have t4 : w4.cell? ⟨w2.heap.size, 4, none⟩ = some (.int .i64 0) := by rw [Lib.cell_of_heap hq4]; rfl
  have t5 : w4.cell? ⟨w2.heap.size, 5, none⟩ = some (.int .i64 0) := by rw [Lib.cell_of_heap hq4]; rfl
  have t6 : w4.cell? ⟨w2.heap.size, 6, none⟩ = some (.slice A' n' cap') := by rw [Lib.cell_of_heap hq4]; rfl
  have hg4 := (hb4.block _ (Array.getElem?_eq_some_iff.1 HG3.out).1).trans HG3.out
  have hbw4 := below_then HB3.out HB3.out.size hb4
  have HG4 := Lib.hid hg4
  have HB4 := Lib.hid hbw4
  clear hb4 hg4 hbw4 hq4 s0 s1 s2 s3 s4 s5 s6
  go_wp2_with (refine wpList_store_row rfl 155 (.tmp 2) (.tmp 50) rfl w.heap.size (#[.int .i64 op', .string (bs x'), .int .i64 k', .int .i64 v', .int .i64 0, .int .i64 0, .slice A' n' cap']) rfl rfl 155 _ HG4.out (by kernel_rfl) rfl (by simp [Value.oneCell']) ?_)
  refine bodyPost_ret (results_cell_tmp Tryz.results104 _ _ (w.heap.size) 155 _ (0, 0) _ rfl (setRow_heap _ _ _ _ 155 _ HG4.out) Tryz.underlying155 rfl (by kernel_rfl)) rfl ⟨_, _, _, _, _, _, _, rfl, ?_, below_setRow HB4.out (Nat.le_refl _)⟩
  exact (HEW4.out.setRow (Nat.lt_succ_self _)).mono (Nat.le_succ _)

end Go.Proofs.YtaadhehcoegmhaaGreatDoor
/- Names of an expression: its variables, sorted. -/
namespace Go.Proofs.YtaadhehcoegmhaaGreatDoor
open Go Go.RowKit Go.Shelf

theorem namesIn_of_own {w : World} {B : Nat} {v : Value} {ns : List (List UInt8)} (h : w.ownsRow B 9 1 v ns.length (ns.map encStr)) : NamesIn w v ns := by
  rcases h.2 with ⟨rfl, h2⟩ | ⟨g, cap, cur, rfl, _, hg, hc, _⟩
  · exact .inl ⟨rfl, List.eq_nil_of_length_eq_zero h2⟩
  · refine .inr ⟨g, 0, cap, rfl, fun i s hs => ?_⟩
    have := h.cells (g := g) rfl i (.string (bs s)) (by simp [hs, encStr])
    rw [addr_add] at this
    exact this

theorem below_of_grown' {B m : Nat} {w w' : World} (hg : w.grownBy w' (some m)) (hm : B ≤ m) (hB : B ≤ w.heap.size) : Below B w w' :=
  ⟨hg.os, hg.tape, hg.output, hg.size, fun k hk => hg.block k (by omega) (fun e => by have := Option.some.inj e; omega)⟩
theorem mk168 (w : World) : (Instr.makeMap 168 none).run Tryz.prog w = .ok (.map (some w.heap.size)) (w.alloc (.map #[] 0)) := by kernel_rfl

set_option maxRecDepth 100000 in
set_option maxHeartbeats 4000000 in
theorem names_any (ex : Ex) (lo : Nat) (a0 a1 a2 a3 a4 a5 a6 : Value) (w : World) (hE : Env w) (he : ExIs lo w ex [a0, a1, a2, a3, a4, a5, a6]) (hnd : ex.vars.Nodup) (hl : ex.vars.length ≤ 1000) (hs : ∀ s ∈ ex.vars, s.length ≤ 1000)
    (hR : ∀ w', Env w' → Below w.heap.size w w' → Calls Tryz.prog 161 #[.agg #[a0, a1, a2, a3, a4, a5, a6]] w' fun e w'' => e = .returned (.bool true) ∧ Below w'.heap.size w' w'') :
    Calls Tryz.prog 167 #[.agg #[a0, a1, a2, a3, a4, a5, a6]] w fun e w' => ∃ v, e = .returned v ∧ NamesIn w' v (ex.vars.mergeSort Go.leB) ∧ Below w.heap.size w w' := by
  have hb : Below w.heap.size w (w.alloc (.cells #[a0, a1, a2, a3, a4, a5, a6] 155)) := (Below.refl _ _).alloc (Nat.le_refl _) _
  have hg := heap_alloc_new w (.cells #[a0, a1, a2, a3, a4, a5, a6] 155)
  have HR := Lib.hid (hR _ (hE.below hb) hb)
  have HX := Lib.hid he
  have HND := Lib.hid hnd
  have HS := Lib.hid hs
  clear hR he hnd hs
  go_enter Tryz.func167, Tryz.ntmps167
  go_wp2_with fail
  refine Calls.mono HR.out ?_
  rintro e w1 ⟨rfl, hb1⟩
  dsimp only
  have hg1 := (hb1.block _ (by simp)).trans hg
  have hbw1 := below_then hb hb.size hb1
  have hs1 := hbw1.size
  obtain ⟨W2, hW2⟩ : ∃ W, W = ((w1.alloc (.map #[] 0)).alloc (.cells #[.map (some w1.heap.size)] 168)) := ⟨_, rfl⟩
  obtain ⟨W3, hW3⟩ : ∃ W, W = W2.alloc (.cells #[.func (.func 217) #[] #[.pointer (some ⟨w1.heap.size + 1, 0, none⟩), .pointer (some ⟨w1.heap.size + 1 + 1, 0, none⟩)]] 304) := ⟨_, rfl⟩
  have hz2 : W2.heap.size = w1.heap.size + 1 + 1 := by rw [hW2]; simp
  have hb13 : Below w1.heap.size w1 W3 := by rw [hW3, hW2]; exact (((Below.refl _ _).alloc (Nat.le_refl _) _).alloc (by simp) _).alloc (by simp; omega) _
  have hm3 : W3.heap[w1.heap.size]? = some (.map #[] 0) := by
    rw [hW3, heap_alloc_old _ _ (by omega), hW2, heap_alloc_old _ _ (by simp)]; exact heap_alloc_new w1 _
  have hc3 : W3.heap[w1.heap.size + 1]? = some (.cells #[.map (some w1.heap.size)] 168 (0, 0)) := by
    rw [hW3, heap_alloc_old _ _ (by omega), hW2]; exact new_at _ _ (by simp)
  have hf3 : W3.heap[w1.heap.size + 1 + 1]? = some (.cells #[.func (.func 217) #[] #[.pointer (some ⟨w1.heap.size + 1, 0, none⟩), .pointer (some ⟨w1.heap.size + 1 + 1, 0, none⟩)]] 304 (0, 0)) := by
    rw [hW3]; exact new_at _ _ (by rw [hz2])
  have hg3 := (hb13.block w.heap.size (Nat.lt_of_lt_of_le (by simp) hb1.size)).trans hg1
  have HG3 := Lib.hid hg3
  have hns : NameSet w1.heap.size [] W3 := ⟨#[], 0, hm3, trivial, by simp, by simp⟩
  have hex3 : ExIs lo W3 ex [a0, a1, a2, a3, a4, a5, a6] := HX.out.below (hbw1.trans (hb13.mono hs1))
  have HL := Lib.hid (looks_any ex lo (w1.heap.size + 1) (w1.heap.size + 1 + 1) w1.heap.size [] _ W3 hex3 ⟨hc3, hf3⟩ hns (by simpa using HND.out))
  have HB3 := Lib.hid (hbw1.trans (hb13.mono hs1))
  have HC3 := Lib.hid hc3
  have HM3 := Lib.hid hm3
  have q0 : w1.cell? ⟨w.heap.size, 0, none⟩ = some a0 := by rw [Lib.cell_of_heap hg1]; rfl
  have d0 : W3.cell? ⟨w.heap.size, 0, none⟩ = some a0 := by rw [Lib.cell_of_heap hg3]; rfl
  have d1 : W3.cell? ⟨w.heap.size, 1, none⟩ = some a1 := by rw [Lib.cell_of_heap hg3]; rfl
  have d2 : W3.cell? ⟨w.heap.size, 2, none⟩ = some a2 := by rw [Lib.cell_of_heap hg3]; rfl
  have d3 : W3.cell? ⟨w.heap.size, 3, none⟩ = some a3 := by rw [Lib.cell_of_heap hg3]; rfl
  have d4 : W3.cell? ⟨w.heap.size, 4, none⟩ = some a4 := by rw [Lib.cell_of_heap hg3]; rfl
  have d5 : W3.cell? ⟨w.heap.size, 5, none⟩ = some a5 := by rw [Lib.cell_of_heap hg3]; rfl
  have d6 : W3.cell? ⟨w.heap.size, 6, none⟩ = some a6 := by rw [Lib.cell_of_heap hg3]; rfl
  have hsz := HB3.out.size
  clear hb hg hg1 hbw1 hb1 hb13 hm3 hc3 hf3 hns hex3 hg3 hz2
  subst hW3
  subst hW2
  have hmk := mk168
  go_wp2_with fail
  refine Calls.mono HL.out ?_
  rintro e w2 ⟨rfl, hns2, hg2⟩
  dsimp only
  have hc2 := (hg2.block (w1.heap.size + 1) (Array.getElem?_eq_some_iff.1 HC3.out).1 (fun e => by have := Option.some.inj e; omega)).trans HC3.out
  have m2 : w2.cell? ⟨w1.heap.size + 1, 0, none⟩ = some (.map (some w1.heap.size)) := by rw [Lib.cell_of_heap hc2]; rfl
  have hB2 := HB3.out.trans (below_of_grown' hg2 hs1 HB3.out.size)
  have HNS2 := Lib.hid hns2
  have HB2 := Lib.hid hB2
  clear hns2 hg2 hc2 hB2 d0 d1 d2 d3 d4 d5 d6 q0
  go_wp2_with fail
  refine Calls.mono ((callsIn_wide (n := 5)).1 (Tryz.maps_Keys_219 (some w1.heap.size) w2)) ?_
  rintro e w3 ⟨rfl, rfl⟩
  dsimp only
  go_wp2_with fail
  obtain ⟨D, hown, hDs, hperm⟩ := HNS2.out.owns (by simpa using HND.out) (by simpa using hl) (by simpa using HS.out)
  simp only [List.nil_append] at hown hDs hperm
  refine Calls.mono ((callsIn_wide (n := 5)).1 (Tryz.slices_Sorted_keys_218_219 w1.heap.size _ D _ w2 hown (by rw [hDs]; simp [maxLen]; omega) (by rw [hDs]; omega))) ?_
  rintro e w4 ⟨v, ss, rfl, hp, how, _, hb4⟩
  dsimp only
  have hsort : ss.mergeSort (fun x y => decide (x ≤ y)) = ex.vars.mergeSort Go.leB := mergeSort_of_perm (hp.trans hperm)
  rw [hsort] at how
  have hlen : ss.length = (ex.vars.mergeSort Go.leB).length := by rw [(hp.trans hperm).length_eq, List.length_mergeSort]
  rw [hlen] at how
  have HN4 := Lib.hid (namesIn_of_own how)
  have HB4 := Lib.hid ((HB2.out.alloc HB2.out.size _).trans (hb4.mono (by have := HB2.out.size; simp; omega)))
  clear how hsort hlen hb4 hown hDs hperm hp
  go_wp2_with fail
  go_ret
  exact ⟨v, rfl, HN4.out, HB4.out⟩
end Go.Proofs.YtaadhehcoegmhaaGreatDoor
/- Order; live. -/
namespace Go.Proofs.YtaadhehcoegmhaaGreatDoor
open Go Go.RowKit

theorem cloneInts_any (v : Value) (zs : List Int) (w : World) (h : IntSlice w v zs) (hl : zs.length ≤ 1000) :
    Calls Tryz.prog 46 #[v] w fun e w' => ∃ v', e = .returned v' ∧ IntSlice w' v' zs ∧ Below w.heap.size w w' := by
  rcases h with ⟨rfl, rfl⟩ | ⟨b, off, cap, rfl, hc, hcell⟩
  · refine Calls.mono (Tryz.slices_Clone_int_nil 0 0 w) ?_
    rintro e w' ⟨rfl, rfl⟩
    exact ⟨_, rfl, .inl ⟨rfl, rfl⟩, Below.refl _ _⟩
  · refine Calls.mono (Tryz.slices_Clone_int b off zs.length cap zs w (Nat.le_refl _) (by omega) (fun j hj => hcell j _ (by simp [hj]))) ?_
    rintro e w' ⟨v', rfl, hown, _, hb⟩
    exact ⟨v', rfl, IntSlice.of_own (by simpa [ints] using hown), hb⟩

set_option maxRecDepth 100000 in
set_option maxHeartbeats 1000000 in
theorem order_any (pp : Nat) (out : List Nat) (w : World) (h : ProgAt pp out w) (hl : out.length ≤ 1000) :
    Calls Tryz.prog 23 #[.pointer (some ⟨pp, 0, none⟩)] w fun e w' => ∃ v, e = .returned v ∧ IntSlice w' v (outI out) ∧ Below w.heap.size w w' := by
  obtain ⟨v, hv, hs⟩ := h
  have hlen : (outI out).length ≤ 1000 := by simpa [outI] using hl
  have HCL := Lib.hid (cloneInts_any v (outI out) w hs hlen)
  clear hs hlen
  go_enter Tryz.func23, Tryz.ntmps23
  go_wp2_with fail
  refine Calls.mono HCL.out ?_
  rintro e w1 ⟨v', rfl, hs1, hb1⟩
  have HS1 := Lib.hid hs1
  have HB1 := Lib.hid hb1
  clear hs1 hb1
  dsimp only
  go_wp2_with fail
  go_ret
  exact ⟨v', rfl, HS1.out, HB1.out⟩

theorem textOk_leaf (t : Tok) (op k v : Int) (x : List UInt8) (ex : Ex) (hex : ∀ lo w, ExIs lo w ex [.int .i64 op, .string (bs x), .int .i64 k, .int .i64 v, .int .i64 0, .int .i64 0, .slice none 0 0])
    (hnd : ex.vars.Nodup) (hl : ex.vars.length ≤ 1000) (hs : ∀ s ∈ ex.vars, s.length ≤ 1000) (hcl : CodeLeaf op k v x)
    (hp : ∀ w, Env w → Calls Tryz.prog 104 #[.string (bs t.bytes)] w fun e w' => e = .returned (.tuple #[.agg (leaf7 op x k v), .int .i64 0]) ∧ Below w.heap.size w w')
    (hr : ∀ w, Env w → Calls Tryz.prog 212 #[.agg (leaf7 op x k v)] w fun e w' => e = .returned (.bool true) ∧ Below w.heap.size w w') : TextOk t.bytes (ex.vars.mergeSort Go.leB) := by
  refine ⟨((List.mergeSort_perm _ _).nodup_iff).2 hnd, by rw [List.length_mergeSort]; exact hl, fun w hE => (hp w hE).mono ?_⟩
  rintro e w1 ⟨rfl, hb1⟩
  refine ⟨_, _, _, _, _, _, _, rfl, by simp [Value.oneCell'], hb1, fun w2 hE2 _ => evalCompile_leaf op k v x hcl hr w2 hE2, fun w2 hE2 _ => ?_⟩
  exact names_any ex 0 _ _ _ _ _ _ _ w2 hE2 (hex _ _) hnd hl hs (fun w' hE' _ => Right_leaf op k v x hr w' hE')

theorem textOk_var (c : UInt8) (h1 : 97 ≤ c.toNat) (h2 : c.toNat ≤ 104) : TextOk [36, c] [[c]] := by
  have := textOk_leaf (.var c) 18 0 0 [c] (.var [c]) (fun _ _ => rfl) (by simp [Ex.vars]) (by simp [Ex.vars]) (by simp [Ex.vars]) (codeExpr_var [c]) (fun w hE => parse_var c h1 h2 w hE) (fun w hE => right_var c h1 h2 w hE)
  simpa [Ex.vars, Tok.bytes] using this
theorem textOk_dig (d : UInt8) (hd : IsDig d) : TextOk [d] [] := by
  have hv : 0 ≤ digV d ∧ digV d ≤ 1000000 := by rcases hd with rfl | rfl <;> decide
  have := textOk_leaf (.num d) 16 0 (digV d) [] (.num 0 (digV d)) (fun _ _ => rfl) (by simp [Ex.vars]) (by simp [Ex.vars]) (by simp [Ex.vars]) (codeExpr_num 0 (digV d)) (fun w hE => parse_dig d hd w hE) (fun w _ => right_num (digV d) hv.1 hv.2 w)
  simpa [Ex.vars, Tok.bytes] using this
end Go.Proofs.YtaadhehcoegmhaaGreatDoor
/- The texts of sums: they parse, they get their code, they name their variables. -/
namespace Go.Proofs.YtaadhehcoegmhaaGreatDoor
open Go Go.RowKit Go.Shelf

/-- The tokens of a sum: a digit, and variables. -/
def sumToks (cs : List UInt8) : List Tok := .num 48 :: cs.flatMap fun c => [.plus, .var c]
/-- Its text. -/
def sumText (cs : List UInt8) : List UInt8 := 48 :: cs.flatMap fun c => [32, 43, 32, 36, c]
theorem tail_vars : ∀ (cs : List UInt8), tailT (cs.flatMap fun c => [Tok.plus, Tok.var c]) = cs.flatMap fun c => [32, 43, 32, 36, c]
  | [] => rfl
  | c :: cs => by
    simp only [List.flatMap_cons, List.cons_append, List.nil_append]
    show 32 :: joinT (Tok.plus :: Tok.var c :: _) = _
    rw [joinT_cons]
    show 32 :: (Tok.plus.bytes ++ (32 :: joinT (Tok.var c :: _))) = _
    rw [joinT_cons, tail_vars cs]
    rfl
theorem join_vars (cs : List UInt8) (t : Tok) : joinT (t :: cs.flatMap fun c => [.plus, .var c]) = t.bytes ++ cs.flatMap fun c => [32, 43, 32, 36, c] := by
  rw [joinT_cons, tail_vars]
theorem join_sum (cs : List UInt8) : joinT (sumToks cs) = sumText cs := by
  unfold sumToks sumText
  rw [join_vars cs (.num 48)]
  rfl
theorem lex_vars : ∀ (cs : List UInt8) (a : Nat), PlusVars (lexFrom a (cs.flatMap fun c => [Tok.plus, Tok.var c])) (cs.map fun c => [c])
  | [], _ => trivial
  | c :: cs, a => by
    simp only [List.flatMap_cons, List.cons_append, List.nil_append, lexFrom, List.map_cons]
    exact ⟨⟨_, rfl⟩, ⟨_, rfl⟩, lex_vars cs _⟩

def sumOf (cs : List UInt8) : Ex := sumEx (.num 0 (digV 48)) (cs.map fun c => [c])
theorem expr_whole_sum (B p : Nat) (cs : List UInt8) (hl : cs.length ≤ 20) : ExprAt 0 B p (lexFrom 0 (sumToks cs)) [] (sumOf cs) := by
  have h4 : ExprAt 4 B p (lexFrom 0 (sumToks cs)) [] (sumOf cs) := expr_sum B p 48 (.inl rfl) 0 _ _ (lex_vars cs _) (by simp; omega)
  have h3 := expr_pass 3 B p _ [] _ (by decide) (empty_not (by decide)) h4
  have h2 := expr_pass 2 B p _ [] _ (by decide) (empty_not (by decide)) h3
  have h1 := expr_pass 1 B p _ [] _ (by decide) (empty_not (by decide)) h2
  exact expr_pass 0 B p _ [] _ (by decide) (empty_not (by decide)) h1

theorem sumEx_facts : ∀ (cs : List UInt8) (e : Ex), (sumEx e (cs.map fun c => [c])).deepN ≤ e.deepN + cs.length ∧ (sumEx e (cs.map fun c => [c])).sizeN = e.sizeN + 2 * cs.length ∧ (sumEx e (cs.map fun c => [c])).codeN = e.codeN + 4 * cs.length ∧
    (sumEx e (cs.map fun c => [c])).vars = e.vars ++ cs.map fun c => [c]
  | [], e => by simp [sumEx]
  | c :: cs, e => by
    have h := sumEx_facts cs (.add e (.var [c]))
    have he : sumEx e ((c :: cs).map fun c => [c]) = sumEx (.add e (.var [c])) (cs.map fun c => [c]) := rfl
    rw [he]
    obtain ⟨h1, h2, h3, h4⟩ := h
    refine ⟨Nat.le_trans h1 ?_, ?_, ?_, ?_⟩
    · have := e.deep_pos
      simp [Ex.deepN]; omega
    · rw [h2]; simp [Ex.sizeN]; omega
    · rw [h3]; simp [Ex.codeN]; omega
    · rw [h4]; simp [Ex.vars]
theorem sumEx_right : ∀ (cs : List UInt8) (e : Ex), RightIs e → (∀ c ∈ cs, 97 ≤ c.toNat ∧ c.toNat ≤ 104) → RightIs (sumEx e (cs.map fun c => [c]))
  | [], _, h, _ => h
  | c :: cs, e, h, hc => sumEx_right cs (.add e (.var [c])) (right_add e _ h (fun lo cs' w hE he => by
      obtain rfl : cs' = _ := he
      exact right_var c (hc c (by simp)).1 (hc c (by simp)).2 w hE)) (fun c' h' => hc c' (by simp [h']))

theorem textOk_sum (cs : List UInt8) (hl : cs.length ≤ 20) (hc : ∀ c ∈ cs, 97 ≤ c.toNat ∧ c.toNat ≤ 104) (hnd : cs.Nodup) : TextOk (sumText cs) ((cs.map fun c => [c]).mergeSort Go.leB) := by
  obtain ⟨h1, h2, h3, h4⟩ := sumEx_facts cs (.num 0 (digV 48))
  have hdN : (sumOf cs).deepN ≤ 32 := by unfold sumOf; have : (Ex.num 0 (digV 48)).deepN = 1 := rfl; omega
  have hsN : (sumOf cs).sizeN ≤ 512 := by unfold sumOf; have : (Ex.num 0 (digV 48)).sizeN = 1 := rfl; omega
  have hcN : (sumOf cs).codeN ≤ 1000 := by unfold sumOf; have : (Ex.num 0 (digV 48)).codeN = 2 := rfl; omega
  have hv : (sumOf cs).vars = cs.map fun c => [c] := by unfold sumOf; rw [h4]; rfl
  have hvn : (cs.map fun c => [c]).Nodup := by
    rw [List.nodup_iff_pairwise_ne, List.pairwise_map]
    refine List.Pairwise.imp ?_ (List.nodup_iff_pairwise_ne.1 hnd)
    intro a b hab e
    exact hab (by simpa using e)
  have hr : RightIs (sumOf cs) := sumEx_right cs _ (fun lo cs' w hE he => by
    obtain rfl : cs' = _ := he
    exact right_num (digV 48) (by decide) (by decide) w) hc
  have hok : ∀ t ∈ sumToks cs, t.ok := by
    intro t ht
    rcases List.mem_cons.1 ht with rfl | ht
    · exact .inl rfl
    · obtain ⟨c, hc', ht⟩ := List.mem_flatMap.1 ht
      simp at ht
      rcases ht with rfl | rfl
      · trivial
      · exact hc c hc'
  have hlen : (sumToks cs).length ≤ 100 := by
    have : ∀ l : List UInt8, (l.flatMap fun c => [Tok.plus, Tok.var c]).length = 2 * l.length := by
      intro l
      induction l with
      | nil => rfl
      | cons c l ih => rw [List.flatMap_cons, List.length_append, ih]; simp; omega
    unfold sumToks
    simp [this]; omega
  refine ⟨((List.mergeSort_perm _ _).nodup_iff).2 hvn, by rw [List.length_mergeSort]; simp; omega, fun w hE => ?_⟩
  rw [← join_sum]
  refine (parse_any (sumToks cs) hok hlen (sumOf cs) (fun B p => expr_whole_sum B p cs hl) hdN hsN w hE).mono ?_
  rintro e w1 ⟨op, x, k, v, A, n, cap, rfl, he, hb1⟩
  refine ⟨_, _, _, _, _, _, _, rfl, by simp [Value.oneCell'], hb1, fun w2 hE2 hb2 => evalCompile_any _ hr hdN hsN hcN w.heap.size _ _ _ _ _ _ _ w2 hE2 (he.below hb2), fun w2 hE2 hb2 => ?_⟩
  have := names_any (sumOf cs) w.heap.size _ _ _ _ _ _ _ w2 hE2 (he.below hb2) (by rw [hv]; exact hvn) (by rw [hv]; simp; omega) (by rw [hv]; simp) (fun w' hE' hb' => Right_any _ hr hdN hsN w.heap.size _ _ _ _ _ _ _ w' hE' ((he.below hb2).below hb'))
  rw [hv] at this
  exact this
end Go.Proofs.YtaadhehcoegmhaaGreatDoor
/- The globals that XcodeOrders makes: the plain law. -/
namespace Go.Proofs.YtaadhehcoegmhaaGreatDoor
open Go Go.RowKit

/-- The letter of a place. -/
def letter (k : Nat) : UInt8 := UInt8.ofNat (97 + k)
theorem letter_nat (k : Nat) (hk : k < 8) : (letter k).toNat = 97 + k := by
  unfold letter
  rw [UInt8.toNat_ofNat']
  omega
theorem letter_inj {j k : Nat} (hj : j < 8) (hk : k < 8) (h : letter j = letter k) : j = k := by
  have := congrArg UInt8.toNat h
  rw [letter_nat j hj, letter_nat k hk] at this
  omega
/-- The letters that the let at i names, as far as k. -/
def csN (nd : Nat → Nat) (i k : Nat) : List UInt8 := ((List.range k).filter fun j => (nd i).testBit j).map letter
theorem csN_succ (nd : Nat → Nat) (i k : Nat) : csN nd i (k + 1) = csN nd i k ++ if (nd i).testBit k then [letter k] else [] := by
  unfold csN
  rw [List.range_succ, List.filter_append, List.map_append]
  congr 1
  cases h : (nd i).testBit k <;> simp [List.filter, h]
theorem csN_length (nd : Nat → Nat) (i k : Nat) : (csN nd i k).length ≤ k := by
  unfold csN
  rw [List.length_map]
  exact Nat.le_trans (List.length_filter_le _ _) (by simp)
theorem csN_range (nd : Nat → Nat) (i k : Nat) (hk : k ≤ 8) : ∀ c ∈ csN nd i k, 97 ≤ c.toNat ∧ c.toNat ≤ 104 := by
  intro c hc
  obtain ⟨j, hj, rfl⟩ := List.mem_map.1 hc
  have := (List.mem_filter.1 hj).1
  rw [letter_nat j (by simp at this; omega)]
  simp at this; omega
theorem csN_nodup (nd : Nat → Nat) (i k : Nat) (hk : k ≤ 8) : (csN nd i k).Nodup := by
  unfold csN
  rw [List.nodup_iff_pairwise_ne, List.pairwise_map]
  refine List.Pairwise.imp_of_mem ?_ (List.nodup_iff_pairwise_ne.1 (List.filter_sublist.nodup List.nodup_range))
  intro a b ha hb hab he
  have h1 := (List.mem_filter.1 ha).1
  have h2 := (List.mem_filter.1 hb).1
  simp at h1 h2
  exact hab (letter_inj (by omega) (by omega) he)
theorem sumText_append (a b : List UInt8) : sumText (a ++ b) = sumText a ++ b.flatMap fun c => [32, 43, 32, 36, c] := by
  simp [sumText, List.flatMap_append]
theorem sumText_succ (nd : Nat → Nat) (i k : Nat) : sumText (csN nd i (k + 1)) = sumText (csN nd i k) ++ if (nd i).testBit k then [32, 43, 32, 36, letter k] else [] := by
  rw [csN_succ, sumText_append]
  congr 1
  split <;> simp
theorem sumText_length (cs : List UInt8) : (sumText cs).length = 1 + 5 * cs.length := by
  have : ∀ l : List UInt8, (l.flatMap fun c => [(32 : UInt8), 43, 32, 36, c]).length = 5 * l.length := by
    intro l
    induction l with
    | nil => rfl
    | cons c l ih => rw [List.flatMap_cons, List.length_append, ih]; simp; omega
  unfold sumText
  simp [this]; omega

def letOf (nd : Nat → Nat) (n i : Nat) : Lt := ⟨[letter i], sumText (csN nd i n)⟩
def letsN (nd : Nat → Nat) (n k : Nat) : List Lt := (List.range k).map (letOf nd n)
theorem letsN_succ (nd : Nat → Nat) (n k : Nat) : letsN nd n (k + 1) = letsN nd n k ++ [letOf nd n k] := by
  unfold letsN
  rw [List.range_succ, List.map_append]
  rfl
theorem letsN_length (nd : Nat → Nat) (n k : Nat) : (letsN nd n k).length = k := by simp [letsN]
theorem letsN_at (nd : Nat → Nat) (n k i : Nat) (hi : i < k) : (letsN nd n k)[i]? = some (letOf nd n i) := by simp [letsN, hi]
def ndL (nd : Nat → Nat) (n i : Nat) : List (List UInt8) := ((csN nd i n).map fun c => [c]).mergeSort Go.leB
theorem lets_text (nd : Nat → Nat) (n : Nat) (hn : n ≤ 8) (i : Nat) (t : Lt) (ht : (letsN nd n n)[i]? = some t) : TextOk t.sel (ndL nd n i) := by
  have hi : i < n := by have := (List.getElem?_eq_some_iff.1 ht).1; simpa [letsN] using this
  rw [letsN_at nd n n i hi] at ht
  cases ht
  exact textOk_sum (csN nd i n) (by have := csN_length nd i n; omega) (csN_range nd i n hn) (csN_nodup nd i n hn)
theorem lets_sel (nd : Nat → Nat) (n : Nat) : ∀ t ∈ letsN nd n n, t.sel.isEmpty = false := by
  intro t ht
  obtain ⟨i, _, rfl⟩ := List.mem_map.1 ht
  rfl
theorem dep_bits (nd : Nat → Nat) (n i k : Nat) (hn : n ≤ 8) (hk : k < n) : depB (letsN nd n n) (ndL nd n) i k = (nd i).testBit k := by
  have hname : nameAt (letsN nd n n) k = [letter k] := by simp [nameAt, letsN_at nd n n k hk, letOf]
  unfold depB
  rw [hname]
  rw [Bool.eq_iff_iff, decide_eq_true_eq]
  unfold ndL
  rw [List.mem_mergeSort, List.mem_map]
  constructor
  · rintro ⟨c, hc, he⟩
    obtain ⟨j, hj, rfl⟩ := List.mem_map.1 hc
    obtain ⟨h1, h2⟩ := List.mem_filter.1 hj
    simp at he h1
    obtain rfl := letter_inj (by omega) (by omega) he
    exact h2
  · intro h
    exact ⟨letter k, List.mem_map.2 ⟨k, List.mem_filter.2 ⟨by simpa using hk, h⟩, rfl⟩, rfl⟩
theorem ord_bits {nd : Nat → Nat} {n : Nat} {out : List Nat} (hn : n ≤ 8) (h : OrdOk (depB (letsN nd n n) (ndL nd n)) n out) : OrdOk (fun i k => (nd i).testBit k) n out :=
  ⟨h.nodup, h.lt, fun j i hi k hk hd => h.behind j i hi k hk (by rw [dep_bits nd n i k hn hk]; exact hd)⟩
end Go.Proofs.YtaadhehcoegmhaaGreatDoor
/- live: it answers true. -/
namespace Go.Proofs.YtaadhehcoegmhaaGreatDoor
open Go Go.RowKit

def liveA : List Lt := [⟨[97], [36, 98]⟩, ⟨[98], [49]⟩]
def liveB : List Lt := [⟨[97], [36, 97]⟩]
def ndA (i : Nat) : List (List UInt8) := if i = 0 then [[98]] else []
def ndB (_ : Nat) : List (List UInt8) := [[97]]

theorem liveA_order {out : List Nat} (h : OrdOk (depB liveA ndA) 2 out) (hn : out.length = 2) : out = [1, 0] := by
  match out, hn with
  | [x, y], _ =>
    have hx := h.lt x (by simp)
    have hy := h.lt y (by simp)
    have hxy : x ≠ y := by have := h.nodup; simp at this; exact this
    have h0 : x ≠ 0 := by
      rintro rfl
      have := h.behind 0 0 rfl 1 (by omega) (by decide)
      simp at this
    have : x = 1 := by omega
    have : y = 0 := by omega
    subst x y
    rfl
theorem liveA_goes {out : List Nat} (h : OrdOk (depB liveA ndA) 2 out) (hn : out.length ≠ 2) (hs : ∀ i, i < 2 → i ∉ out → ∃ k, k < 2 ∧ k ∉ out ∧ depB liveA ndA i k = true) : False := by
  have d1 : ∀ k, k < 2 → depB liveA ndA 1 k = false := by intro k hk; match k, hk with
    | 0, _ => decide
    | 1, _ => decide
  have d0 : depB liveA ndA 0 0 = false := by decide
  have h1 : 1 ∈ out := by
    apply Classical.byContradiction
    intro hno
    obtain ⟨k, hk, _, hd⟩ := hs 1 (by omega) hno
    rw [d1 k hk] at hd; cases hd
  have h0 : 0 ∈ out := by
    apply Classical.byContradiction
    intro hno
    obtain ⟨k, hk, hko, hd⟩ := hs 0 (by omega) hno
    match k, hk with
    | 0, _ => rw [d0] at hd; cases hd
    | 1, _ => exact hko h1
  obtain ⟨k, hk, hko⟩ := h.left hn
  match k, hk with
  | 0, _ => exact hko h0
  | 1, _ => exact hko h1
theorem liveB_stops {out : List Nat} (h : OrdOk (depB liveB ndB) 1 out) (hn : out.length = 1) : False := by
  match out, hn with
  | [x], _ =>
    have hx := h.lt x (by simp)
    obtain rfl : x = 0 := by omega
    have := h.behind 0 0 rfl 0 (by omega) (by decide)
    simp at this

set_option maxRecDepth 100000 in
set_option maxHeartbeats 4000000 in
theorem live12_any (w : World) (hE : Env w) : Calls Tryz.prog 21 #[] w fun e w' => e = .returned (.bool true) ∧ Below w.heap.size w w' := by
  obtain ⟨W0, hW0⟩ : ∃ W, W = w.alloc (.cells (letCells liveA).toArray 51) := ⟨_, rfl⟩
  have hb0 : Below w.heap.size w W0 := by rw [hW0]; exact (Below.refl _ _).alloc (Nat.le_refl _) _
  have hcA : ∀ j u, (letCells liveA)[j]? = some u → W0.cell? ⟨w.heap.size, j, none⟩ = some u := fun j u hu => by
    have : W0.heap[w.heap.size]? = some (.cells (letCells liveA).toArray 51 (0, 0)) := by rw [hW0]; exact heap_alloc_new w _
    rw [Lib.cell_of_heap this]; simpa using hu
  have htA : ∀ i t, liveA[i]? = some t → TextOk t.sel (ndA i) := fun i t ht => by
    match i, ht with
    | 0, ht => simp [liveA] at ht; subst ht; exact textOk_var 98 (by decide) (by decide)
    | 1, ht => simp [liveA] at ht; subst ht; exact textOk_dig 49 (.inr rfl)
    | i + 2, ht => simp [liveA] at ht
  have HCA := Lib.hid (compile_lets w.heap.size 2 liveA ndA W0 (hE.below hb0) (by decide) (by decide) hcA (fun t ht => by simp [liveA] at ht; rcases ht with rfl | rfl <;> rfl) htA)
  have HB0 := Lib.hid hb0
  have HE := Lib.hid hE
  clear hcA htA hb0 hE
  go_enter Tryz.func21, Tryz.ntmps21
  go_wp2_with fail
  subst hW0
  refine Calls.mono HCA.out ?_
  rintro e w1 ⟨hb1, out, hord, ⟨pp, rfl, hpr, hlen⟩ | ⟨rfl, hlen, hst⟩⟩
  · obtain rfl := liveA_order hord hlen
    have hb01 := below_then HB0.out HB0.out.size hb1
    have hbB : Below w1.heap.size w1 (w1.alloc (.cells (letCells liveB).toArray 51)) := (Below.refl _ _).alloc (Nat.le_refl _) _
    have hcB : ∀ j u, (letCells liveB)[j]? = some u → (w1.alloc (.cells (letCells liveB).toArray 51)).cell? ⟨w1.heap.size, j, none⟩ = some u := fun j u hu => by
      rw [Lib.cell_of_heap (heap_alloc_new w1 _)]; simpa using hu
    have htB : ∀ i t, liveB[i]? = some t → TextOk t.sel (ndB i) := fun i t ht => by
      match i, ht with
      | 0, ht => simp [liveB] at ht; subst ht; exact textOk_var 97 (by decide) (by decide)
      | i + 1, ht => simp [liveB] at ht
    have HCB := Lib.hid (compile_lets w1.heap.size 1 liveB ndB _ ((HE.out.below hb01).below hbB) (by decide) (by decide) hcB (fun t ht => by simp [liveB] at ht; subst ht; rfl) htB)
    have HB1 := Lib.hid (below_then hb01 hb01.size hbB)
    have HPR := Lib.hid (show ProgAt pp [1, 0] (w1.alloc (.cells (letCells liveB).toArray 51)) by
      obtain ⟨v, h1, h2⟩ := hpr
      exact ⟨v, (hbB.cell (at_lt h1)).trans h1, h2.below hbB⟩)
    clear hord hlen hb1 hb01 hbB hcB htB hpr
    dsimp only
    go_wp2_with fail
    refine Calls.mono HCB.out ?_
    rintro e w2 ⟨hb2, out, hord, ⟨pp2, rfl, hpr, hlen⟩ | ⟨rfl, hlen, hst⟩⟩
    · exact (liveB_stops hord hlen).elim
    · have HB2 := Lib.hid (below_then HB1.out HB1.out.size hb2)
      have HPR2 := Lib.hid (show ProgAt pp [1, 0] w2 by
        obtain ⟨v, h1, h2⟩ := HPR.out
        exact ⟨v, (hb2.cell (at_lt h1)).trans h1, h2.below hb2⟩)
      clear hord hlen hst hb2
      dsimp only
      go_wp2_with fail
      refine Calls.mono (order_any pp [1, 0] w2 HPR2.out (by simp)) ?_
      rintro e w3 ⟨v, rfl, hs3, hb3⟩
      obtain ⟨A, cap, rfl, hia⟩ := (hs3.below ((Below.refl _ _).alloc (Nat.le_refl _) (.cells #[.int .i64 1, .int .i64 0] 3))).at
      have hib : IntsAt (w3.alloc (.cells #[.int .i64 1, .int .i64 0] 3)) (some ⟨w3.heap.size, 0, none⟩) [1, 0] := fun i z hz => by
        refine ⟨_, rfl, by rw [addr_add]; simp, ?_⟩
        rw [addr_add, Nat.zero_add, Lib.cell_of_heap (heap_alloc_new w3 _)]
        match i, hz with
        | 0, hz => simp at hz; subst hz; rfl
        | 1, hz => simp at hz; subst hz; rfl
        | i + 2, hz => simp at hz
      have HSM := Lib.hid (same_any A (some ⟨w3.heap.size, 0, none⟩) cap 2 (outI [1, 0]) [1, 0] _ hia hib (by simp [outI]))
      have HB3 := Lib.hid ((below_then HB2.out HB2.out.size hb3).alloc (below_then HB2.out HB2.out.size hb3).size (.cells #[.int .i64 1, .int .i64 0] 3))
      clear hs3 hia hib hb3
      dsimp only
      go_wp2_with fail
      refine Calls.mono HSM.out ?_
      rintro e w4 ⟨rfl, hb4⟩
      have HB4 := Lib.hid (below_then HB3.out HB3.out.size hb4)
      have heq : decide (outI [1, 0] = [1, 0]) = true := by decide
      rw [heq]
      clear hb4 heq
      dsimp only
      go_wp2_with fail
      go_ret
      exact ⟨rfl, HB4.out⟩
  · exact (liveA_goes hord hlen hst).elim
end Go.Proofs.YtaadhehcoegmhaaGreatDoor
/- XcodeOrders answers true. -/
namespace Go.Proofs.YtaadhehcoegmhaaGreatDoor
open Go Go.RowKit

theorem conv_letter (k : Nat) (hk : k < 8) (w : World) : (convert 42 9 (.slice (some ⟨w.heap.size, 0, none⟩) 1 1)).run Tryz.prog (w.alloc (.cells #[.int .u8 (97 + (k : Int))] 5)) = .ok (.string (bs [letter k])) (w.alloc (.cells #[.int .u8 (97 + (k : Int))] 5)) := by
  refine run_convert_bytes_back (P := Tryz.prog) _ 42 9 5 ⟨w.heap.size, 0, none⟩ 1 [letter k] Tryz.underlying42 Tryz.underlying5 Tryz.underlying9 (fun j hj => ?_)
  obtain rfl : j = 0 := by simpa using hj
  rw [addr_add, Lib.cell_of_heap (heap_alloc_new w _)]
  simp [letter_nat k hk]

theorem wpList_append_let {w : World} {ops : Array Oper} {rest : List Oper} {o : Oper} {a : Act} {Q : Exit → Act → World → Prop} (hgd : o.guard = none) (s x : Operand)
    (ho : o.op = .call { callee := .builtin .append, args := #[s, x], argTypes := #[47, 47] })
    (base : Nat) (v : Value) (n : Nat) (xs : List Value) (hs : a.eval s = v) (hown : w.ownsRow base 51 9 v n xs) (t : Lt) (b : Nat) (hx : a.eval x = .slice (some ⟨b, 0, none⟩) 1 1) (hb : w.heap[b]? = some (.cells (let9 t) 51 (0, 0)))
    (hn : n ≤ 1000) (hbase : base ≤ w.heap.size)
    (h : ∀ v' w', w'.ownsRow base 51 9 v' (n + 1) (xs ++ t.cells) → Below base w w' → wpList Tryz.prog ops Q rest (a.put o.dst v') w') :
    wpList Tryz.prog ops Q (o :: rest) a w := by
  obtain ⟨i0, hi, hz0, hz1, hz2⟩ := info_parts info51
  refine wpList_append_own_at w hgd s x 47 ho base 51 i0 _ 9 152 Tryz.underlying47 hi hz0 hz1 hz2 rfl (by omega) v n xs hs hown ⟨b, 0, none⟩ 1 1 t.cells hx (by simp [Lt.cells]) (fun j u hu => ?_) (fun u hu => ?_) (by simp [maxLen]; omega) (by omega) hbase fun v' w' hown' hg _ _ => h v' w' hown' ((Below.refl _ _).grown hg hbase fun k hk => (hown.lt k hk).1)
  · rw [addr_add, Nat.zero_add, Lib.cell_of_heap hb]
    simpa [Lt.cells] using hu
  · simp [Lt.cells] at hu
    rcases hu with rfl | rfl | rfl | rfl | rfl | rfl <;> simp [Value.oneCell']
theorem own_kept9 {w w' : World} {base : Nat} {v : Value} {n : Nat} {xs : List Value} (h : w.ownsRow base 51 9 v n xs) (hk : ∀ k, base ≤ k → k < w.heap.size → w'.heap[k]? = w.heap[k]?) : w'.ownsRow base 51 9 v n xs := by
  refine ⟨h.1, ?_⟩
  rcases h.2 with hn | ⟨g, cap, cur, rfl, hb, hg, rest⟩
  · exact .inl hn
  · exact .inr ⟨g, cap, cur, rfl, hb, (hk g hb (Array.getElem?_eq_some_iff.1 hg).1).trans hg, rest⟩
theorem letCells_snoc (ls : List Lt) (t : Lt) : letCells (ls ++ [t]) = letCells ls ++ t.cells := by simp [letCells]

/-- Compile of the globals that the law makes. -/
theorem compile_letsN (nd : Nat → Nat) (n : Nat) (hn : n ≤ 8) (v : Value) (B : Nat) (w : World) (hE : Env w) (hnil : n = 0 → v = .slice none 0 0) (hown : w.ownsRow B 51 9 v n (letCells (letsN nd n n))) :
    Calls Tryz.prog 20 #[.agg (sheet5 v)] w (CompilePost (letsN nd n n) (ndL nd n) w) := by
  by_cases h0 : n = 0
  · obtain rfl := hnil h0
    subst h0
    refine (compile_none w).mono ?_
    rintro e w' ⟨pp, rfl, hp, hb⟩
    exact ⟨hb, [], OrdOk.nil _ _, .inl ⟨pp, rfl, hp, rfl⟩⟩
  · rcases hown.2 with ⟨_, h1⟩ | ⟨g, cap, cur, rfl, hBg, hg, _⟩
    · exact absurd h1 h0
    · have hl := letsN_length nd n n
      have := compile_lets g cap (letsN nd n n) (ndL nd n) w hE (by omega) (by omega) (fun j u hu => by
        have := hown.cells (g := g) rfl j u hu
        rw [addr_add, Nat.zero_add] at this
        exact this) (lets_sel nd n) (lets_text nd n hn)
      rw [hl] at this
      exact this
theorem IntSlice.at2 {w : World} {v : Value} {zs : List Int} (h : IntSlice w v zs) : ∃ A cap, v = .slice A zs.length cap ∧ ∀ i z, zs[i]? = some z → ∃ b off, A = some ⟨b, off, none⟩ ∧ w.cell? ⟨b, off + i, none⟩ = some (.int .i64 z) := by
  rcases h with ⟨rfl, rfl⟩ | ⟨b, off, cap, rfl, _, h3⟩
  · exact ⟨none, 0, rfl, fun i z hz => by simp at hz⟩
  · exact ⟨_, cap, rfl, fun i z hz => ⟨b, off, rfl, h3 i z hz⟩⟩
/-- A row of truths. -/
def BoolRow (w : World) (r n : Nat) (f : Nat → Bool) : Prop := w.heap[r]? = some (.cells ((List.range n).map fun i => Value.bool (f i)).toArray 4 (0, 0))
theorem BoolRow.cell {w : World} {r n : Nat} {f : Nat → Bool} (h : BoolRow w r n f) {i : Nat} (hi : i < n) : w.cell? ⟨r, i, none⟩ = some (.bool (f i)) := by
  rw [Lib.cell_of_heap h]
  simp [hi]
theorem BoolRow.frozen {w : World} {r n : Nat} {f : Nat → Bool} (h : BoolRow w r n f) (i : Nat) : w.frozen? ⟨r, i, none⟩ = false := by
  unfold BoolRow at h
  simp [World.frozen?, h]
theorem BoolRow.set {w : World} {r n : Nat} {f : Nat → Bool} (h : BoolRow w r n f) (i : Nat) (v : Bool) : BoolRow (w.setCell ⟨r, i, none⟩ (.bool v)) r n (fun j => if j = i then v else f j) := by
  unfold BoolRow at h ⊢
  rw [setCell_row h]
  congr 2
  apply Array.ext
  · simp
  · intro j h1 h2
    simp at h1 h2 ⊢
    by_cases hj : i = j
    · subst hj; simp
    · rw [List.getElem_set_ne hj]
      simp [Ne.symm hj]
theorem BoolRow.congr {w : World} {r n : Nat} {f g : Nat → Bool} (h : BoolRow w r n f) (hfg : ∀ i, i < n → f i = g i) : BoolRow w r n g := by
  unfold BoolRow at h ⊢
  rw [h]
  congr 3
  apply List.map_congr_left
  intro i hi
  rw [hfg i (by simpa using hi)]
theorem BoolRow.not_int {w : World} {r n : Nat} {f : Nat → Bool} (h : BoolRow w r n f) {b j : Nat} {k : IntKind} {z : Int} (hc : w.cell? ⟨b, j, none⟩ = some (.int k z)) : b ≠ r := by
  rintro rfl
  rw [Lib.cell_of_heap h] at hc
  simp at hc
theorem BoolRow.made (w : World) (n : Nat) : BoolRow (w.alloc (.cells (madeCells #[.bool false] n) 4)) w.heap.size n (fun _ => false) := by
  unfold BoolRow
  rw [heap_alloc_new]
  congr 2
  apply Array.ext
  · simp [madeCells]
  · intro j h1 h2
    simp [madeCells, Nat.mod_one]

set_option maxRecDepth 100000 in
set_option maxHeartbeats 8000000 in
theorem xcodeOrders_walk (A : Option Addr) (m cap n : Nat) (nd : Nat → Nat) (w : World) (hE : Env w) (hn : m ≤ 8 ∧ n = m ∨ 8 < m ∧ n = 8) (h : NeedsAt w A n nd) :
    Calls Tryz.prog 8 #[.slice A m cap] w fun e w' => e = .returned (.bool true) ∧ Below w.heap.size w w' := by
  have hn8 : n ≤ 8 ∧ n ≤ m := by rcases hn with ⟨h1, rfl⟩ | ⟨h1, rfl⟩ <;> omega
  have HE := Lib.hid hE
  have HN := Lib.hid h
  clear hE h
  go_enter Tryz.func8, Tryz.ntmps8
  rcases hn with ⟨h1, h2⟩ | ⟨h1, h2⟩
  · subst h2
    have hgt : ¬ ((8 : Int) < (n : Int)) := by omega
    have hgd : decide ((8 : Int) < (n : Int)) = false := by simpa using hgt
    go_wp2_with fail
    clear hgt hgd
    go_loopw [3, 5] (fun v3 v5 wr => ∃ i : Nat, v5 = .int .i64 i ∧ i ≤ n ∧ (i = 0 → v3 = .slice none 0 0) ∧ wr.ownsRow w.heap.size 51 9 v3 i (letCells (letsN nd n i)) ∧ Below w.heap.size w wr) (fun _ v5 _ => n - (intOf v5).toNat)
    case atStart => exact ⟨0, rfl, by omega, fun _ => rfl, ⟨by simp [letsN, letCells], .inl ⟨rfl, rfl⟩⟩, Below.refl _ _⟩
    case round =>
      obtain ⟨i, rfl, hi, hnil, hown, hb⟩ := hrel
      rename World => wr
      by_cases hlt : i < n
      · have HNIL := Lib.hid hnil
        have HOWN := Lib.hid hown
        have HB := Lib.hid hb
        clear hnil hown hb
        go_wp2_with fail
        go_loopw [6, 7] (fun v6 v7 w2 => ∃ k : Nat, v7 = .int .i64 k ∧ k ≤ n ∧ v6 = .string (bs (sumText (csN nd i k))) ∧ Below wr.heap.size wr w2) (fun _ v7 _ => n - (intOf v7).toNat)
        case atStart => exact ⟨0, rfl, by omega, rfl, Below.refl _ _⟩
        case round =>
          obtain ⟨k, rfl, hk, rfl, hb2⟩ := hrel
          rename World => w2
          have HB2 := Lib.hid hb2
          by_cases hlt2 : k < n
          · obtain ⟨h256, b, off, rfl, hc⟩ := HN.out i hlt
            have hcr := (hb2.cell (at_lt ((HB.out.cell (at_lt hc)).trans hc))).trans ((HB.out.cell (at_lt hc)).trans hc)
            have him : i < n := by omega
            have hbit := bit_test (nd i) k h256
            clear hb2 hc
            cases hq : (nd i).testBit k with
            | true =>
              rw [hq] at hbit
              have HQ := Lib.hid hq
              clear hq
              have hk8 : k < 8 := by omega
              have hcv := conv_letter k hk8 w2
              have happ1 : (bs [32, 43, 32, 36] ++ bs [letter k] : ByteArray) = bs [32, 43, 32, 36, letter k] := by rw [bs_app]; rfl
              have happ2 : (bs (sumText (csN nd i k)) ++ bs [32, 43, 32, 36, letter k] : ByteArray) = bs (sumText (csN nd i (k + 1))) := by rw [bs_app, sumText_succ, HQ.out]; rfl
              have hsz : (bs (sumText (csN nd i k))).size ≤ 41 := by rw [bs_size, sumText_length]; have := csN_length nd i k; omega
              have hno1 : ¬ 9223372036854775807 < (bs [32, 43, 32, 36]).size + (bs [letter k]).size := by rw [bs_size, bs_size]; simp
              have hno2 : ¬ 9223372036854775807 < (bs (sumText (csN nd i k))).size + (bs [32, 43, 32, 36, letter k]).size := by rw [bs_size [32, 43, 32, 36, letter k]]; simp; omega
              go_wp2_with fail
              go_roundw
              case rel => exact ⟨k + 1, by go_num, by omega, rfl, HB2.out.alloc HB2.out.size _⟩
              case measure => simp [intOf]; omega
            | false =>
              rw [hq] at hbit
              have HQ := Lib.hid hq
              clear hq
              go_wp2_with fail
              go_roundw
              case rel => exact ⟨k + 1, by go_num, by omega, by rw [sumText_succ, HQ.out]; simp, HB2.out⟩
              case measure => simp [intOf]; omega
          · have hkn : k = n := by omega
            have hi8 : i < 8 := by omega
            have hcv := conv_letter i hi8 w2
            have hk1 : sumText (csN nd i k) = sumText (csN nd i n) := by rw [hkn]
            rw [hk1]
            clear hkn hk1 hb2
            obtain ⟨tx, htx⟩ : ∃ tx, tx = sumText (csN nd i n) := ⟨_, rfl⟩
            rw [← htx]
            have HTX := Lib.hid htx
            clear htx
            have hbA := (HB2.out.alloc HB2.out.size (.cells #[.int .u8 (97 + (i : Int))] 5))
            have hownA := own_kept9 HOWN.out (fun j hj1 hj2 => hbA.block j hj2)
            have HBA := Lib.hid hbA
            have HOWNA := Lib.hid (hownA.alloc (.cells (let9 ⟨[letter i], tx⟩) 51))
            have hi1000 : i ≤ 1000 := by omega
            have hbs : w.heap.size ≤ ((w2.alloc (.cells #[.int .u8 (97 + (i : Int))] 5)).alloc (.cells (let9 ⟨[letter i], tx⟩) 51)).heap.size := by have := HB.out.size; have := HB2.out.size; simp; omega
            have hbl := Lib.hid (show ((w2.alloc (.cells #[.int .u8 (97 + (i : Int))] 5)).alloc (.cells (let9 ⟨[letter i], tx⟩) 51)).heap[w2.heap.size + 1]? = some (.cells (let9 ⟨[letter i], tx⟩) 51 (0, 0)) from new_at _ _ (by simp))
            clear hbA hownA
            go_wp2_with (at_builtin; go_loud (refine wpList_append_let rfl (.tmp 44) (.tmp 52) (by rfl) w.heap.size _ i (letCells (letsN nd n i)) (by rfl) HOWNA.out ⟨[letter i], tx⟩ (w2.heap.size + 1) (by rfl) hbl.out hi1000 hbs ?_; intro v6 w6 hown6 hb6))
            have hown7 : w6.ownsRow w.heap.size 51 9 v6 (i + 1) (letCells (letsN nd n (i + 1))) := by
              rw [letsN_succ, letCells_snoc]
              rw [HTX.out] at hown6
              exact hown6
            have hb7 : Below w.heap.size w w6 := ((HB.out.trans (HBA.out.mono HB.out.size)).alloc (by have := HB.out.size; have := HB2.out.size; simp; omega) _).trans hb6
            go_roundw
            case rel => exact ⟨i + 1, by go_num, by omega, fun h0 => by omega, hown7, hb7⟩
            case measure => simp [intOf]; omega
      · have hin : i = n := by omega
        rw [hin] at hown hnil
        obtain ⟨Ag, ng, cg, rfl⟩ : ∃ Ag ng cg, u3 = .slice Ag ng cg := by
          rcases hown.2 with ⟨rfl, _⟩ | ⟨gg, cap, cur, rfl, _⟩
          · exact ⟨_, _, _, rfl⟩
          · exact ⟨_, _, _, rfl⟩
        have HCALL := Lib.hid (compile_letsN nd n hn8.1 (.slice Ag ng cg) w.heap.size wr (HE.out.below hb) hnil hown)
        have HB := Lib.hid hb
        clear hown hnil hb hin
        go_wp2_with fail
        refine Calls.mono HCALL.out ?_
        rintro e w2 ⟨hb2, out, hord, ⟨pp, rfl, hpr, hlen⟩ | ⟨rfl, hlen, hst⟩⟩
        · rw [letsN_length] at hord hlen
          have hord2 := ord_bits hn8.1 hord
          have hround : roundB nd n = false := hord2.no_round hlen
          have HORD := Lib.hid hord2
          have HRD := Lib.hid hround
          have HLEN := Lib.hid hlen
          have hout1000 : out.length ≤ 1000 := by omega
          have HOA := Lib.hid (order_any pp out w2 hpr hout1000)
          have HB2 := Lib.hid (below_then HB.out HB.out.size hb2)
          clear hord hord2 hlen hround hpr hb2 hout1000
          dsimp only
          go_wp2_with fail
          refine Calls.mono HOA.out ?_
          rintro e w3 ⟨v3, rfl, hs3, hb3⟩
          have HB3 := Lib.hid (below_then HB2.out HB2.out.size hb3)
          have holen : (outI out).length = n := by simp [outI, HLEN.out]
          obtain ⟨Ao, co, rfl, hia⟩ := hs3.at2
          rw [holen]
          have HIA := Lib.hid hia
          have hmk := fun w => run_make_row' (P := Tryz.prog) 39 4 (.bool false) 1 Tryz.underlying39 (by kernel_rfl) rfl .i64 .i64 n (by omega) (by omega) w
          clear hs3 hb3 hia holen
          dsimp only
          go_wp2_with fail
          have hbA := HB3.out.alloc HB3.out.size (.cells (madeCells #[.bool false] n) 4)
          have hdone := BoolRow.made w3 n
          have HIA2 := Lib.hid (show ∀ i z, (outI out)[i]? = some z → ∃ b off, Ao = some ⟨b, off, none⟩ ∧ (w3.alloc (.cells (madeCells #[.bool false] n) 4)).cell? ⟨b, off + i, none⟩ = some (.int .i64 z) from fun i z hz => by
            obtain ⟨b, off, h1, h2⟩ := HIA.out i z hz
            exact ⟨b, off, h1, cell_alloc h2 _⟩)
          obtain ⟨W, hW⟩ : ∃ W, W = w3.alloc (.cells (madeCells #[.bool false] n) 4) := ⟨_, rfl⟩
          rw [← hW] at hbA hdone HIA2 ⊢
          have hrW : w3.heap.size < W.heap.size := by rw [hW]; simp
          have hrw3 : w.heap.size ≤ w3.heap.size := HB3.out.size
          clear hW hmk
          have HBA := Lib.hid hbA
          have HDONE := Lib.hid hdone
          clear hbA hdone
          refine Calls.mono (round_any A n cap n nd _ hn8.1 hn8.2 (HN.out.below HBA.out)) ?_
          rintro e w4 ⟨rfl, hb4⟩
          rw [HRD.out]
          have HB4 := Lib.hid hb4
          have HD4 := Lib.hid (show BoolRow w4 w3.heap.size n (fun j => decide (j ∈ out.take 0)) from by
            have := (hb4.block _ hrW).trans HDONE.out
            exact BoolRow.congr this (fun j _ => by simp))
          clear hb4
          dsimp only
          go_wp2_with fail
          go_loopw [12] (fun v12 w5 => ∃ i : Nat, v12 = .int .i64 i ∧ i ≤ n ∧ BoolRow w5 w3.heap.size n (fun j => decide (j ∈ out.take i)) ∧ W.heap.size ≤ w5.heap.size ∧ W.grownBy w5 (some w3.heap.size)) (fun v12 _ => n - (intOf v12).toNat)
          case atStart => exact ⟨0, rfl, by omega, HD4.out, HB4.out.size, grown_of_below HB4.out _⟩
          case round =>
            obtain ⟨i3, rfl, hi3, hdn, hsz5, hg5⟩ := hrel
            rename World => w5
            have HDN := Lib.hid hdn
            have HG5 := Lib.hid hg5
            have hkeep : ∀ b j v, W.cell? ⟨b, j, none⟩ = some v → b ≠ w3.heap.size → w5.cell? ⟨b, j, none⟩ = some v := fun b j v hc hne =>
              (World.cell?_of_block (w := W) (a := ⟨b, j, none⟩) (hg5.block b (at_lt hc) (fun e => hne (Option.some.inj e)))).trans hc
            have HKEEP := Lib.hid hkeep
            clear hdn hg5 hkeep
            by_cases hlt3 : i3 < n
            · obtain ⟨x, hx⟩ : ∃ x, out[i3]? = some x := ⟨out[i3]'(by rw [HLEN.out]; exact hlt3), by simp [HLEN.out, hlt3]⟩
              have hxn : x < n := HORD.out.lt x (List.mem_of_getElem? hx)
              have hxI : (outI out)[i3]? = some (x : Int) := by simp [outI, hx]
              obtain ⟨bo, offo, rfl, hco⟩ := HIA2.out i3 _ hxI
              have co5 := HKEEP.out _ _ _ hco (HDONE.out.not_int hco)
              have hxnot : x ∉ out.take i3 := by
                intro hmem
                obtain ⟨j, hj⟩ := List.getElem?_of_mem hmem
                have hji : j < i3 := by have := (List.getElem?_eq_some_iff.1 hj).1; simp at this; omega
                rw [List.getElem?_take_of_lt hji] at hj
                obtain ⟨h1, h2⟩ := List.getElem?_eq_some_iff.1 hj
                obtain ⟨h3, h4⟩ := List.getElem?_eq_some_iff.1 hx
                exact (List.pairwise_iff_getElem.1 (List.nodup_iff_pairwise_ne.1 HORD.out.nodup)) j i3 h1 h3 hji (h2.trans h4.symm)
              have hdx : w5.cell? ⟨w3.heap.size, x, none⟩ = some (.bool false) := by
                rw [HDN.out.cell hxn, decide_eq_false hxnot]
              have hx1 : ¬ ((x : Int) ≥ (n : Int)) := by omega
              have HX := Lib.hid hx
              have HXN := Lib.hid hxnot
              clear hx hxI hxnot hco
              obtain ⟨h256x, b, off, rfl, hcn⟩ := HN.out x hxn
              have hcW := (HBA.out.cell (at_lt hcn)).trans hcn
              have cn5 := HKEEP.out _ _ _ hcW (HDONE.out.not_int hcW)
              have hxm : x < n := by omega
              have hfz := HDN.out.frozen x
              clear hcn hcW
              go_wp2_with fail
              go_loopw [13] (fun v13 wr => ∃ k : Nat, v13 = .int .i64 k ∧ k ≤ n ∧ w5 = wr) (fun v13 _ => n - (intOf v13).toNat)
              case atStart => exact ⟨0, rfl, by omega, rfl⟩
              case round =>
                obtain ⟨k, rfl, hk, rfl⟩ := hrel
                by_cases hlt4 : k < n
                · have hbit := bit_test (nd x) k h256x
                  cases hq : (nd x).testBit k with
                  | true =>
                    rw [hq] at hbit
                    have hdk : w5.cell? ⟨w3.heap.size, k, none⟩ = some (.bool true) := by
                      rw [HDN.out.cell hlt4, decide_eq_true (HORD.out.behind i3 x HX.out k hlt4 hq)]
                    clear hq
                    go_wp2_with fail
                    go_roundw
                    case rel => exact ⟨k + 1, by go_num, by omega, trivial⟩
                    case measure => simp [intOf]; omega
                  | false =>
                    rw [hq] at hbit
                    clear hq
                    go_wp2_with fail
                    go_roundw
                    case rel => exact ⟨k + 1, by go_num, by omega, trivial⟩
                    case measure => simp [intOf]; omega
                · have HD6 := Lib.hid (show BoolRow (w5.setCell ⟨w3.heap.size, x, none⟩ (.bool true)) w3.heap.size n (fun j => decide (j ∈ out.take (i3 + 1))) from
                    (HDN.out.set x true).congr fun j _ => by
                      have ht : out.take (i3 + 1) = out.take i3 ++ [x] := by rw [List.take_add_one, HX.out]; rfl
                      rw [ht]
                      by_cases hj : j = x
                      · subst hj; simp
                      · simp [hj])
                  have HG6 := Lib.hid (grown_setCell (i := x) (v := .bool true) HG5.out)
                  have hsz6 : W.heap.size ≤ (w5.setCell ⟨w3.heap.size, x, none⟩ (.bool true)).heap.size := by simp [World.setCell]; exact hsz5
                  clear hk
                  go_wp2_with fail
                  go_roundw
                  case rel => exact ⟨i3 + 1, by go_num, by omega, HD6.out, hsz6, HG6.out⟩
                  case measure => simp [intOf]; omega
            · have hb5 : Below w.heap.size w w5 := HBA.out.trans (below_of_grown HG5.out hrw3 HBA.out.size)
              have HB5 := Lib.hid hb5
              clear hb5
              go_wp2_with fail
              refine Calls.mono (live12_any _ (HE.out.below HB5.out)) ?_
              rintro e w6 ⟨rfl, hb6⟩
              have HB6 := Lib.hid (below_then HB5.out HB5.out.size hb6)
              clear hb6
              dsimp only
              go_wp2_with fail
              go_ret
              exact ⟨rfl, HB6.out⟩
        · rw [letsN_length] at hord hlen hst
          have hord2 := ord_bits hn8.1 hord
          have hround : roundB nd n = true := hord2.round hlen (fun j hj hjo => by
            obtain ⟨k, hk, hko, hd⟩ := hst j hj hjo
            exact ⟨k, hk, hko, by rw [← dep_bits nd n j k hn8.1 hk]; exact hd⟩)
          have HRD := Lib.hid hround
          have HB2 := Lib.hid (below_then HB.out HB.out.size hb2)
          clear hord hord2 hlen hst hround hb2
          dsimp only
          go_wp2_with fail
          refine Calls.mono (live12_any _ (HE.out.below HB2.out)) ?_
          rintro e w3 ⟨rfl, hb3⟩
          have HB3 := Lib.hid (below_then HB2.out HB2.out.size hb3)
          clear hb3
          dsimp only
          go_wp2_with fail
          refine Calls.mono (round_any A n cap n nd _ hn8.1 hn8.2 (HN.out.below HB3.out)) ?_
          rintro e w4 ⟨rfl, hb4⟩
          rw [HRD.out]
          have HB4 := Lib.hid (below_then HB3.out HB3.out.size hb4)
          clear hb4
          dsimp only
          go_wp2_with fail
          go_ret
          exact ⟨rfl, HB4.out⟩
  · have h8 : ((8 : Int)) = (n : Int) := by omega
    clear h2
    have H8 := Lib.hid h8
    have hgt : ((8 : Int) < (m : Int)) := by omega
    have hgd : decide ((8 : Int) < (m : Int)) = true := by simpa using hgt
    clear h8
    go_wp2_with fail
    clear hgt hgd
    rw [H8.out]
    go_loopw [3, 5] (fun v3 v5 wr => ∃ i : Nat, v5 = .int .i64 i ∧ i ≤ n ∧ (i = 0 → v3 = .slice none 0 0) ∧ wr.ownsRow w.heap.size 51 9 v3 i (letCells (letsN nd n i)) ∧ Below w.heap.size w wr) (fun _ v5 _ => n - (intOf v5).toNat)
    case atStart => exact ⟨0, rfl, by omega, fun _ => rfl, ⟨by simp [letsN, letCells], .inl ⟨rfl, rfl⟩⟩, Below.refl _ _⟩
    case round =>
      obtain ⟨i, rfl, hi, hnil, hown, hb⟩ := hrel
      rename World => wr
      by_cases hlt : i < n
      · have HNIL := Lib.hid hnil
        have HOWN := Lib.hid hown
        have HB := Lib.hid hb
        clear hnil hown hb
        go_wp2_with fail
        go_loopw [6, 7] (fun v6 v7 w2 => ∃ k : Nat, v7 = .int .i64 k ∧ k ≤ n ∧ v6 = .string (bs (sumText (csN nd i k))) ∧ Below wr.heap.size wr w2) (fun _ v7 _ => n - (intOf v7).toNat)
        case atStart => exact ⟨0, rfl, by omega, rfl, Below.refl _ _⟩
        case round =>
          obtain ⟨k, rfl, hk, rfl, hb2⟩ := hrel
          rename World => w2
          have HB2 := Lib.hid hb2
          by_cases hlt2 : k < n
          · obtain ⟨h256, b, off, rfl, hc⟩ := HN.out i hlt
            have hcr := (hb2.cell (at_lt ((HB.out.cell (at_lt hc)).trans hc))).trans ((HB.out.cell (at_lt hc)).trans hc)
            have him : i < m := by omega
            have hbit := bit_test (nd i) k h256
            clear hb2 hc
            cases hq : (nd i).testBit k with
            | true =>
              rw [hq] at hbit
              have HQ := Lib.hid hq
              clear hq
              have hk8 : k < 8 := by omega
              have hcv := conv_letter k hk8 w2
              have happ1 : (bs [32, 43, 32, 36] ++ bs [letter k] : ByteArray) = bs [32, 43, 32, 36, letter k] := by rw [bs_app]; rfl
              have happ2 : (bs (sumText (csN nd i k)) ++ bs [32, 43, 32, 36, letter k] : ByteArray) = bs (sumText (csN nd i (k + 1))) := by rw [bs_app, sumText_succ, HQ.out]; rfl
              have hsz : (bs (sumText (csN nd i k))).size ≤ 41 := by rw [bs_size, sumText_length]; have := csN_length nd i k; omega
              have hno1 : ¬ 9223372036854775807 < (bs [32, 43, 32, 36]).size + (bs [letter k]).size := by rw [bs_size, bs_size]; simp
              have hno2 : ¬ 9223372036854775807 < (bs (sumText (csN nd i k))).size + (bs [32, 43, 32, 36, letter k]).size := by rw [bs_size [32, 43, 32, 36, letter k]]; simp; omega
              go_wp2_with fail
              go_roundw
              case rel => exact ⟨k + 1, by go_num, by omega, rfl, HB2.out.alloc HB2.out.size _⟩
              case measure => simp [intOf]; omega
            | false =>
              rw [hq] at hbit
              have HQ := Lib.hid hq
              clear hq
              go_wp2_with fail
              go_roundw
              case rel => exact ⟨k + 1, by go_num, by omega, by rw [sumText_succ, HQ.out]; simp, HB2.out⟩
              case measure => simp [intOf]; omega
          · have hkn : k = n := by omega
            have hi8 : i < 8 := by omega
            have hcv := conv_letter i hi8 w2
            have hk1 : sumText (csN nd i k) = sumText (csN nd i n) := by rw [hkn]
            rw [hk1]
            clear hkn hk1 hb2
            obtain ⟨tx, htx⟩ : ∃ tx, tx = sumText (csN nd i n) := ⟨_, rfl⟩
            rw [← htx]
            have HTX := Lib.hid htx
            clear htx
            have hbA := (HB2.out.alloc HB2.out.size (.cells #[.int .u8 (97 + (i : Int))] 5))
            have hownA := own_kept9 HOWN.out (fun j hj1 hj2 => hbA.block j hj2)
            have HBA := Lib.hid hbA
            have HOWNA := Lib.hid (hownA.alloc (.cells (let9 ⟨[letter i], tx⟩) 51))
            have hi1000 : i ≤ 1000 := by omega
            have hbs : w.heap.size ≤ ((w2.alloc (.cells #[.int .u8 (97 + (i : Int))] 5)).alloc (.cells (let9 ⟨[letter i], tx⟩) 51)).heap.size := by have := HB.out.size; have := HB2.out.size; simp; omega
            have hbl := Lib.hid (show ((w2.alloc (.cells #[.int .u8 (97 + (i : Int))] 5)).alloc (.cells (let9 ⟨[letter i], tx⟩) 51)).heap[w2.heap.size + 1]? = some (.cells (let9 ⟨[letter i], tx⟩) 51 (0, 0)) from new_at _ _ (by simp))
            clear hbA hownA
            go_wp2_with (at_builtin; go_loud (refine wpList_append_let rfl (.tmp 44) (.tmp 52) (by rfl) w.heap.size _ i (letCells (letsN nd n i)) (by rfl) HOWNA.out ⟨[letter i], tx⟩ (w2.heap.size + 1) (by rfl) hbl.out hi1000 hbs ?_; intro v6 w6 hown6 hb6))
            have hown7 : w6.ownsRow w.heap.size 51 9 v6 (i + 1) (letCells (letsN nd n (i + 1))) := by
              rw [letsN_succ, letCells_snoc]
              rw [HTX.out] at hown6
              exact hown6
            have hb7 : Below w.heap.size w w6 := ((HB.out.trans (HBA.out.mono HB.out.size)).alloc (by have := HB.out.size; have := HB2.out.size; simp; omega) _).trans hb6
            go_roundw
            case rel => exact ⟨i + 1, by go_num, by omega, fun h0 => by omega, hown7, hb7⟩
            case measure => simp [intOf]; omega
      · have hin : i = n := by omega
        rw [hin] at hown hnil
        obtain ⟨Ag, ng, cg, rfl⟩ : ∃ Ag ng cg, u3 = .slice Ag ng cg := by
          rcases hown.2 with ⟨rfl, _⟩ | ⟨gg, cap, cur, rfl, _⟩
          · exact ⟨_, _, _, rfl⟩
          · exact ⟨_, _, _, rfl⟩
        have HCALL := Lib.hid (compile_letsN nd n hn8.1 (.slice Ag ng cg) w.heap.size wr (HE.out.below hb) hnil hown)
        have HB := Lib.hid hb
        clear hown hnil hb hin
        go_wp2_with fail
        refine Calls.mono HCALL.out ?_
        rintro e w2 ⟨hb2, out, hord, ⟨pp, rfl, hpr, hlen⟩ | ⟨rfl, hlen, hst⟩⟩
        · rw [letsN_length] at hord hlen
          have hord2 := ord_bits hn8.1 hord
          have hround : roundB nd n = false := hord2.no_round hlen
          have HORD := Lib.hid hord2
          have HRD := Lib.hid hround
          have HLEN := Lib.hid hlen
          have hout1000 : out.length ≤ 1000 := by omega
          have HOA := Lib.hid (order_any pp out w2 hpr hout1000)
          have HB2 := Lib.hid (below_then HB.out HB.out.size hb2)
          clear hord hord2 hlen hround hpr hb2 hout1000
          dsimp only
          go_wp2_with fail
          refine Calls.mono HOA.out ?_
          rintro e w3 ⟨v3, rfl, hs3, hb3⟩
          have HB3 := Lib.hid (below_then HB2.out HB2.out.size hb3)
          have holen : (outI out).length = n := by simp [outI, HLEN.out]
          obtain ⟨Ao, co, rfl, hia⟩ := hs3.at2
          rw [holen]
          have HIA := Lib.hid hia
          have hmk := fun w => run_make_row' (P := Tryz.prog) 39 4 (.bool false) 1 Tryz.underlying39 (by kernel_rfl) rfl .i64 .i64 n (by omega) (by omega) w
          clear hs3 hb3 hia holen
          dsimp only
          go_wp2_with fail
          have hbA := HB3.out.alloc HB3.out.size (.cells (madeCells #[.bool false] n) 4)
          have hdone := BoolRow.made w3 n
          have HIA2 := Lib.hid (show ∀ i z, (outI out)[i]? = some z → ∃ b off, Ao = some ⟨b, off, none⟩ ∧ (w3.alloc (.cells (madeCells #[.bool false] n) 4)).cell? ⟨b, off + i, none⟩ = some (.int .i64 z) from fun i z hz => by
            obtain ⟨b, off, h1, h2⟩ := HIA.out i z hz
            exact ⟨b, off, h1, cell_alloc h2 _⟩)
          obtain ⟨W, hW⟩ : ∃ W, W = w3.alloc (.cells (madeCells #[.bool false] n) 4) := ⟨_, rfl⟩
          rw [← hW] at hbA hdone HIA2 ⊢
          have hrW : w3.heap.size < W.heap.size := by rw [hW]; simp
          have hrw3 : w.heap.size ≤ w3.heap.size := HB3.out.size
          clear hW hmk
          have HBA := Lib.hid hbA
          have HDONE := Lib.hid hdone
          clear hbA hdone
          refine Calls.mono (round_any A m cap n nd _ hn8.1 hn8.2 (HN.out.below HBA.out)) ?_
          rintro e w4 ⟨rfl, hb4⟩
          rw [HRD.out]
          have HB4 := Lib.hid hb4
          have HD4 := Lib.hid (show BoolRow w4 w3.heap.size n (fun j => decide (j ∈ out.take 0)) from by
            have := (hb4.block _ hrW).trans HDONE.out
            exact BoolRow.congr this (fun j _ => by simp))
          clear hb4
          dsimp only
          go_wp2_with fail
          go_loopw [12] (fun v12 w5 => ∃ i : Nat, v12 = .int .i64 i ∧ i ≤ n ∧ BoolRow w5 w3.heap.size n (fun j => decide (j ∈ out.take i)) ∧ W.heap.size ≤ w5.heap.size ∧ W.grownBy w5 (some w3.heap.size)) (fun v12 _ => n - (intOf v12).toNat)
          case atStart => exact ⟨0, rfl, by omega, HD4.out, HB4.out.size, grown_of_below HB4.out _⟩
          case round =>
            obtain ⟨i3, rfl, hi3, hdn, hsz5, hg5⟩ := hrel
            rename World => w5
            have HDN := Lib.hid hdn
            have HG5 := Lib.hid hg5
            have hkeep : ∀ b j v, W.cell? ⟨b, j, none⟩ = some v → b ≠ w3.heap.size → w5.cell? ⟨b, j, none⟩ = some v := fun b j v hc hne =>
              (World.cell?_of_block (w := W) (a := ⟨b, j, none⟩) (hg5.block b (at_lt hc) (fun e => hne (Option.some.inj e)))).trans hc
            have HKEEP := Lib.hid hkeep
            clear hdn hg5 hkeep
            by_cases hlt3 : i3 < n
            · obtain ⟨x, hx⟩ : ∃ x, out[i3]? = some x := ⟨out[i3]'(by rw [HLEN.out]; exact hlt3), by simp [HLEN.out, hlt3]⟩
              have hxn : x < n := HORD.out.lt x (List.mem_of_getElem? hx)
              have hxI : (outI out)[i3]? = some (x : Int) := by simp [outI, hx]
              obtain ⟨bo, offo, rfl, hco⟩ := HIA2.out i3 _ hxI
              have co5 := HKEEP.out _ _ _ hco (HDONE.out.not_int hco)
              have hxnot : x ∉ out.take i3 := by
                intro hmem
                obtain ⟨j, hj⟩ := List.getElem?_of_mem hmem
                have hji : j < i3 := by have := (List.getElem?_eq_some_iff.1 hj).1; simp at this; omega
                rw [List.getElem?_take_of_lt hji] at hj
                obtain ⟨h1, h2⟩ := List.getElem?_eq_some_iff.1 hj
                obtain ⟨h3, h4⟩ := List.getElem?_eq_some_iff.1 hx
                exact (List.pairwise_iff_getElem.1 (List.nodup_iff_pairwise_ne.1 HORD.out.nodup)) j i3 h1 h3 hji (h2.trans h4.symm)
              have hdx : w5.cell? ⟨w3.heap.size, x, none⟩ = some (.bool false) := by
                rw [HDN.out.cell hxn, decide_eq_false hxnot]
              have hx1 : ¬ ((x : Int) ≥ (n : Int)) := by omega
              have HX := Lib.hid hx
              have HXN := Lib.hid hxnot
              clear hx hxI hxnot hco
              obtain ⟨h256x, b, off, rfl, hcn⟩ := HN.out x hxn
              have hcW := (HBA.out.cell (at_lt hcn)).trans hcn
              have cn5 := HKEEP.out _ _ _ hcW (HDONE.out.not_int hcW)
              have hxm : x < m := by omega
              have hfz := HDN.out.frozen x
              clear hcn hcW
              go_wp2_with fail
              go_loopw [13] (fun v13 wr => ∃ k : Nat, v13 = .int .i64 k ∧ k ≤ n ∧ w5 = wr) (fun v13 _ => n - (intOf v13).toNat)
              case atStart => exact ⟨0, rfl, by omega, rfl⟩
              case round =>
                obtain ⟨k, rfl, hk, rfl⟩ := hrel
                by_cases hlt4 : k < n
                · have hbit := bit_test (nd x) k h256x
                  cases hq : (nd x).testBit k with
                  | true =>
                    rw [hq] at hbit
                    have hdk : w5.cell? ⟨w3.heap.size, k, none⟩ = some (.bool true) := by
                      rw [HDN.out.cell hlt4, decide_eq_true (HORD.out.behind i3 x HX.out k hlt4 hq)]
                    clear hq
                    go_wp2_with fail
                    go_roundw
                    case rel => exact ⟨k + 1, by go_num, by omega, trivial⟩
                    case measure => simp [intOf]; omega
                  | false =>
                    rw [hq] at hbit
                    clear hq
                    go_wp2_with fail
                    go_roundw
                    case rel => exact ⟨k + 1, by go_num, by omega, trivial⟩
                    case measure => simp [intOf]; omega
                · have HD6 := Lib.hid (show BoolRow (w5.setCell ⟨w3.heap.size, x, none⟩ (.bool true)) w3.heap.size n (fun j => decide (j ∈ out.take (i3 + 1))) from
                    (HDN.out.set x true).congr fun j _ => by
                      have ht : out.take (i3 + 1) = out.take i3 ++ [x] := by rw [List.take_add_one, HX.out]; rfl
                      rw [ht]
                      by_cases hj : j = x
                      · subst hj; simp
                      · simp [hj])
                  have HG6 := Lib.hid (grown_setCell (i := x) (v := .bool true) HG5.out)
                  have hsz6 : W.heap.size ≤ (w5.setCell ⟨w3.heap.size, x, none⟩ (.bool true)).heap.size := by simp [World.setCell]; exact hsz5
                  clear hk
                  go_wp2_with fail
                  go_roundw
                  case rel => exact ⟨i3 + 1, by go_num, by omega, HD6.out, hsz6, HG6.out⟩
                  case measure => simp [intOf]; omega
            · have hb5 : Below w.heap.size w w5 := HBA.out.trans (below_of_grown HG5.out hrw3 HBA.out.size)
              have HB5 := Lib.hid hb5
              clear hb5
              go_wp2_with fail
              refine Calls.mono (live12_any _ (HE.out.below HB5.out)) ?_
              rintro e w6 ⟨rfl, hb6⟩
              have HB6 := Lib.hid (below_then HB5.out HB5.out.size hb6)
              clear hb6
              dsimp only
              go_wp2_with fail
              go_ret
              exact ⟨rfl, HB6.out⟩
        · rw [letsN_length] at hord hlen hst
          have hord2 := ord_bits hn8.1 hord
          have hround : roundB nd n = true := hord2.round hlen (fun j hj hjo => by
            obtain ⟨k, hk, hko, hd⟩ := hst j hj hjo
            exact ⟨k, hk, hko, by rw [← dep_bits nd n j k hn8.1 hk]; exact hd⟩)
          have HRD := Lib.hid hround
          have HB2 := Lib.hid (below_then HB.out HB.out.size hb2)
          clear hord hord2 hlen hst hround hb2
          dsimp only
          go_wp2_with fail
          refine Calls.mono (live12_any _ (HE.out.below HB2.out)) ?_
          rintro e w3 ⟨rfl, hb3⟩
          have HB3 := Lib.hid (below_then HB2.out HB2.out.size hb3)
          clear hb3
          dsimp only
          go_wp2_with fail
          refine Calls.mono (round_any A m cap n nd _ hn8.1 hn8.2 (HN.out.below HB3.out)) ?_
          rintro e w4 ⟨rfl, hb4⟩
          rw [HRD.out]
          have HB4 := Lib.hid (below_then HB3.out HB3.out.size hb4)
          clear hb4
          dsimp only
          go_wp2_with fail
          go_ret
          exact ⟨rfl, HB4.out⟩
end Go.Proofs.YtaadhehcoegmhaaGreatDoor
