/- The iterators of a Let: no templates; one expression. -/
import Derived.Test.YtaadhehcoegmhaaGreatDoorO5
import Derived.Test.YtaadhehcoegmhaaGreatDoorO1
namespace Go.Proofs.YtaadhehcoegmhaaGreatDoor
open Go Go.RowKit Go.Shelf
attribute [local go_sem] Oper.semAt_some

set_option maxRecDepth 100000 in
set_option maxHeartbeats 1000000 in
/-- The texts' templates of a Let: none. -/
theorem templates_goes (t : Lt) (n b : Nat) (w : World) (hb : w.heap[b]? = some (.cells (let9 t) 51 (0, 0))) :
    SeqGoes n Tryz.prog 214 #[.pointer (some ⟨b, 0, none⟩)] (fun s : ByteArray => #[Value.string s]) [] w := fun l J W hW _ _ h0 => by
  have hbW := (hW.block b (Array.getElem?_eq_some_iff.1 hb).1).trans hb
  have c0 : W.cell? ⟨b, 0, none⟩ = some (.int .i64 14) := by rw [Lib.cell_of_heap hbW]; rfl
  refine callsIn_of_wp Tryz.func214 rfl trivial ?_ rfl
  simp only [Tryz.ntmps214, List.size_toArray, List.length_cons, List.length_nil, Nat.reduceAdd, Nat.reduceSub, Array.replicate_succ, Array.replicate_zero, List.push_toArray, List.append_toArray, List.nil_append, List.cons_append]
  gi_wp2
  go_end0
  exact ⟨⟨_, rfl⟩, h0⟩

set_option maxRecDepth 100000 in
set_option maxHeartbeats 2000000 in
/-- The expressions of a Let: its own. -/
theorem exprs_goes (t : Lt) (hsel : t.sel.isEmpty = false) (n b : Nat) (w : World) (hb : w.heap[b]? = some (.cells (let9 t) 51 (0, 0))) :
    SeqGoes n Tryz.prog 164 #[.pointer (some ⟨b, 0, none⟩)] (fun s : ByteArray => #[Value.string s, .int .i64 0]) [bs t.sel] w := fun l J W hW hJ hY h0 => by
  have hbW := (hW.block b (Array.getElem?_eq_some_iff.1 hb).1).trans hb
  obtain ⟨W1, hW1⟩ : ∃ W1, W1 = W.alloc (.cells #[.func (.yield l) #[] #[]] 239) := ⟨_, rfl⟩
  obtain ⟨W2, hW2⟩ : ∃ W2, W2 = W1.alloc (.cells (let9 t) 51) := ⟨_, rfl⟩
  have hs1 : W1.heap.size = W.heap.size + 1 := by rw [hW1]; simp
  have hs2 : W2.heap.size = W.heap.size + 2 := by rw [hW2]; simp [hs1]
  have hb1 : Below W.heap.size W W1 := by rw [hW1]; exact (Below.refl _ _).alloc (Nat.le_refl _) _
  have hb2 : Below W.heap.size W W2 := by rw [hW2]; exact hb1.alloc (by omega) _
  have hy1 : W1.heap[W.heap.size]? = some (.cells #[.func (.yield l) #[] #[]] 239 (0, 0)) := by rw [hW1]; exact heap_alloc_new W _
  have hy2 : W2.heap[W.heap.size]? = some (.cells #[.func (.yield l) #[] #[]] 239 (0, 0)) := by rw [hW2]; exact alloc_old _ hy1 rfl
  have ht2 : W2.heap[W.heap.size + 1]? = some (.cells (let9 t) 51 (0, 0)) := by rw [hW2, ← hs1]; exact heap_alloc_new W1 _
  have hi2 := (hb2.block b (Array.getElem?_eq_some_iff.1 hbW).1).trans hbW
  have hi1 := (hb1.block b (Array.getElem?_eq_some_iff.1 hbW).1).trans hbW
  have c0 : (W.alloc (.cells #[.func (.yield l) #[] #[]] 239)).cell? ⟨b, 0, none⟩ = some (.int .i64 14) := by rw [← hW1, Lib.cell_of_heap hi1]; rfl
  have c1 : (W.alloc (.cells #[.func (.yield l) #[] #[]] 239)).cell? ⟨b, 1, none⟩ = some (.string (bs t.name)) := by rw [← hW1, Lib.cell_of_heap hi1]; rfl
  have c2 : (W.alloc (.cells #[.func (.yield l) #[] #[]] 239)).cell? ⟨b, 2, none⟩ = some (.string (bs t.sel)) := by rw [← hW1, Lib.cell_of_heap hi1]; rfl
  have c3 : (W.alloc (.cells #[.func (.yield l) #[] #[]] 239)).cell? ⟨b, 3, none⟩ = some (.string ⟨#[]⟩) := by rw [← hW1, Lib.cell_of_heap hi1]; rfl
  have c4 : (W.alloc (.cells #[.func (.yield l) #[] #[]] 239)).cell? ⟨b, 4, none⟩ = some (.string ⟨#[]⟩) := by rw [← hW1, Lib.cell_of_heap hi1]; rfl
  have c5 : (W.alloc (.cells #[.func (.yield l) #[] #[]] 239)).cell? ⟨b, 5, none⟩ = some (.bool false) := by rw [← hW1, Lib.cell_of_heap hi1]; rfl
  have c6 : (W.alloc (.cells #[.func (.yield l) #[] #[]] 239)).cell? ⟨b, 6, none⟩ = some (.slice none 0 0) := by rw [← hW1, Lib.cell_of_heap hi1]; rfl
  have c7 : (W.alloc (.cells #[.func (.yield l) #[] #[]] 239)).cell? ⟨b, 7, none⟩ = some (.slice none 0 0) := by rw [← hW1, Lib.cell_of_heap hi1]; rfl
  have c8 : (W.alloc (.cells #[.func (.yield l) #[] #[]] 239)).cell? ⟨b, 8, none⟩ = some (.slice none 0 0) := by rw [← hW1, Lib.cell_of_heap hi1]; rfl
  have HJ0 := Lib.hid (hJ [] W W2 none h0 (grown_of_below hb2 none) (by simp))
  have HS := Lib.hid hsel
  have HY := Lib.hid hY
  have HT2 := Lib.hid ht2
  have HY2 := Lib.hid hy2
  have HI2 := Lib.hid hi2
  have HB2 := Lib.hid hb2
  have HJ := Lib.hid hJ
  have HW1 := Lib.hid hW1
  have HW2 := Lib.hid hW2
  clear hW1 hW2 hsel hY hJ hy2 ht2 hi2 hi1 hy1 hb1 hb2 hbW h0 hW hb
  refine callsIn_of_wp_marks Tryz.func164 rfl trivial ?_ rfl
  simp only [Tryz.ntmps164, List.size_toArray, List.length_cons, List.length_nil, Nat.reduceAdd, Nat.reduceSub, Array.replicate_succ, Array.replicate_zero, List.push_toArray, List.append_toArray, List.nil_append, List.cons_append]
  have HNW : ∀ m, Fence.wide.depth.isSome = true → 1 ≤ m := fun m h => by simp [Fence.wide] at h
  gi_wp2
  refine ⟨trivial, HNW _, ?_⟩
  refine (callsIn_wide.2 (templates_let t _)).mono ?_
  rintro e w' ⟨rfl, rfl⟩
  dsimp only
  rw [← HW1.out]
  rw [← HW2.out]
  clear c0 c1 c2 c3 c4 c5 c6 c7 c8
  gi_wp2
  refine range_goes (gf := 214) (lb := #[.pointer (some ⟨W1.heap.size, 0, none⟩)]) rfl (enters_of Tryz.func214 (by kernel_rfl) rfl)
    (templates_goes t (n - 1) W1.heap.size W2 (by rw [hs1]; exact HT2.out)) (Below.refl _ _) (fun _ => rfl) (fun _ W' => Below W2.heap.size W2 W') (ownFrom_below (Nat.le_refl _) (Nat.le_refl _)) (Below.refl _ _)
    (fun _ => { tmps := #[], defers := [] }) (fun l x W K hx => by simp at hx) (fun l pre x post W hx => by simp at hx) ?_
  intro D W3 hD hI3 hK
  have hJ3 := HJ.out [] W2 W3 none HJ0.out (grown_of_below hI3 none) (by simp)
  have hsy := (hI3.block _ (Array.getElem?_eq_some_iff.1 HY2.out).1).trans HY2.out
  have hsb := (hI3.block _ (Array.getElem?_eq_some_iff.1 HI2.out).1).trans HI2.out
  have y0 : W3.cell? ⟨W.heap.size, 0, none⟩ = some (.func (.yield l) #[] #[]) := by rw [Lib.cell_of_heap hsy]; rfl
  have b2 : W3.cell? ⟨b, 2, none⟩ = some (.string (bs t.sel)) := by rw [Lib.cell_of_heap hsb]; rfl
  obtain ⟨fn, tmps, assign, body, hy, hR⟩ := HY.out [] (bs t.sel) [] W3 rfl hJ3
  have hne := HS.out
  clear hsy hsb hI3 hJ3
  gi_wp2
  refine ⟨HNW _, hR.mono ?_⟩
  rintro e W4 ⟨rfl, hJ4, hkd⟩
  have hK4 := hkd.same _ _ hK
  have hJ5 := HJ.out _ W4 (W4.putObj D (.deferred none)) (some D) hJ4 (grownBy_putObj' _ _ _) (by rintro r e; cases e; exact ⟨by omega, _, hK4, rfl⟩)
  gi_wp2
  refine ⟨by simp, .inl ⟨_, _, rfl, run_takeDeferred hK4, ?_⟩⟩
  exact ⟨_, results_none rfl _ _ _, ⟨_, rfl⟩, hJ5⟩
end Go.Proofs.YtaadhehcoegmhaaGreatDoor
/- Marks left behind; instrs of nothing. -/
namespace Go.Proofs.YtaadhehcoegmhaaGreatDoor
open Go Go.RowKit Go.Shelf
attribute [local go_sem] Oper.semAt_some

abbrev markOf (D : Nat) : Deferred := { target := .collected D, args := #[] }

/-- A frame that leaves with marks alone: each block is shut; what is not of that make stays. -/
theorem leaves_marks {n : Nat} {P : Program} {fn : Func} {tmps : Array Value} {R : Ending → World → Prop} : ∀ (ds : List Nat) (w : World) (B : Nat), ds.Nodup → (∀ D ∈ ds, B ≤ D ∧ w.heap[D]? = some (.deferred (some []))) → B ≤ w.heap.size →
    (∀ w', Below B w w' → (∀ (k : Nat) (o : Obj), w.heap[k]? = some o → isHouse o = false → w'.heap[k]? = some o) → LeavesInM Fence.wide n P fn tmps R [] .returning w') →
    LeavesInM Fence.wide n P fn tmps R (ds.map markOf) .returning w
  | [], w, B, _, _, _, h => h w (Below.refl _ _) (fun _ _ h _ => h)
  | D :: ds, w, B, hn, hd, hB, h => by
    have hD := hd D (by simp)
    refine ⟨by simp, .inl ⟨D, _, rfl, run_takeDeferred hD.2, ?_⟩⟩
    have hlt := (Array.getElem?_eq_some_iff.1 hD.2).1
    have hbp : Below B w (w.putObj D (.deferred none)) := ⟨rfl, rfl, rfl, by simp [World.putObj], fun k hk => World.putObj_heap_other (by omega)⟩
    refine leaves_marks ds _ B (List.nodup_cons.1 hn).2 (fun E hE => ⟨(hd E (by simp [hE])).1, ?_⟩) (by simp [World.putObj, hB]) (fun w' hb hk => h w' (hbp.trans hb) (fun k o hko ho => hk k o ?_ ho))
    · rw [World.putObj_heap_other (by rintro rfl; exact (List.nodup_cons.1 hn).1 hE)]; exact (hd E (by simp [hE])).2
    · rw [World.putObj_heap_other (by rintro rfl; rw [hD.2] at hko; cases hko; simp [isHouse] at ho)]; exact hko

theorem results_cell1 {P : Program} {fn : Func} {p : Tmp} {ty : TypeId} (h : fn.results = #[.cell p ty]) (tmps : Array Value) (w : World) (g : Nat) (v : Value)
    (hp : tmps.getD p undef = .pointer (some ⟨g, 0, none⟩)) (hg : w.cell? ⟨g, 0, none⟩ = some v) (hu : (isAgg ty).run P w = .ok false w) :
    (results fn tmps).run P w = .ok v w := by
  have hp' : tmps[p]?.getD undef = .pointer (some ⟨g, 0, none⟩) := by simpa using hp
  simp [results, h, hp', asAddr, loadVar, hu]
  rw [hg]

theorem bodyPostM_ret {F : Fence} {n : Nat} {P : Program} {fn : Func} {R : Ending → World → Prop} {a : Act} {w : World} {v : Value} (hr : (results fn a.tmps).run P w = .ok v w) (hd : a.defers = []) (h : R (.returned v) w) : bodyPostM F n P fn R .ret a w := by
  show LeavesInM F n P fn a.tmps R a.defers .returning w
  rw [hd]
  exact ⟨v, hr, h⟩
theorem setCell_cell {w : World} {b : Nat} {x v : Value} {T : TypeId} (h : w.heap[b]? = some (.cells #[x] T (0, 0))) : (w.setCell ⟨b, 0, none⟩ v).cell? ⟨b, 0, none⟩ = some v :=
  World.cell?_setCell_same' _ _ _ (by rw [Lib.cell_of_heap h]; rfl)

set_option maxRecDepth 100000 in
set_option maxHeartbeats 1000000 in
theorem instrs_nil (pp : Nat) (w : World) : Calls Tryz.prog 44 #[.pointer (some ⟨pp, 0, none⟩), .slice none 0 0] w fun e w' => e = .returned (.int .i64 0) ∧ Below w.heap.size w w' := by
  obtain ⟨W, hW⟩ : ∃ W, W = (w.alloc (.cells #[.pointer (some ⟨pp, 0, none⟩)] 52)).alloc (.cells #[.int .i64 0] 32) := ⟨_, rfl⟩
  have hb : Below w.heap.size w W := by rw [hW]; exact ((Below.refl _ _).alloc (Nat.le_refl _) _).alloc (by simp) _
  have hr : W.heap[w.heap.size + 1]? = some (.cells #[.int .i64 0] 32 (0, 0)) := by rw [hW]; exact new_at _ _ (by simp)
  refine (callsIn_wide (n := 3)).1 ?_
  refine callsIn_of_wp_marks Tryz.func44 rfl trivial ?_ rfl
  simp only [Tryz.ntmps44, List.size_toArray, List.length_cons, List.length_nil, Nat.reduceAdd, Nat.reduceSub, Array.replicate_succ, Array.replicate_zero, List.push_toArray, List.append_toArray, List.nil_append, List.cons_append]
  have HB := Lib.hid hb
  have HR := Lib.hid hr
  have r0 : W.cell? ⟨w.heap.size + 1, 0, none⟩ = some (.int .i64 0) := by rw [Lib.cell_of_heap hr]; rfl
  have f0 : W.frozen? ⟨w.heap.size + 1, 0, none⟩ = false := by simp [World.frozen?, hr]
  clear hb hr
  gi_wp2
  rw [← hW]
  clear hW
  gi_loopw [14] (fun v wr => v = .int .i64 0 ∧ wr = W) (fun _ _ => 0)
  case atStart => exact ⟨rfl, rfl⟩
  case round =>
    obtain ⟨rfl, rfl⟩ := hrel
    gi_wp2
    refine bodyPostM_ret (results_cell1 Tryz.results44 _ _ (w.heap.size + 1) _ rfl (setCell_cell HR.out) (by kernel_rfl)) rfl ⟨rfl, HB.out.setCell (by simp) _⟩
end Go.Proofs.YtaadhehcoegmhaaGreatDoor
/- instrs over lets: every expression gets its code. -/
namespace Go.Proofs.YtaadhehcoegmhaaGreatDoor
open Go Go.RowKit Go.Shelf
attribute [local go_sem] Oper.semAt_some

theorem wpListIn_store_row {F : Fence} {n : Nat} {P : Program} {ops : Array Oper} {rest : List Oper} {o : Oper} {a : Act} {w : World} {Q : Exit → Act → World → Prop} (hgd : o.guard = none) (ty : TypeId) (x y : Operand) (ho : o.op = .store ty x y)
    (g : Nat) (cells : Array Value) (hx : a.eval x = .pointer (some ⟨g, 0, none⟩)) (hy : a.eval y = .agg cells)
    (t : TypeId) (old : Array Value) (hg : w.heap[g]? = some (.cells old t (0, 0))) (hi : (P.info? ty).map (·.size) = some cells.size)
    (hold : old.size = cells.size) (h1 : cells.all (·.oneCell') = true)
    (h : wpListIn F n P ops Q rest (a.put o.dst undef) (w.setRow g cells)) : wpListIn F n P ops Q (o :: rest) a w := by
  refine wpListIn_plain hgd fun K' hK' => ?_
  unfold Oper.wpIn
  refine ⟨by simp [Oper.about, ho], ?_⟩
  rw [Oper.semAt_plain F _ _ (by rw [ho]; intro c hc'; cases hc')]
  simp only [execOp, ho, hx, hy, Instr.storeAt, Instr.sureAddr, Sem.run_bind, Sem.run_pure, Result.andThen_ok, run_storeVar_row w g t ty old cells hg hi hold h1]
  exact hK' _ _ h

/-- A text that compiles, whatever was compiled before. -/
def Compiles (sel : List UInt8) : Prop :=
  ∀ (pp mb : Nat) (w : World), Env w → w.cell? ⟨pp, 6, none⟩ = some (.map (some mb)) → CodesAt mb w →
    Calls Tryz.prog 47 #[.pointer (some ⟨pp, 0, none⟩), .string (bs sel), .slice none 0 0] w fun e w' => ∃ c, e = .returned (.tuple #[.pointer (some ⟨c, 0, none⟩), .int .i64 0]) ∧ CodesAt mb w' ∧ w.grownBy w' (some mb)

theorem CodesAt.grown {mb : Nat} {w w' : World} {row : Option Nat} (h : CodesAt mb w) (hg : w.grownBy w' row) (hr : some mb ≠ row) : CodesAt mb w' := by
  obtain ⟨es, clock, hm, rest⟩ := h.out
  exact ⟨es, clock, (hg.block mb (Array.getElem?_eq_some_iff.1 hm).1 hr).trans hm, rest⟩
theorem CodesAt.lt {mb : Nat} {w : World} (h : CodesAt mb w) : mb < w.heap.size := by
  obtain ⟨es, clock, hm, rest⟩ := h.out
  exact (Array.getElem?_eq_some_iff.1 hm).1
/-- What lies in cells stays, if a map alone was turned. -/
theorem cell_mapped {mb : Nat} {w w' : World} {es : Array MapEntry} {clock : Nat} (hm : w.heap[mb]? = some (.map es clock)) (hg : w.grownBy w' (some mb)) {b j : Nat} {v : Value} (h : w.cell? ⟨b, j, none⟩ = some v) : w'.cell? ⟨b, j, none⟩ = some v :=
  (hg.cell_far ⟨b, j, none⟩ (at_lt h) (fun e => by
    obtain rfl := Option.some.inj e
    simp [World.cell?, hm] at h)).trans h
theorem Env.mapped {mb : Nat} {w w' : World} {es : Array MapEntry} {clock : Nat} (h : Env w) (hm : w.heap[mb]? = some (.map es clock)) (hg : w.grownBy w' (some mb)) : Env w' := by
  obtain ⟨m, h1⟩ := h.max
  exact ⟨⟨m, cell_mapped hm hg h1⟩, fun c hc => cell_mapped hm hg (h.tabs.1 c hc), fun i hi => ⟨cell_mapped hm hg (h.tabs.2 i hi).1, cell_mapped hm hg (h.tabs.2 i hi).2⟩⟩
theorem CodesAt.mapped {mb : Nat} {w : World} (h : CodesAt mb w) : ∃ es clock, w.heap[mb]? = some (.map es clock) := by
  obtain ⟨es, clock, hm, _⟩ := h.out
  exact ⟨es, clock, hm⟩

set_option maxRecDepth 100000 in
set_option maxHeartbeats 8000000 in
theorem instrs_lets (pp mb g cap : Nat) (ls : List Lt) (w : World) (hE : Env w) (hp : w.cell? ⟨pp, 6, none⟩ = some (.map (some mb))) (hm : CodesAt mb w) (hl : ls.length ≤ 1000)
    (hc : ∀ i t, ls[i]? = some t → ∀ j u, t.cells[j]? = some u → w.cell? ⟨g, i * 9 + j, none⟩ = some u)
    (hsel : ∀ t ∈ ls, t.sel.isEmpty = false) (hcomp : ∀ t ∈ ls, Compiles t.sel) :
    Calls Tryz.prog 44 #[.pointer (some ⟨pp, 0, none⟩), .slice (some ⟨g, 0, none⟩) ls.length cap] w fun e w' => e = .returned (.int .i64 0) ∧ CodesAt mb w' ∧ w.grownBy w' (some mb) := by
  obtain ⟨W0, hW0⟩ : ∃ W, W = (w.alloc (.cells #[.pointer (some ⟨pp, 0, none⟩)] 52)).alloc (.cells #[.int .i64 0] 32) := ⟨_, rfl⟩
  have hb0 : Below w.heap.size w W0 := by rw [hW0]; exact ((Below.refl _ _).alloc (Nat.le_refl _) _).alloc (by simp) _
  have hr0 : W0.heap[w.heap.size + 1]? = some (.cells #[.int .i64 0] 32 (0, 0)) := by rw [hW0]; exact new_at _ _ (by simp)
  have hx0 : W0.heap[w.heap.size]? = some (.cells #[.pointer (some ⟨pp, 0, none⟩)] 52 (0, 0)) := by rw [hW0]; exact alloc_old _ (heap_alloc_new w _) rfl
  have hs0 : W0.heap.size = w.heap.size + 2 := by rw [hW0]; simp
  have hpm : ∀ b (v : Value) j, w.cell? ⟨b, j, none⟩ = some v → b ≠ mb := fun b v j h e => by
    obtain ⟨es, clock, hmm, _⟩ := hm.out
    subst e
    simp [World.cell?, hmm] at h
  have hmlt := hm.lt
  have HX0 := Lib.hid hx0
  have HR0 := Lib.hid hr0
  have HB0 := Lib.hid hb0
  have HM := Lib.hid hm
  have HP := Lib.hid hp
  have HC := Lib.hid hc
  have HS := Lib.hid hsel
  have HCP := Lib.hid hcomp
  have HPM := Lib.hid hpm
  have HE := Lib.hid hE
  clear hx0 hr0 hb0 hm hp hc hsel hcomp hpm hE
  have HNW : ∀ m, Fence.wide.depth.isSome = true → 1 ≤ m := fun m h => by simp [Fence.wide] at h
  refine (callsIn_wide (n := 9)).1 ?_
  refine callsIn_of_wp_marks Tryz.func44 rfl trivial ?_ rfl
  simp only [Tryz.ntmps44, List.size_toArray, List.length_cons, List.length_nil, Nat.reduceAdd, Nat.reduceSub, Array.replicate_succ, Array.replicate_zero, List.push_toArray, List.append_toArray, List.nil_append, List.cons_append]
  gi_wp2
  rw [← hW0]
  clear hW0
  refine wpIn_loop (fun a' wr => ∃ (u6 u7 u8 u9 u10 u11 u15 u16 u17 u18 u19 u20 u21 u22 u23 u24 u25 u26 u27 u28 u29 u30 u31 u34 u35 u36 u37 u38 u39 u40 u41 u42 u43 u44 u45 u46 u47 u48 u49 u50 u51 u52 u53 u54 : Value) (i : Nat) (ds : List Nat), (i ≤ ls.length ∧ W0.grownBy wr (some mb) ∧ CodesAt mb wr ∧ ds.Nodup ∧ ∀ D ∈ ds, W0.heap.size ≤ D ∧ wr.heap[D]? = some (.deferred (some []))) ∧
    a' = { tmps := #[.pointer (some ⟨pp, 0, none⟩), .slice (some ⟨g, 0, none⟩) ls.length cap, .pointer (some ⟨w.heap.size, 0, none⟩), undef, .pointer (some ⟨w.heap.size + 1, 0, none⟩), undef, u6, u7, u8, u9, u10, u11, .slice (some ⟨g, 0, none⟩) ls.length cap, .int .i64 ls.length, .int .i64 i, u15, u16, u17, u18, u19, u20, u21, u22, u23, u24, u25, u26, u27, u28, u29, u30, u31, undef, undef, u34, u35, u36, u37, u38, u39, u40, u41, u42, u43, u44, u45, u46, u47, u48, u49, u50, u51, u52, u53, u54], defers := ds.map markOf }) (fun a' _ => ls.length - (intOf (a'.tmps.getD 14 undef)).toNat) ?start ?round
  case start => exact ⟨_, _, _, _, _, _, _, _, _, _, _, _, _, _, _, _, _, _, _, _, _, _, _, _, _, _, _, _, _, _, _, _, _, _, _, _, _, _, _, _, _, _, _, _, 0, [], ⟨by omega, ⟨rfl, rfl, rfl, Nat.le_refl _, fun _ _ _ => rfl⟩, HM.out.below HB0.out, by simp, by simp⟩, rfl⟩
  case round =>
    rintro _ wr ⟨u6, u7, u8, u9, u10, u11, u15, u16, u17, u18, u19, u20, u21, u22, u23, u24, u25, u26, u27, u28, u29, u30, u31, u34, u35, u36, u37, u38, u39, u40, u41, u42, u43, u44, u45, u46, u47, u48, u49, u50, u51, u52, u53, u54, i, ds, ⟨hi, hgr, hcm, hnd, hds⟩, rfl⟩
    have HG := Lib.hid hgr
    have HCM := Lib.hid hcm
    have HND := Lib.hid hnd
    have HDS := Lib.hid hds
    clear hcm hnd hds
    by_cases hlt : i < ls.length
    · obtain ⟨t, ht⟩ : ∃ t, ls[i]? = some t := ⟨ls[i], by simp [hlt]⟩
      have htm : t ∈ ls := List.mem_of_getElem? ht
      obtain ⟨es0, ck0, hm0⟩ := (HM.out.below HB0.out).mapped
      have hcr : ∀ j u, t.cells[j]? = some u → wr.cell? ⟨g, i * 9 + j, none⟩ = some u := fun j u hu =>
        cell_mapped hm0 hgr ((HB0.out.cell (at_lt (HC.out i t ht j u hu))).trans (HC.out i t ht j u hu))
      have c0 : wr.cell? ⟨g, i * 9 + 0, none⟩ = some (.int .i64 14) := hcr 0 _ rfl
      have c1 : wr.cell? ⟨g, i * 9 + 1, none⟩ = some (.string (bs t.name)) := hcr 1 _ rfl
      have c2 : wr.cell? ⟨g, i * 9 + 2, none⟩ = some (.string (bs t.sel)) := hcr 2 _ rfl
      have c3 : wr.cell? ⟨g, i * 9 + 3, none⟩ = some (.string ⟨#[]⟩) := hcr 3 _ rfl
      have c4 : wr.cell? ⟨g, i * 9 + 4, none⟩ = some (.string ⟨#[]⟩) := hcr 4 _ rfl
      have c5 : wr.cell? ⟨g, i * 9 + 5, none⟩ = some (.bool false) := hcr 5 _ rfl
      have c6 : wr.cell? ⟨g, i * 9 + 6, none⟩ = some (.slice none 0 0) := hcr 6 _ rfl
      have c7 : wr.cell? ⟨g, i * 9 + 7, none⟩ = some (.slice none 0 0) := hcr 7 _ rfl
      have c8 : wr.cell? ⟨g, i * 9 + 8, none⟩ = some (.slice none 0 0) := hcr 8 _ rfl
      rw [Nat.add_zero] at c0
      have hxr : wr.cell? ⟨w.heap.size, 0, none⟩ = some (.pointer (some ⟨pp, 0, none⟩)) := cell_mapped hm0 hgr (by rw [Lib.cell_of_heap HX0.out]; rfl)
      obtain ⟨hp1, hp2, hp3⟩ := put_new wr zero51 (let9 t) 51
      have HGA := Lib.hid (heap_alloc_new wr (.cells zero51 51))
      obtain ⟨W, hW⟩ : ∃ W, W = (wr.alloc (.cells zero51 51)).setRow wr.heap.size (let9 t) := ⟨_, rfl⟩
      rw [← hW] at hp1 hp2 hp3
      have d0 : W.cell? ⟨wr.heap.size, 0, none⟩ = some (.int .i64 14) := by rw [Lib.cell_of_heap hp2]; rfl
      have d1 : W.cell? ⟨wr.heap.size, 1, none⟩ = some (.string (bs t.name)) := by rw [Lib.cell_of_heap hp2]; rfl
      have d2 : W.cell? ⟨wr.heap.size, 2, none⟩ = some (.string (bs t.sel)) := by rw [Lib.cell_of_heap hp2]; rfl
      have d3 : W.cell? ⟨wr.heap.size, 3, none⟩ = some (.string ⟨#[]⟩) := by rw [Lib.cell_of_heap hp2]; rfl
      have d4 : W.cell? ⟨wr.heap.size, 4, none⟩ = some (.string ⟨#[]⟩) := by rw [Lib.cell_of_heap hp2]; rfl
      have d5 : W.cell? ⟨wr.heap.size, 5, none⟩ = some (.bool false) := by rw [Lib.cell_of_heap hp2]; rfl
      have d6 : W.cell? ⟨wr.heap.size, 6, none⟩ = some (.slice none 0 0) := by rw [Lib.cell_of_heap hp2]; rfl
      have d7 : W.cell? ⟨wr.heap.size, 7, none⟩ = some (.slice none 0 0) := by rw [Lib.cell_of_heap hp2]; rfl
      have d8 : W.cell? ⟨wr.heap.size, 8, none⟩ = some (.slice none 0 0) := by rw [Lib.cell_of_heap hp2]; rfl
      have HW := Lib.hid hW
      have HQ := Lib.hid hp2
      have HB1 := Lib.hid hp1
      have HP3 := Lib.hid hp3
      clear hp1 hp2 hp3 hW hcr hm0 hgr
      gi_wp2_with (refine wpListIn_store_row rfl 51 (.tmp 6) (.tmp 17) rfl wr.heap.size (let9 t) rfl rfl 51 _ HGA.out (by kernel_rfl) rfl (by simp [Value.oneCell']) ?_; rw [← HW.out])
      refine ⟨trivial, ?_⟩
      refine (callsIn_wide.2 (exprs_let t _)).mono ?_
      rintro e w' ⟨rfl, rfl⟩
      dsimp only
      obtain ⟨W2, hW2⟩ : ∃ W2, W2 = W.alloc (.cells (let9 t) 51) := ⟨_, rfl⟩
      rw [← hW2]
      have hb2 : Below W.heap.size W W2 := by rw [hW2]; exact (Below.refl _ _).alloc (Nat.le_refl _) _
      have hbr2 : Below wr.heap.size wr W2 := below_then HB1.out HB1.out.size hb2
      have HT := Lib.hid (show W2.heap[W.heap.size]? = some (.cells (let9 t) 51 (0, 0)) by rw [hW2]; exact heap_alloc_new W _)
      have hE2 : Env W2 := ((HE.out.below HB0.out).mapped (HM.out.below HB0.out).mapped.choose_spec.choose_spec HG.out).below hbr2
      have hP2 : W2.cell? ⟨pp, 6, none⟩ = some (.map (some mb)) := by
        have h0 := (HB0.out.cell (p := ⟨pp, 6, none⟩) (at_lt HP.out)).trans HP.out
        have h1 := cell_mapped (HM.out.below HB0.out).mapped.choose_spec.choose_spec HG.out h0
        exact (hbr2.cell (p := ⟨pp, 6, none⟩) (at_lt h1)).trans h1
      have hx2 : W2.cell? ⟨w.heap.size, 0, none⟩ = some (.pointer (some ⟨pp, 0, none⟩)) := (hbr2.cell (p := ⟨w.heap.size, 0, none⟩) (at_lt hxr)).trans hxr
      have e7 : W2.cell? ⟨wr.heap.size, 7, none⟩ = some (.slice none 0 0) := (hb2.cell (p := ⟨wr.heap.size, 7, none⟩) (at_lt d7)).trans d7
      have e8 : W2.cell? ⟨wr.heap.size, 8, none⟩ = some (.slice none 0 0) := (hb2.cell (p := ⟨wr.heap.size, 8, none⟩) (at_lt d8)).trans d8
      have hc2 : CodesAt mb W2 := HCM.out.below hbr2
      obtain ⟨es2, ck2, hm2⟩ := hc2.mapped
      have hlt2 := hc2.lt
      have HE2 := Lib.hid hE2
      have HP2 := Lib.hid hP2
      have HX2 := Lib.hid hx2
      have HE7 := Lib.hid e7
      have HE8 := Lib.hid e8
      have HC2 := Lib.hid hc2
      have HM2 := Lib.hid hm2
      have HBR2 := Lib.hid hbr2
      clear d0 d1 d2 d3 d4 d5 d6 d7 d8 c0 c1 c2 c3 c4 c5 c6 c7 c8 hxr hE2 hP2 hx2 e7 e8 hc2 hm2 hb2 hbr2 hW2
      gi_wp2
      refine range_goes (gf := 164) (lb := #[.pointer (some ⟨W.heap.size, 0, none⟩)]) rfl (enters_of Tryz.func164 (by kernel_rfl) rfl)
        (exprs_goes t (HS.out t htm) _ W.heap.size W2 HT.out) (Below.refl _ _) (fun _ => rfl) (fun (_ : List ByteArray) W' => CodesAt mb W' ∧ W2.grownBy W' (some mb))
        (fun s A B row hi hg hr => ⟨hi.1.grown hg (fun e => by have := (hr mb e.symm).1; omega), hi.2.andThen hg (fun j e => .inl (hr j e).1)⟩) ⟨HC2.out, ⟨rfl, rfl, rfl, Nat.le_refl _, fun _ _ _ => rfl⟩⟩
        (fun x => { tmps := #[.pointer (some ⟨pp, 0, none⟩), .slice (some ⟨g, 0, none⟩) ls.length cap, .pointer (some ⟨w.heap.size, 0, none⟩), undef, .pointer (some ⟨w.heap.size + 1, 0, none⟩), undef, .pointer (some ⟨wr.heap.size, 0, none⟩), u7, u8, .string x, .int .i64 0, u11, .slice (some ⟨g, 0, none⟩) ls.length cap, .int .i64 ls.length, .int .i64 i, .bool true, .pointer (some ⟨g, i * 9, none⟩), .agg (let9 t), .pointer (some ⟨wr.heap.size, 0, none⟩), .int .i64 14, .bool false, u21, u22, u23, u24, u25, u26, u27, u28, u29, .agg (let9 t), .func (.func 164) #[] #[.pointer (some ⟨W.heap.size, 0, none⟩)], .string x, .int .i64 0, u34, u35, u36, u37, u38, u39, u40, u41, u42, u43, u44, u45, u46, u47, u48, u49, u50, u51, u52, u53, u54], defers := [] }) ?assign ?body ?done
      case assign =>
        intro l x W3 K hx hK
        gi_wp2
        exact hK
      case body =>
        rintro l pre x post W3 hxs ⟨hc3, hg3⟩
        obtain ⟨rfl, rfl⟩ : pre = [] ∧ x = bs t.sel := by
          cases pre with
          | nil => simp at hxs; exact ⟨rfl, hxs.1.symm⟩
          | cons y pre => simp at hxs
        have hE3 := HE2.out.mapped HM2.out hg3
        have hP3 := cell_mapped HM2.out hg3 HP2.out
        have hX3 := cell_mapped HM2.out hg3 HX2.out
        have h83 := cell_mapped HM2.out hg3 HE8.out
        have hcall := Lib.hid (HCP.out t htm pp mb W3 hE3 hP3 hc3)
        obtain ⟨es3, ck3, hm3⟩ := hc3.mapped
        have HM3 := Lib.hid hm3
        clear hm3 hE3 hP3
        gi_wp2
        refine ⟨trivial, (CallsIn.inRound l (callsIn_wide.2 hcall.out)).mono ?_⟩
        rintro e W4 ⟨c, rfl, hc4, hg4⟩
        dsimp only
        gi_wp2
        exact ⟨KeepsHouse.grown hg4 (fun r e => by cases e; exact ⟨_, HM3.out, rfl⟩), hc4, hg3.trans hg4⟩
      case done =>
        rintro D W3 hD ⟨hc3, hg3⟩ hK
        have hX3 := cell_mapped HM2.out hg3 HX2.out
        have h73 := cell_mapped HM2.out hg3 HE7.out
        have HC3 := Lib.hid hc3
        have HG3 := Lib.hid hg3
        have HK := Lib.hid hK
        clear hc3 hg3 hK
        gi_wp2
        refine ⟨trivial, (callsIn_wide.2 (instrs_nil pp W3)).mono ?_⟩
        rintro e W4 ⟨rfl, hb4⟩
        dsimp only
        gi_wp2
        have hgW : W0.grownBy W4 (some mb) := ((HG.out.trans (grown_of_below HBR2.out _)).trans HG3.out).trans (grown_of_below hb4 _)
        have hs24 := HBR2.out.size
        have hs02 := HG.out.size
        refine ⟨⟨_, _, _, _, _, _, _, _, _, _, _, _, _, _, _, _, _, _, _, _, _, _, _, _, _, _, _, _, _, _, _, _, _, _, _, _, _, _, _, _, _, _, _, _, i + 1, D :: ds, ⟨by omega, hgW, HC3.out.below hb4, ?_, ?_⟩, rfl⟩, ?_⟩
        · refine List.nodup_cons.2 ⟨fun hin => ?_, HND.out⟩
          have := (Array.getElem?_eq_some_iff.1 (HDS.out D hin).2).1
          omega
        · intro E hE'
          rcases List.mem_cons.1 hE' with rfl | hin
          · exact ⟨by omega, (hb4.block _ (Array.getElem?_eq_some_iff.1 HK.out).1).trans HK.out⟩
          · obtain ⟨h1, h2⟩ := HDS.out E hin
            have hE2 := (HBR2.out.block E (Array.getElem?_eq_some_iff.1 h2).1).trans h2
            have hE3 := (HG3.out.block E (Array.getElem?_eq_some_iff.1 hE2).1 (fun e => by
              obtain rfl := Option.some.inj e
              rw [HM2.out] at hE2
              cases hE2)).trans hE2
            exact ⟨h1, (hb4.block E (Array.getElem?_eq_some_iff.1 hE3).1).trans hE3⟩
        · simp [intOf]
          omega
    · obtain rfl : i = ls.length := by omega
      obtain ⟨es0, ck0, hm0⟩ := (HM.out.below HB0.out).mapped
      have hr := (hgr.block _ (Array.getElem?_eq_some_iff.1 HR0.out).1 (fun e => by
        obtain rfl := Option.some.inj e
        rw [HR0.out] at hm0
        cases hm0)).trans HR0.out
      have r0 : wr.cell? ⟨w.heap.size + 1, 0, none⟩ = some (.int .i64 0) := by rw [Lib.cell_of_heap hr]; rfl
      have f0 : wr.frozen? ⟨w.heap.size + 1, 0, none⟩ = false := by simp [World.frozen?, hr]
      have HR := Lib.hid hr
      have hst := Lib.hid (setCell_still hr (i := 0) (v := .int .i64 0) rfl)
      clear hr hm0 hgr
      gi_wp2
      refine leaves_marks ds _ W0.heap.size HND.out (fun D hD => ⟨(HDS.out D hD).1, by rw [hst.out]; exact (HDS.out D hD).2⟩) (by have := HG.out.size; simpa [World.setCell] using this) (fun w' hb hk => ?_)
      have hcell := hk _ _ (by rw [hst.out]; exact HR.out) rfl
      refine ⟨_, results_cell1 Tryz.results44 _ _ (w.heap.size + 1) (.int .i64 0) rfl (by rw [Lib.cell_of_heap hcell]; rfl) (by kernel_rfl), rfl, ?_, ?_⟩
      · obtain ⟨es, clock, hm, rest⟩ := HCM.out.out
        exact ⟨es, clock, hk _ _ (by rw [hst.out]; exact hm) rfl, rest⟩
      · refine ⟨?_, ?_, ?_, ?_, ?_⟩
        · exact (show w'.os = wr.os from hb.os).trans (HG.out.os.trans HB0.out.os)
        · exact (show w'.tape = wr.tape from hb.tape).trans (HG.out.tape.trans HB0.out.tape)
        · exact (show w'.output = wr.output from hb.output).trans (HG.out.output.trans HB0.out.output)
        · have h1 := HB0.out.size
          have h2 := HG.out.size
          have h3 := hb.size
          simp [World.setCell] at h3
          omega
        · intro k hk' hne
          rw [hb.block k (by omega), hst.out, HG.out.block k (by omega) hne, HB0.out.block k hk']
end Go.Proofs.YtaadhehcoegmhaaGreatDoor
/- names: the variables that a let's expression names. -/
namespace Go.Proofs.YtaadhehcoegmhaaGreatDoor
open Go Go.RowKit Go.Shelf
attribute [local go_sem] Oper.semAt_some

/-- A set of names, as the map's entries hold it. -/
def SetRows (es : List MapEntry) (ns : List (List UInt8)) : Prop := KeyRows (fun v (_ : Unit) => v = .bool true) es (ns.map fun n => (bs n, ()))
theorem bs_beq (a b : List UInt8) : (bs a == bs b) = (a == b) := by
  have e : ∀ x y : ByteArray, (x == y) = (x.data == y.data) := fun _ _ => rfl
  rw [e]
  simp
theorem rowAt_none : ∀ (n : List UInt8) (ns : List (List UInt8)), n ∉ ns → rowAt (bs n) (ns.map fun n => (bs n, ())) = none
  | _, [], _ => rfl
  | n, m :: ns, h => by
    simp only [List.mem_cons, not_or] at h
    simp only [List.map_cons, rowAt, bs_beq]
    rw [show (n == m) = false from beq_eq_false_iff_ne.2 h.1]
    simpa using rowAt_none n ns h.2
theorem rowAt_some : ∀ (n : List UInt8) (ns : List (List UInt8)), n ∈ ns → rowAt (bs n) (ns.map fun n => (bs n, ())) = some ()
  | n, m :: ns, h => by
    simp only [List.map_cons, rowAt, bs_beq]
    by_cases hq : n = m
    · simp [hq]
    · rw [show (n == m) = false from beq_eq_false_iff_ne.2 hq]
      simpa using rowAt_some n ns (by simpa [hq] using h)

/-- A slice of texts, nil where there is none. -/
def NamesIn (w : World) (v : Value) (ns : List (List UInt8)) : Prop :=
  (v = .slice none 0 0 ∧ ns = []) ∨ ∃ g off cap, v = .slice (some ⟨g, off, none⟩) ns.length cap ∧ ∀ i s, ns[i]? = some s → w.cell? ⟨g, off + i, none⟩ = some (.string (bs s))

/-- What a text names: it parses; its names come in a slice. -/
def NamesAre (sel : List UInt8) (ns : List (List UInt8)) : Prop :=
  ns.Nodup ∧ ns.length ≤ 1000 ∧ ∀ w, Env w → Calls Tryz.prog 104 #[.string (bs sel)] w fun e w1 => ∃ a0 a1 a2 a3 a4 a5 a6, e = .returned (.tuple #[.agg #[a0, a1, a2, a3, a4, a5, a6], .int .i64 0]) ∧ (#[a0, a1, a2, a3, a4, a5, a6] : Array Value).all (·.oneCell') = true ∧ Below w.heap.size w w1 ∧
    ∀ w2, Env w2 → Below w1.heap.size w1 w2 → Calls Tryz.prog 167 #[.agg #[a0, a1, a2, a3, a4, a5, a6]] w2 fun e w3 => ∃ v, e = .returned v ∧ NamesIn w3 v ns ∧ Below w2.heap.size w2 w3

set_option maxRecDepth 100000 in
set_option maxHeartbeats 1000000 in
theorem names_nil (m : Nat) (w : World) : Calls Tryz.prog 109 #[.slice none 0 0, .map (some m)] w fun e w' => e = .returned (.tuple #[]) ∧ Below w.heap.size w w' := by
  obtain ⟨W, hW⟩ : ∃ W, W = w.alloc (.cells #[.map (some m)] 168) := ⟨_, rfl⟩
  have hb : Below w.heap.size w W := by rw [hW]; exact (Below.refl _ _).alloc (Nat.le_refl _) _
  refine (callsIn_wide (n := 3)).1 ?_
  refine callsIn_of_wp_marks Tryz.func109 rfl trivial ?_ rfl
  simp only [Tryz.ntmps109, List.size_toArray, List.length_cons, List.length_nil, Nat.reduceAdd, Nat.reduceSub, Array.replicate_succ, Array.replicate_zero, List.push_toArray, List.append_toArray, List.nil_append, List.cons_append]
  have HB := Lib.hid hb
  clear hb
  gi_wp2
  rw [← hW]
  clear hW
  gi_loopw [13] (fun v wr => v = .int .i64 0 ∧ wr = W) (fun _ _ => 0)
  case atStart => exact ⟨rfl, rfl⟩
  case round =>
    obtain ⟨rfl, rfl⟩ := hrel
    gi_wp2
    exact bodyPostM_ret (results_none rfl _ _ _) rfl ⟨rfl, HB.out⟩
end Go.Proofs.YtaadhehcoegmhaaGreatDoor
/- names of one let. -/
namespace Go.Proofs.YtaadhehcoegmhaaGreatDoor
open Go Go.RowKit Go.Shelf
attribute [local go_sem] Oper.semAt_some

def SetAt (m : Nat) (ns : List (List UInt8)) (w : World) : Prop := ∃ es clock, w.heap[m]? = some (.map es clock) ∧ SetRows es.toList ns
theorem SetAt.grown {m : Nat} {ns : List (List UInt8)} {w w' : World} {row : Option Nat} (h : SetAt m ns w) (hg : w.grownBy w' row) (hr : some m ≠ row) : SetAt m ns w' := by
  obtain ⟨es, clock, hm, rest⟩ := h
  exact ⟨es, clock, (hg.block m (Array.getElem?_eq_some_iff.1 hm).1 hr).trans hm, rest⟩
theorem SetAt.below {m : Nat} {ns : List (List UInt8)} {w w' : World} (h : SetAt m ns w) (hb : Below w.heap.size w w') : SetAt m ns w' := h.grown (grown_of_below hb none) (by simp)
theorem SetAt.lt {m : Nat} {ns : List (List UInt8)} {w : World} (h : SetAt m ns w) : m < w.heap.size := by
  obtain ⟨es, clock, hm, _⟩ := h
  exact (Array.getElem?_eq_some_iff.1 hm).1

set_option maxRecDepth 100000 in
set_option maxHeartbeats 8000000 in
theorem names_one (m g cap : Nat) (t : Lt) (ns : List (List UInt8)) (w : World) (hE : Env w) (hm : SetAt m [] w)
    (hc : ∀ j u, t.cells[j]? = some u → w.cell? ⟨g, j, none⟩ = some u) (hsel : t.sel.isEmpty = false) (hns : NamesAre t.sel ns) :
    Calls Tryz.prog 109 #[.slice (some ⟨g, 0, none⟩) 1 cap, .map (some m)] w fun e w' => e = .returned (.tuple #[]) ∧ SetAt m ns w' ∧ w.grownBy w' (some m) := by
  obtain ⟨W0, hW0⟩ : ∃ W, W = w.alloc (.cells #[.map (some m)] 168) := ⟨_, rfl⟩
  have hb0 : Below w.heap.size w W0 := by rw [hW0]; exact (Below.refl _ _).alloc (Nat.le_refl _) _
  have hx0 : W0.heap[w.heap.size]? = some (.cells #[.map (some m)] 168 (0, 0)) := by rw [hW0]; exact heap_alloc_new w _
  have hs0 : W0.heap.size = w.heap.size + 1 := by rw [hW0]; simp
  have hmlt := hm.lt
  have HX0 := Lib.hid hx0
  have HB0 := Lib.hid hb0
  have HM := Lib.hid hm
  have HC := Lib.hid hc
  have HS := Lib.hid hsel
  have HN := Lib.hid hns
  have HE := Lib.hid hE
  clear hx0 hb0 hm hc hsel hns hE
  refine (callsIn_wide (n := 9)).1 ?_
  refine callsIn_of_wp_marks Tryz.func109 rfl trivial ?_ rfl
  simp only [Tryz.ntmps109, List.size_toArray, List.length_cons, List.length_nil, Nat.reduceAdd, Nat.reduceSub, Array.replicate_succ, Array.replicate_zero, List.push_toArray, List.append_toArray, List.nil_append, List.cons_append]
  gi_wp2
  rw [← hW0]
  clear hW0
  refine wpIn_loop (fun a' wr => ∃ (u5 u6 u7 u8 u10 u14 u15 u16 u17 u18 u21 u22 u23 u24 u25 u26 u27 u28 u29 u30 u31 u32 u33 u34 u35 u36 u37 u38 u39 u40 u41 u42 : Value) (i : Nat) (ds : List Nat), (i ≤ 1 ∧ W0.grownBy wr (some m) ∧ SetAt m (if i = 0 then [] else ns) wr ∧ ds.Nodup ∧ ∀ D ∈ ds, W0.heap.size ≤ D ∧ wr.heap[D]? = some (.deferred (some []))) ∧
    a' = { tmps := #[.slice (some ⟨g, 0, none⟩) 1 cap, .map (some m), undef, .pointer (some ⟨w.heap.size, 0, none⟩), undef, u5, u6, u7, u8, undef, u10, .slice (some ⟨g, 0, none⟩) 1 cap, .int .i64 1, .int .i64 i, u14, u15, u16, u17, u18, undef, undef, u21, u22, u23, u24, u25, u26, u27, u28, u29, u30, u31, u32, u33, u34, u35, u36, u37, u38, u39, u40, u41, u42], defers := ds.map markOf }) (fun a' _ => 1 - (intOf (a'.tmps.getD 13 undef)).toNat) ?start ?round
  case start => exact ⟨_, _, _, _, _, _, _, _, _, _, _, _, _, _, _, _, _, _, _, _, _, _, _, _, _, _, _, _, _, _, _, _, 0, [], ⟨by omega, ⟨rfl, rfl, rfl, Nat.le_refl _, fun _ _ _ => rfl⟩, HM.out.below HB0.out, by simp, by simp⟩, rfl⟩
  case round =>
    rintro _ wr ⟨u5, u6, u7, u8, u10, u14, u15, u16, u17, u18, u21, u22, u23, u24, u25, u26, u27, u28, u29, u30, u31, u32, u33, u34, u35, u36, u37, u38, u39, u40, u41, u42, i, ds, ⟨hi, hgr, hst, hnd, hds⟩, rfl⟩
    have HG := Lib.hid hgr
    have HND := Lib.hid hnd
    have HDS := Lib.hid hds
    clear hnd hds
    by_cases hlt : i = 0
    · subst hlt
      rw [if_pos rfl] at hst
      have HST := Lib.hid hst
      obtain ⟨es0, ck0, hm0, -⟩ := HM.out.below HB0.out
      have hcr : ∀ j u, t.cells[j]? = some u → wr.cell? ⟨g, j, none⟩ = some u := fun j u hu =>
        cell_mapped hm0 hgr ((HB0.out.cell (at_lt (HC.out j u hu))).trans (HC.out j u hu))
      have c0 : wr.cell? ⟨g, 0, none⟩ = some (.int .i64 14) := hcr 0 _ rfl
      have c1 : wr.cell? ⟨g, 1, none⟩ = some (.string (bs t.name)) := hcr 1 _ rfl
      have c2 : wr.cell? ⟨g, 2, none⟩ = some (.string (bs t.sel)) := hcr 2 _ rfl
      have c3 : wr.cell? ⟨g, 3, none⟩ = some (.string ⟨#[]⟩) := hcr 3 _ rfl
      have c4 : wr.cell? ⟨g, 4, none⟩ = some (.string ⟨#[]⟩) := hcr 4 _ rfl
      have c5 : wr.cell? ⟨g, 5, none⟩ = some (.bool false) := hcr 5 _ rfl
      have c6 : wr.cell? ⟨g, 6, none⟩ = some (.slice none 0 0) := hcr 6 _ rfl
      have c7 : wr.cell? ⟨g, 7, none⟩ = some (.slice none 0 0) := hcr 7 _ rfl
      have c8 : wr.cell? ⟨g, 8, none⟩ = some (.slice none 0 0) := hcr 8 _ rfl
      have hxr : wr.cell? ⟨w.heap.size, 0, none⟩ = some (.map (some m)) := cell_mapped hm0 hgr (by rw [Lib.cell_of_heap HX0.out]; rfl)
      have hEr : Env wr := (HE.out.below HB0.out).mapped hm0 hgr
      obtain ⟨hp1, hp2, hp3⟩ := put_new wr zero51 (let9 t) 51
      have HGA := Lib.hid (heap_alloc_new wr (.cells zero51 51))
      obtain ⟨W, hW⟩ : ∃ W, W = (wr.alloc (.cells zero51 51)).setRow wr.heap.size (let9 t) := ⟨_, rfl⟩
      rw [← hW] at hp1 hp2 hp3
      have d0 : W.cell? ⟨wr.heap.size, 0, none⟩ = some (.int .i64 14) := by rw [Lib.cell_of_heap hp2]; rfl
      have d1 : W.cell? ⟨wr.heap.size, 1, none⟩ = some (.string (bs t.name)) := by rw [Lib.cell_of_heap hp2]; rfl
      have d2 : W.cell? ⟨wr.heap.size, 2, none⟩ = some (.string (bs t.sel)) := by rw [Lib.cell_of_heap hp2]; rfl
      have d3 : W.cell? ⟨wr.heap.size, 3, none⟩ = some (.string ⟨#[]⟩) := by rw [Lib.cell_of_heap hp2]; rfl
      have d4 : W.cell? ⟨wr.heap.size, 4, none⟩ = some (.string ⟨#[]⟩) := by rw [Lib.cell_of_heap hp2]; rfl
      have d5 : W.cell? ⟨wr.heap.size, 5, none⟩ = some (.bool false) := by rw [Lib.cell_of_heap hp2]; rfl
      have d6 : W.cell? ⟨wr.heap.size, 6, none⟩ = some (.slice none 0 0) := by rw [Lib.cell_of_heap hp2]; rfl
      have d7 : W.cell? ⟨wr.heap.size, 7, none⟩ = some (.slice none 0 0) := by rw [Lib.cell_of_heap hp2]; rfl
      have d8 : W.cell? ⟨wr.heap.size, 8, none⟩ = some (.slice none 0 0) := by rw [Lib.cell_of_heap hp2]; rfl
      have HW := Lib.hid hW
      have HB1 := Lib.hid hp1
      have HEr := Lib.hid hEr
      clear hp1 hp2 hp3 hW hcr hm0 hgr hst hEr
      gi_wp2_with (refine wpListIn_store_row rfl 51 (.tmp 5) (.tmp 16) rfl wr.heap.size (let9 t) rfl rfl 51 _ HGA.out (by kernel_rfl) rfl (by simp [Value.oneCell']) ?_; rw [← HW.out])
      refine ⟨trivial, ?_⟩
      refine (callsIn_wide.2 (exprs_let t _)).mono ?_
      rintro e w' ⟨rfl, rfl⟩
      dsimp only
      obtain ⟨W2, hW2⟩ : ∃ W2, W2 = W.alloc (.cells (let9 t) 51) := ⟨_, rfl⟩
      rw [← hW2]
      have hb2 : Below W.heap.size W W2 := by rw [hW2]; exact (Below.refl _ _).alloc (Nat.le_refl _) _
      have hbr2 : Below wr.heap.size wr W2 := below_then HB1.out HB1.out.size hb2
      have HT := Lib.hid (show W2.heap[W.heap.size]? = some (.cells (let9 t) 51 (0, 0)) by rw [hW2]; exact heap_alloc_new W _)
      have hE2 : Env W2 := HEr.out.below hbr2
      have hx2 : W2.cell? ⟨w.heap.size, 0, none⟩ = some (.map (some m)) := (hbr2.cell (p := ⟨w.heap.size, 0, none⟩) (at_lt hxr)).trans hxr
      have e7 : W2.cell? ⟨wr.heap.size, 7, none⟩ = some (.slice none 0 0) := (hb2.cell (p := ⟨wr.heap.size, 7, none⟩) (at_lt d7)).trans d7
      have hc2 : SetAt m [] W2 := HST.out.below hbr2
      have hlt2 := hc2.lt
      obtain ⟨es2, ck2, hm2, -⟩ := hc2
      have HE2 := Lib.hid hE2
      have HX2 := Lib.hid hx2
      have HE7 := Lib.hid e7
      have HC2 := Lib.hid (HST.out.below hbr2)
      have HM2 := Lib.hid hm2
      have HBR2 := Lib.hid hbr2
      clear d0 d1 d2 d3 d4 d5 d6 d7 d8 c0 c1 c2 c3 c4 c5 c6 c7 c8 hxr hE2 hx2 e7 hm2 hb2 hbr2 hW2
      gi_wp2
      refine range_goes (gf := 164) (lb := #[.pointer (some ⟨W.heap.size, 0, none⟩)]) rfl (enters_of Tryz.func164 (by kernel_rfl) rfl)
        (exprs_goes t HS.out _ W.heap.size W2 HT.out) (Below.refl _ _) (fun _ => rfl) (fun (pre : List ByteArray) W' => SetAt m (if pre = [] then [] else ns) W' ∧ W2.grownBy W' (some m))
        (fun s A B row hi hg hr => ⟨hi.1.grown hg (fun e => by have := (hr m e.symm).1; omega), hi.2.andThen hg (fun j e => .inl (hr j e).1)⟩) ⟨HC2.out, ⟨rfl, rfl, rfl, Nat.le_refl _, fun _ _ _ => rfl⟩⟩
        (fun x => { tmps := #[.slice (some ⟨g, 0, none⟩) 1 cap, .map (some m), undef, .pointer (some ⟨w.heap.size, 0, none⟩), undef, .pointer (some ⟨wr.heap.size, 0, none⟩), .string x, u7, u8, undef, u10, .slice (some ⟨g, 0, none⟩) 1 cap, .int .i64 1, .int .i64 0, .bool true, .pointer (some ⟨g, 0, none⟩), .agg (let9 t), .agg (let9 t), .func (.func 164) #[] #[.pointer (some ⟨W.heap.size, 0, none⟩)], .string x, .int .i64 0, u21, u22, u23, u24, u25, u26, u27, u28, u29, u30, u31, u32, u33, u34, u35, u36, u37, u38, u39, u40, u41, u42], defers := [] }) ?assign ?body ?done
      case assign =>
        intro l x W3 K hx hK
        gi_wp2
        exact hK
      case body =>
        rintro l pre x post W3 hxs ⟨hc3, hg3⟩
        obtain ⟨rfl, rfl⟩ : pre = [] ∧ x = bs t.sel := by
          cases pre with
          | nil => simp at hxs; exact ⟨rfl, hxs.1.symm⟩
          | cons y pre => simp at hxs
        have hE3 := HE2.out.mapped HM2.out hg3
        have hX3 := cell_mapped HM2.out hg3 HX2.out
        have HE3 := Lib.hid hE3
        have HC3 := Lib.hid hc3
        have HG3 := Lib.hid hg3
        clear hE3 hc3 hg3
        gi_wp2
        refine ⟨trivial, (CallsIn.inRound l (callsIn_wide.2 (HN.out.2.2 W3 HE3.out))).mono ?_⟩
        rintro e W4 ⟨a0, a1, a2, a3, a4, a5, a6, rfl, h1c, hb4, hnm⟩
        dsimp only
        obtain ⟨hp1, hp2, hp3⟩ := put_new W4 (leaf7 0 [] 0 0) #[a0, a1, a2, a3, a4, a5, a6] 155
        have HG5 := Lib.hid (heap_alloc_new W4 (.cells (leaf7 0 [] 0 0) 155))
        obtain ⟨W5, hW5⟩ : ∃ W5, W5 = (W4.alloc (.cells (leaf7 0 [] 0 0) 155)).setRow W4.heap.size #[a0, a1, a2, a3, a4, a5, a6] := ⟨_, rfl⟩
        rw [← hW5] at hp1 hp2 hp3
        have HW5 := Lib.hid hW5
        have r0 : W5.cell? ⟨W4.heap.size, 0, none⟩ = some a0 := by rw [Lib.cell_of_heap hp2]; rfl
        have r1 : W5.cell? ⟨W4.heap.size, 1, none⟩ = some a1 := by rw [Lib.cell_of_heap hp2]; rfl
        have r2 : W5.cell? ⟨W4.heap.size, 2, none⟩ = some a2 := by rw [Lib.cell_of_heap hp2]; rfl
        have r3 : W5.cell? ⟨W4.heap.size, 3, none⟩ = some a3 := by rw [Lib.cell_of_heap hp2]; rfl
        have r4 : W5.cell? ⟨W4.heap.size, 4, none⟩ = some a4 := by rw [Lib.cell_of_heap hp2]; rfl
        have r5 : W5.cell? ⟨W4.heap.size, 5, none⟩ = some a5 := by rw [Lib.cell_of_heap hp2]; rfl
        have r6 : W5.cell? ⟨W4.heap.size, 6, none⟩ = some a6 := by rw [Lib.cell_of_heap hp2]; rfl
        have hb35 := below_then hb4 hb4.size hp1
        have HB35 := Lib.hid hb35
        have HNM := Lib.hid (hnm W5 (HE3.out.below hb35) hp1)
        have HC1 := Lib.hid h1c
        have hX5 := (hb35.cell (p := ⟨w.heap.size, 0, none⟩) (at_lt hX3)).trans hX3
        have HC5 := Lib.hid (HC3.out.below hb35)
        clear hp1 hp2 hp3 hW5 hb35 hnm h1c hb4 hX3
        gi_wp2_with (refine wpListIn_store_row rfl 155 (.tmp 7) (.tmp 24) rfl W4.heap.size #[a0, a1, a2, a3, a4, a5, a6] rfl rfl 155 _ HG5.out (by kernel_rfl) rfl HC1.out ?_; rw [← HW5.out])
        refine ⟨trivial, (CallsIn.inRound l (callsIn_wide.2 HNM.out)).mono ?_⟩
        rintro e W6 ⟨v, rfl, htx, hb6⟩
        dsimp only
        obtain ⟨pv, capv, rfl, htx2⟩ : ∃ pv capv, v = .slice pv ns.length capv ∧ ∀ i s, ns[i]? = some s → ∃ g off, pv = some ⟨g, off, none⟩ ∧ W6.cell? ⟨g, off + i, none⟩ = some (.string (bs s)) := by
          rcases htx with ⟨rfl, rfl⟩ | ⟨g, off, capv, rfl, h⟩
          · exact ⟨none, 0, rfl, fun i s h => by simp at h⟩
          · exact ⟨_, capv, rfl, fun i s h' => ⟨g, off, rfl, h i s h'⟩⟩
        have hX6 := (hb6.cell (p := ⟨w.heap.size, 0, none⟩) (at_lt hX5)).trans hX5
        have HC6 := Lib.hid (HC5.out.below hb6)
        obtain ⟨es6, ck6, hm6, hr6⟩ := HC5.out.below hb6
        have HM6 := Lib.hid hm6
        have HTX := Lib.hid htx2
        have HX6 := Lib.hid hX6
        have HB36 := Lib.hid (below_then HB35.out HB35.out.size hb6)
        have hlen := HN.out.2.1
        clear r0 r1 r2 r3 r4 r5 r6 hX5 hX6 hm6 hr6 htx htx2 hb6
        gi_wp2
        gi_loopw [31] (fun v wr' => ∃ k : Nat, v = .int .i64 k ∧ k ≤ ns.length ∧ W6.grownBy wr' (some m) ∧ SetAt m (ns.take k) wr') (fun v _ => ns.length - (intOf v).toNat)
        case atStart => exact ⟨0, rfl, by omega, ⟨rfl, rfl, rfl, Nat.le_refl _, fun _ _ _ => rfl⟩, HC6.out⟩
        case round =>
          obtain ⟨k, rfl, hk, hgk, hsk⟩ := hrel
          rename World => wk
          by_cases hlt : k < ns.length
          · obtain ⟨s, hs⟩ : ∃ s, ns[k]? = some s := ⟨ns[k], by simp [hlt]⟩
            obtain ⟨gv, off, rfl, hcell⟩ := HTX.out k s hs
            have hck := cell_mapped HM6.out hgk hcell
            have hxk := cell_mapped HM6.out hgk HX6.out
            obtain ⟨es, clock, hmk, hrk⟩ := hsk
            have hnot : s ∉ ns.take k := by
              intro hin
              obtain ⟨j, hj⟩ := List.getElem?_of_mem hin
              have hjk : j < k := by
                have := (List.getElem?_eq_some_iff.1 hj).1
                simp at this; omega
              rw [List.getElem?_take_of_lt hjk] at hj
              obtain ⟨hjl, hj2⟩ := List.getElem?_eq_some_iff.1 hj
              obtain ⟨_, hs2⟩ := List.getElem?_eq_some_iff.1 hs
              exact (List.pairwise_iff_getElem.1 HN.out.1) j k hjl hlt hjk (hj2.trans hs2.symm)
            have hmu := run_insert_new (P := Tryz.prog) Tryz.underlying168 Tryz.underlying9 hmk hrk (bs s) (rowAt_none s _ hnot) (.bool true)
            obtain ⟨W7, hW7⟩ : ∃ W7, W7 = { wk with heap := wk.heap.setIfInBounds m (.map (es.push ⟨.string (bs s), .bool true, clock⟩) (clock + 1)) } := ⟨_, rfl⟩
            rw [← hW7] at hmu
            have hg7 : wk.grownBy W7 (some m) := by rw [hW7]; exact grownBy_setIn _
            have hs7 : SetAt m (ns.take (k + 1)) W7 := by
              refine ⟨es.push ⟨.string (bs s), .bool true, clock⟩, clock + 1, by rw [hW7]; simp [(Array.getElem?_eq_some_iff.1 hmk).1], ?_⟩
              have htk : ns.take (k + 1) = ns.take k ++ [s] := by rw [List.take_add_one, hs]; rfl
              rw [htk]
              unfold SetRows at hrk ⊢
              rw [Array.toList_push, List.map_append]
              exact KeyRows.snoc (R := fun v (_ : Unit) => v = .bool true) (x := ()) rfl hrk
            have HGK := Lib.hid (hgk.trans hg7)
            have HS7 := Lib.hid hs7
            clear hW7 hg7 hs7 hmk hrk hgk hnot
            gi_wp2
            go_roundw
            case rel => exact ⟨k + 1, by go_num, by omega, HGK.out, HS7.out⟩
            case measure => simp [intOf]; omega
          · obtain rfl : k = ns.length := by omega
            have HGK := Lib.hid hgk
            have HSK := Lib.hid hsk
            clear hgk hsk
            gi_wp2
            refine ⟨(KeepsHouse.below HB36.out).trans (KeepsHouse.grown HGK.out (fun r e => by cases e; exact ⟨_, HM6.out, rfl⟩)), ?_, (HG3.out.trans (grown_of_below HB36.out _)).trans HGK.out⟩
            have := HSK.out
            rw [List.take_length] at this
            simpa using this
      case done =>
        rintro D W3 hD ⟨hc3, hg3⟩ hK
        rw [if_neg (by simp)] at hc3
        have hX3 := cell_mapped HM2.out hg3 HX2.out
        have h73 := cell_mapped HM2.out hg3 HE7.out
        have HC3 := Lib.hid hc3
        have HG3 := Lib.hid hg3
        have HK := Lib.hid hK
        clear hc3 hg3 hK
        gi_wp2
        refine ⟨trivial, (callsIn_wide.2 (names_nil m W3)).mono ?_⟩
        rintro e W4 ⟨rfl, hb4⟩
        dsimp only
        gi_wp2
        have hgW : W0.grownBy W4 (some m) := ((HG.out.trans (grown_of_below HBR2.out _)).trans HG3.out).trans (grown_of_below hb4 _)
        have hs24 := HBR2.out.size
        have hs02 := HG.out.size
        refine ⟨⟨_, _, _, _, _, _, _, _, _, _, _, _, _, _, _, _, _, _, _, _, _, _, _, _, _, _, _, _, _, _, _, _, 1, D :: ds, ⟨by omega, hgW, HC3.out.below hb4, ?_, ?_⟩, rfl⟩, ?_⟩
        · refine List.nodup_cons.2 ⟨fun hin => ?_, HND.out⟩
          have := (Array.getElem?_eq_some_iff.1 (HDS.out D hin).2).1
          omega
        · intro E hE'
          rcases List.mem_cons.1 hE' with rfl | hin
          · exact ⟨by omega, (hb4.block _ (Array.getElem?_eq_some_iff.1 HK.out).1).trans HK.out⟩
          · obtain ⟨h1, h2⟩ := HDS.out E hin
            have hE2 := (HBR2.out.block E (Array.getElem?_eq_some_iff.1 h2).1).trans h2
            have hE3 := (HG3.out.block E (Array.getElem?_eq_some_iff.1 hE2).1 (fun e => by
              obtain rfl := Option.some.inj e
              rw [HM2.out] at hE2
              cases hE2)).trans hE2
            exact ⟨h1, (hb4.block E (Array.getElem?_eq_some_iff.1 hE3).1).trans hE3⟩
        · simp [intOf]
    · obtain rfl : i = 1 := by omega
      rw [if_neg (by simp)] at hst
      have HST := Lib.hid hst
      clear hst hgr
      gi_wp2
      refine leaves_marks ds _ W0.heap.size HND.out (fun D hD => HDS.out D hD) HG.out.size (fun w' hb hk => ?_)
      refine ⟨_, results_none rfl _ _ _, rfl, ?_, ?_⟩
      · obtain ⟨es, clock, hm, rest⟩ := HST.out
        exact ⟨es, clock, hk _ _ hm rfl, rest⟩
      · refine ⟨?_, ?_, ?_, ?_, ?_⟩
        · exact hb.os.trans (HG.out.os.trans HB0.out.os)
        · exact hb.tape.trans (HG.out.tape.trans HB0.out.tape)
        · exact hb.output.trans (HG.out.output.trans HB0.out.output)
        · have h1 := HB0.out.size
          have h2 := HG.out.size
          have h3 := hb.size
          omega
        · intro k hk' hne
          rw [hb.block k (by omega), HG.out.block k (by omega) hne, HB0.out.block k hk']
end Go.Proofs.YtaadhehcoegmhaaGreatDoor
/- The plain law of an order: each behind what it needs. -/
namespace Go.Proofs.YtaadhehcoegmhaaGreatDoor

/-- An order of some places below n: none twice, each behind what it needs. -/
structure OrdOk (dep : Nat → Nat → Bool) (n : Nat) (out : List Nat) : Prop where
  nodup : out.Nodup
  lt : ∀ i ∈ out, i < n
  behind : ∀ j i, out[j]? = some i → ∀ k, k < n → dep i k = true → k ∈ out.take j
theorem OrdOk.nil (dep : Nat → Nat → Bool) (n : Nat) : OrdOk dep n [] := ⟨by simp, by simp, by simp⟩
theorem OrdOk.snoc {dep : Nat → Nat → Bool} {n : Nat} {out : List Nat} (h : OrdOk dep n out) (i : Nat) (hi : i < n) (hnot : i ∉ out) (hd : ∀ k, k < n → k ∉ out → dep i k = false) : OrdOk dep n (out ++ [i]) := by
  refine ⟨?_, ?_, ?_⟩
  · rw [List.nodup_append]
    refine ⟨h.nodup, by simp, ?_⟩
    rintro a ha b hb rfl
    simp at hb
    exact hnot (hb ▸ ha)
  · intro x hx
    rcases List.mem_append.1 hx with hx | hx
    · exact h.lt x hx
    · simp at hx; omega
  · intro j x hx k hk hdk
    by_cases hj : j < out.length
    · rw [List.getElem?_append_left hj] at hx
      rw [List.take_append_of_le_length (by omega)]
      exact h.behind j x hx k hk hdk
    · have hj2 : j = out.length := by
        have := (List.getElem?_eq_some_iff.1 hx).1
        simp at this; omega
      subst hj2
      simp at hx
      subst hx
      simp only [List.take_left']
      apply Classical.byContradiction
      intro hk2
      rw [hd k hk hk2] at hdk
      cases hdk
theorem OrdOk.full {dep : Nat → Nat → Bool} {n : Nat} {out : List Nat} (h : OrdOk dep n out) (hn : out.length = n) (k : Nat) (hk : k < n) : k ∈ out := by
  apply Classical.byContradiction
  intro hno
  have h1 : (k :: out).Nodup := List.nodup_cons.2 ⟨hno, h.nodup⟩
  have h2 : (k :: out) ⊆ List.range n := by
    intro x hx
    rcases List.mem_cons.1 hx with rfl | hx
    · simpa using hk
    · simpa using h.lt x hx
  have := List.Nodup.length_le_of_subset h1 h2
  simp at this
  omega
theorem OrdOk.le {dep : Nat → Nat → Bool} {n : Nat} {out : List Nat} (h : OrdOk dep n out) : out.length ≤ n := by
  have h2 : out ⊆ List.range n := fun x hx => by simpa using h.lt x hx
  have := List.Nodup.length_le_of_subset h.nodup h2
  simpa using this
/-- Where some are left there is one that is left. -/
theorem OrdOk.left {dep : Nat → Nat → Bool} {n : Nat} {out : List Nat} (h : OrdOk dep n out) (hn : out.length ≠ n) : ∃ k, k < n ∧ k ∉ out := by
  apply Classical.byContradiction
  intro hno
  have h2 : List.range n ⊆ out := by
    intro x hx
    apply Classical.byContradiction
    intro hx2
    exact hno ⟨x, by simpa using hx, hx2⟩
  have := List.Nodup.length_le_of_subset List.nodup_range h2
  have := h.le
  simp at *
  omega
theorem mem_take_idx {l : List Nat} {j : Nat} {x : Nat} (h : x ∈ l.take j) : l.idxOf x < j := by
  obtain ⟨i, hi⟩ := List.getElem?_of_mem h
  have hil := (List.getElem?_eq_some_iff.1 hi).1
  simp at hil
  have hij : i < j := by omega
  rw [List.getElem?_take_of_lt hij] at hi
  apply Classical.byContradiction
  intro hge
  have : i < l.idxOf x := by omega
  have := List.not_of_lt_findIdx (p := (· == x)) (xs := l) (i := i) this
  obtain ⟨h1, h2⟩ := List.getElem?_eq_some_iff.1 hi
  simp [h2] at this
/-- A whole order: no round. -/
theorem OrdOk.no_round {nd : Nat → Nat} {n : Nat} {out : List Nat} (h : OrdOk (fun i k => (nd i).testBit k) n out) (hn : out.length = n) : roundB nd n = false := by
  refine roundB_false nd n (fun i => out.idxOf i) ?_
  intro i hi k hk hb
  have hm := h.full hn i hi
  have hlt := List.idxOf_lt_length_of_mem hm
  exact mem_take_idx (h.behind (out.idxOf i) i (by rw [List.getElem?_eq_getElem hlt, List.getElem_idxOf]) k hk hb)
/-- An order that cannot go on: a round. -/
theorem OrdOk.round {nd : Nat → Nat} {n : Nat} {out : List Nat} (h : OrdOk (fun i k => (nd i).testBit k) n out) (hn : out.length ≠ n) (hs : ∀ i, i < n → i ∉ out → ∃ k, k < n ∧ k ∉ out ∧ (nd i).testBit k = true) : roundB nd n = true := by
  obtain ⟨i0, hi0, hi1⟩ := h.left hn
  refine roundB_true nd n (fun i => i < n ∧ i ∉ out) i0 ⟨hi0, hi1⟩ ?_
  rintro i ⟨h1, h2⟩
  obtain ⟨k, hk1, hk2, hk3⟩ := hs i h1 h2
  exact ⟨h1, k, ⟨hk1, hk2⟩, hk3⟩
end Go.Proofs.YtaadhehcoegmhaaGreatDoor
/- The map of what is left: its laws (lookup, delete, len), and a set's lookup. -/
namespace Go.Proofs.YtaadhehcoegmhaaGreatDoor
open Go Go.RowKit

def rowsI (rows : List (Nat × Nat)) : List (Int × Nat) := rows.map fun r => ((r.1 : Int), r.2)
/-- The map's entries: a place, and the block of its set. -/
def LeftRows (es : List MapEntry) (rows : List (Nat × Nat)) : Prop := KeyRowsI (fun v (m : Nat) => v = .map (some m)) es (rowsI rows)
structure LeftAt (mb : Nat) (rows : List (Nat × Nat)) (w : World) : Prop where
  out : ∃ es clock, w.heap[mb]? = some (.map es clock) ∧ LeftRows es.toList rows ∧ (∀ y ∈ es.toList, y.born < clock) ∧ (es.toList.map (·.born)).Nodup
theorem LeftAt.grown {mb : Nat} {rows : List (Nat × Nat)} {w w' : World} {row : Option Nat} (h : LeftAt mb rows w) (hg : w.grownBy w' row) (hr : some mb ≠ row) : LeftAt mb rows w' := by
  obtain ⟨es, clock, hm, rest⟩ := h.out
  exact ⟨es, clock, (hg.block mb (Array.getElem?_eq_some_iff.1 hm).1 hr).trans hm, rest⟩
theorem LeftAt.below {mb : Nat} {rows : List (Nat × Nat)} {w w' : World} (h : LeftAt mb rows w) (hb : Below w.heap.size w w') : LeftAt mb rows w' := h.grown (grown_of_below hb none) (by simp)
theorem LeftAt.lt {mb : Nat} {rows : List (Nat × Nat)} {w : World} (h : LeftAt mb rows w) : mb < w.heap.size := by
  obtain ⟨es, clock, hm, _⟩ := h.out
  exact (Array.getElem?_eq_some_iff.1 hm).1
theorem LeftRows.length : ∀ {es : List MapEntry} {rows : List (Nat × Nat)}, LeftRows es rows → es.length = rows.length
  | [], [], _ => rfl
  | [], _ :: _, h => h.elim
  | _ :: _, [], h => h.elim
  | _ :: es, _ :: rows, h => by simp [LeftRows.length (es := es) (rows := rows) h.2.2]
theorem LeftRows.mem : ∀ {es : List MapEntry} {rows : List (Nat × Nat)}, LeftRows es rows → ∀ y ∈ es, ∃ r ∈ rows, y.key = .int .i64 (r.1 : Int) ∧ y.val = .map (some r.2)
  | [], [], _, y, hy => by simp at hy
  | [], _ :: _, h, _, _ => h.elim
  | _ :: _, [], h, _, _ => h.elim
  | e :: es, r :: rows, h, y, hy => by
    rcases List.mem_cons.1 hy with rfl | hy
    · exact ⟨r, by simp, h.1, h.2.1⟩
    · obtain ⟨r', h1, h2⟩ := LeftRows.mem (es := es) (rows := rows) h.2.2 y hy
      exact ⟨r', by simp [h1], h2⟩
/-- A test of the keys, over the entries and over the rows. -/
theorem LeftRows.any {f : MapEntry → Bool} {g : Nat → Bool} (hf : ∀ y : MapEntry, ∀ i : Nat, y.key = .int .i64 (i : Int) → f y = g i) : ∀ {es : List MapEntry} {rows : List (Nat × Nat)}, LeftRows es rows → es.any f = rows.any fun r => g r.1
  | [], [], _ => rfl
  | [], _ :: _, h => h.elim
  | _ :: _, [], h => h.elim
  | e :: es, r :: rows, h => by
    simp only [List.any_cons, hf e r.1 h.1, LeftRows.any hf (es := es) (rows := rows) h.2.2]
theorem rowAtI_mem : ∀ {rows : List (Nat × Nat)}, (rows.map (·.1)).Nodup → ∀ {i m : Nat}, (i, m) ∈ rows → rowAtI (i : Int) (rowsI rows) = some m
  | r :: rows, hn, i, m, h => by
    simp only [rowsI, List.map_cons, rowAtI]
    rcases List.mem_cons.1 h with rfl | h
    · simp
    · have hne : i ≠ r.1 := by
        rintro rfl
        exact (List.nodup_cons.1 hn).1 (List.mem_map.2 ⟨_, h, rfl⟩)
      rw [if_neg (by simp; omega)]
      exact rowAtI_mem (List.nodup_cons.1 hn).2 h
theorem rowAtI_not : ∀ {rows : List (Nat × Nat)} {i : Nat}, i ∉ rows.map (·.1) → rowAtI (i : Int) (rowsI rows) = none
  | [], _, _ => rfl
  | r :: rows, i, h => by
    simp only [List.map_cons, List.mem_cons, not_or] at h
    simp only [rowsI, List.map_cons, rowAtI]
    rw [if_neg (by simp; omega)]
    exact rowAtI_not h.2
theorem leftRows_erase : ∀ {es : List MapEntry} {rows : List (Nat × Nat)} (off i : Nat), LeftRows es rows → (rows.map (·.1)).Nodup → i ∈ rows.map (·.1) →
    ∃ j v, Instr.findNow (.int .i64) (.int .i64 (i : Int)) es off = some (some (off + j, v)) ∧ LeftRows (es.eraseIdx j) (rows.filter fun r => r.1 != i)
  | [], [], _, _, _, _, hi => by simp at hi
  | [], _ :: _, _, _, h, _, _ => h.elim
  | _ :: _, [], _, _, h, _, _ => h.elim
  | e :: es, r :: rows, off, i, h, hn, hi => by
    obtain ⟨hk, hv, ht⟩ := h
    have hn' := List.nodup_cons.1 hn
    by_cases he : i = r.1
    · subst he
      refine ⟨0, e.val, by simp [Instr.findNow, hk, Instr.sameNow], ?_⟩
      simp only [List.eraseIdx_cons_zero, List.filter_cons, bne_self_eq_false, Bool.false_eq_true, if_false]
      rw [List.filter_eq_self.2]
      · exact ht
      · intro x hx
        simp only [bne_iff_ne, ne_eq]
        intro hq
        exact hn'.1 (List.mem_map.2 ⟨x, hx, hq⟩)
    · have hi' : i ∈ rows.map (·.1) := by
        rcases List.mem_cons.1 hi with h | h
        · exact absurd h he
        · exact h
      obtain ⟨j, v, h1, h2⟩ := leftRows_erase (off + 1) i ht hn'.2 hi'
      have hq : ((i : Int) == (r.1 : Int)) = false := by simp; omega
      refine ⟨j + 1, v, ?_, ?_⟩
      · simp only [Instr.findNow, hk, Instr.sameNow, if_true, hq]
        rw [h1]
        simp; omega
      · simp only [List.eraseIdx_cons_succ, List.filter_cons]
        rw [if_pos (by simpa using fun e => he e.symm)]
        exact ⟨hk, hv, h2⟩
theorem toList_erase (es : Array MapEntry) (j : Nat) : (es.eraseIdxIfInBounds j).toList = es.toList.eraseIdx j := by
  unfold Array.eraseIdxIfInBounds
  split
  · simp
  · rw [List.eraseIdx_of_length_le]
    simp; omega

/-- How many are left. -/
theorem left_len {mb : Nat} {rows : List (Nat × Nat)} {w : World} (h : LeftAt mb rows w) (ty : TypeId) : (Builtin.len_ #[167] ty #[.map (some mb)]).run Tryz.prog w = .ok (.int .i64 rows.length) w := by
  obtain ⟨es, clock, hm, hr, _⟩ := h.out
  have hs : es.size = rows.length := by rw [← hr.length]; simp
  simp [Builtin.len_, run_underlying Tryz.underlying167, MapKept.run_getObj_map hm, Result.andThen, hs, goInt]
/-- One is struck. -/
theorem left_delete {mb : Nat} {rows : List (Nat × Nat)} {w : World} (h : LeftAt mb rows w) (hn : (rows.map (·.1)).Nodup) (i : Nat) (hi : i ∈ rows.map (·.1)) :
    ∃ W, (∀ ty, (Builtin.delete_ #[167, 3] ty #[.map (some mb), .int .i64 (i : Int)]).run Tryz.prog w = .ok (.tuple #[]) W) ∧ LeftAt mb (rows.filter fun r => r.1 != i) W ∧ w.grownBy W (some mb) ∧ W.heap.size = w.heap.size := by
  obtain ⟨es, clock, hm, hr, hb, hnd⟩ := h.out
  obtain ⟨j, v, h1, h2⟩ := leftRows_erase 0 i hr hn hi
  have hik : MapKept.IsKey (.int .i64) (.int .i64 (i : Int)) := rfl
  have hlt : mb < w.heap.size := (Array.getElem?_eq_some_iff.1 hm).1
  refine ⟨{ w with heap := w.heap.setIfInBounds mb (.map (es.eraseIdxIfInBounds j) clock) }, fun ty => ?_, ?_, grownBy_setIn _, by simp⟩
  · simp [Builtin.delete_, run_underlying Tryz.underlying167, MapKept.run_getObj_map hm, MapKept.run_checkKey Tryz.underlying3 hik, MapKept.run_findKey Tryz.underlying3 h1, MapKept.run_setObj_map _ hm, Result.andThen]
  · refine ⟨es.eraseIdxIfInBounds j, clock, by simp [hlt], by rw [toList_erase]; exact h2, fun y hy => ?_, ?_⟩
    · rw [toList_erase] at hy
      exact hb y ((List.eraseIdx_sublist _ _).subset hy)
    · rw [toList_erase]
      exact ((List.eraseIdx_sublist _ _).map _).nodup hnd
/-- One is laid into it. -/
theorem left_insert {mb : Nat} {rows : List (Nat × Nat)} {w : World} (h : LeftAt mb rows w) (i m : Nat) (hi : i ∉ rows.map (·.1)) :
    ∃ W, (Instr.mapUpdate 167 (.map (some mb)) (.int .i64 (i : Int)) (.map (some m))).run Tryz.prog w = .ok () W ∧ LeftAt mb (rows ++ [(i, m)]) W ∧ w.grownBy W (some mb) ∧ W.heap.size = w.heap.size := by
  obtain ⟨es, clock, hm, hr, hb, hnd⟩ := h.out
  have hlt : mb < w.heap.size := (Array.getElem?_eq_some_iff.1 hm).1
  refine ⟨_, run_insert_newI Tryz.underlying167 Tryz.underlying3 hm hr (i : Int) (rowAtI_not hi) (.map (some m)), ?_, grownBy_setIn _, by simp⟩
  refine ⟨es.push ⟨.int .i64 (i : Int), .map (some m), clock⟩, clock + 1, by simp [hlt], ?_, fun y hy => ?_, ?_⟩
  · unfold LeftRows rowsI
    rw [Array.toList_push, List.map_append]
    exact KeyRowsI.snoc (x := m) rfl hr
  · rw [Array.toList_push, List.mem_append] at hy
    rcases hy with hy | hy
    · have := hb y hy; omega
    · simp at hy; subst hy; simp
  · simp only [Array.toList_push, List.map_append, List.nodup_append, List.map_cons, List.map_nil]
    refine ⟨hnd, by simp, ?_⟩
    rintro a ha b hb' rfl
    obtain ⟨y, hy, rfl⟩ := List.mem_map.1 ha
    have := hb y hy
    simp at hb'
    omega
/-- What stands at a place. -/
theorem left_lookup {mb : Nat} {rows : List (Nat × Nat)} {w : World} (h : LeftAt mb rows w) (hn : (rows.map (·.1)).Nodup) (i m : Nat) (hi : (i, m) ∈ rows) (ok : Bool) :
    (Instr.lookup 167 (.map (some mb)) (.int .i64 (i : Int)) ok).run Tryz.prog w = .ok (if ok then .tuple #[.map (some m), .bool true] else .map (some m)) w := by
  obtain ⟨es, clock, hm, hr, _⟩ := h.out
  rcases run_lookup_rowsI Tryz.underlying167 Tryz.underlying3 hm hr (z := .map none) (by kernel_rfl) (i : Int) ok with ⟨h1, _⟩ | ⟨v, x, h1, h2, h3⟩
  · rw [rowAtI_mem hn hi] at h1; cases h1
  · rw [rowAtI_mem hn hi] at h1
    cases h1
    subst h2
    exact h3
theorem left_lookup_none {mb : Nat} {rows : List (Nat × Nat)} {w : World} (h : LeftAt mb rows w) (i : Nat) (hi : i ∉ rows.map (·.1)) (ok : Bool) :
    (Instr.lookup 167 (.map (some mb)) (.int .i64 (i : Int)) ok).run Tryz.prog w = .ok (if ok then .tuple #[.map none, .bool false] else .map none) w := by
  obtain ⟨es, clock, hm, hr, _⟩ := h.out
  rcases run_lookup_rowsI Tryz.underlying167 Tryz.underlying3 hm hr (z := .map none) (by kernel_rfl) (i : Int) ok with ⟨h1, h3⟩ | ⟨v, x, h1, h2, h3⟩
  · exact h3
  · rw [rowAtI_not hi] at h1; cases h1
/-- Is a name in a set? -/
theorem set_lookup {m : Nat} {ns : List (List UInt8)} {w : World} (h : SetAt m ns w) (s : List UInt8) :
    (Instr.lookup 168 (.map (some m)) (.string (bs s)) false).run Tryz.prog w = .ok (.bool (decide (s ∈ ns))) w := by
  obtain ⟨es, clock, hm, hr⟩ := h
  rcases run_lookup_rows Tryz.underlying168 Tryz.underlying9 hm hr (z := .bool false) (by kernel_rfl) (bs s) false with ⟨h1, h3⟩ | ⟨v, x, h1, h2, h3⟩
  · have hs : s ∉ ns := fun hin => by rw [rowAt_some s ns hin] at h1; cases h1
    rw [decide_eq_false hs]
    exact h3
  · have hs : s ∈ ns := Classical.byContradiction fun hin => by rw [rowAt_none s ns hin] at h1; cases h1
    rw [decide_eq_true hs]
    subst h2
    exact h3
end Go.Proofs.YtaadhehcoegmhaaGreatDoor
/- ordered over lets. -/
namespace Go.Proofs.YtaadhehcoegmhaaGreatDoor
open Go Go.RowKit

/-- The name of the let at a place. -/
def nameAt (ls : List Lt) (k : Nat) : List UInt8 := (ls[k]?.map (·.name)).getD []
/-- Does the let at i name the one at k? -/
def depB (ls : List Lt) (nd : Nat → List (List UInt8)) (i k : Nat) : Bool := decide (nameAt ls k ∈ nd i)
def outI (out : List Nat) : List Int := out.map fun (i : Nat) => (i : Int)
/-- How ordered ends. -/
def OrderedPost (ls : List Lt) (nd : Nat → List (List UInt8)) (w : World) (e : Ending) (w' : World) : Prop :=
  Below w.heap.size w w' ∧ ∃ out : List Nat, OrdOk (depB ls nd) ls.length out ∧
    ((∃ v, e = .returned (.tuple #[v, .bool true]) ∧ w'.ownsRow w.heap.size 3 1 v (outI out).length (ints (outI out)) ∧ out.length = ls.length) ∨
     (e = .returned (.tuple #[.slice none 0 0, .bool false]) ∧ out.length ≠ ls.length ∧ ∀ i, i < ls.length → i ∉ out → ∃ k, k < ls.length ∧ k ∉ out ∧ depB ls nd i k = true))
/-- What is known of the sets that are left. -/
def SetsOk (nd : Nat → List (List UInt8)) (mb B : Nat) (rows : List (Nat × Nat)) (w : World) : Prop := ∀ r ∈ rows, B ≤ r.2 ∧ r.2 ≠ mb ∧ SetAt r.2 (nd r.1) w
theorem SetsOk.below {nd : Nat → List (List UInt8)} {mb B : Nat} {rows : List (Nat × Nat)} {w w' : World} (h : SetsOk nd mb B rows w) (hb : Below w.heap.size w w') : SetsOk nd mb B rows w' :=
  fun r hr => ⟨(h r hr).1, (h r hr).2.1, (h r hr).2.2.below hb⟩
theorem SetsOk.grown {nd : Nat → List (List UInt8)} {mb B : Nat} {rows : List (Nat × Nat)} {w w' : World} (h : SetsOk nd mb B rows w) (hg : w.grownBy w' (some mb)) : SetsOk nd mb B rows w' :=
  fun r hr => ⟨(h r hr).1, (h r hr).2.1, (h r hr).2.2.grown hg (fun e => (h r hr).2.1 (Option.some.inj e))⟩
theorem SetsOk.grownNew {nd : Nat → List (List UInt8)} {mb B m : Nat} {rows : List (Nat × Nat)} {w w' : World} (h : SetsOk nd mb B rows w) (hg : w.grownBy w' (some m)) (hm : ∀ r ∈ rows, r.2 ≠ m) : SetsOk nd mb B rows w' :=
  fun r hr => ⟨(h r hr).1, (h r hr).2.1, (h r hr).2.2.grown hg (fun e => hm r hr (Option.some.inj e))⟩
/-- Nothing below B turns where a block from B on alone does. -/
theorem below_of_grown {B m : Nat} {w w' : World} (hg : w.grownBy w' (some m)) (hm : B ≤ m) (hB : B ≤ w.heap.size) : Below B w w' :=
  ⟨hg.os, hg.tape, hg.output, hg.size, fun k hk => hg.block k (by omega) (fun e => by have := Option.some.inj e; omega)⟩
def leftSize (mb : Nat) (w : World) : Nat := match w.heap[mb]? with | some (.map es _) => es.size | _ => 0
theorem leftSize_eq {mb : Nat} {rows : List (Nat × Nat)} {w : World} (h : LeftAt mb rows w) : leftSize mb w = rows.length := by
  obtain ⟨es, clock, hm, hr, _⟩ := h.out
  unfold leftSize
  rw [hm, ← hr.length]
  simp
theorem run_makeMap_167 (w : World) : (Instr.makeMap 167 none).run Tryz.prog w = .ok (.map (some w.heap.size)) (w.alloc (.map #[] 0)) := by kernel_rfl

theorem run_makeMap_168 (w : World) : (Instr.makeMap 168 none).run Tryz.prog w = .ok (.map (some w.heap.size)) (w.alloc (.map #[] 0)) := by kernel_rfl

/-- The places that are left. -/
def leftOver (n : Nat) (out : List Nat) : List Nat := (List.range n).filter fun i => decide (i ∉ out)
theorem mem_leftOver {n : Nat} {out : List Nat} {i : Nat} : i ∈ leftOver n out ↔ i < n ∧ i ∉ out := by simp [leftOver]
theorem leftOver_nodup (n : Nat) (out : List Nat) : (leftOver n out).Nodup := List.filter_sublist.nodup List.nodup_range
theorem leftOver_nil (n : Nat) : leftOver n [] = List.range n := by
  unfold leftOver
  rw [List.filter_eq_self]
  simp
theorem filter_fst (rows : List (Nat × Nat)) (i : Nat) : (rows.filter fun r => r.1 != i).map (·.1) = (rows.map (·.1)).filter fun k => k != i := by
  rw [List.filter_map]; rfl
theorem leftOver_snoc (n : Nat) (out : List Nat) (i : Nat) : leftOver n (out ++ [i]) = (leftOver n out).filter fun k => k != i := by
  unfold leftOver
  rw [List.filter_filter]
  congr 1
  funext k
  by_cases h1 : k ∈ out <;> by_cases h2 : k = i <;> simp [h1, h2]

theorem own_kept {w w' : World} {base : Nat} {v : Value} {n : Nat} {xs : List Value} (h : w.ownsRow base 3 1 v n xs) (hk : ∀ k, base ≤ k → k < w.heap.size → w'.heap[k]? = w.heap[k]?) : w'.ownsRow base 3 1 v n xs := by
  refine ⟨h.1, ?_⟩
  rcases h.2 with hn | ⟨g, cap, cur, rfl, hb, hg, rest⟩
  · exact .inl hn
  · exact .inr ⟨g, cap, cur, rfl, hb, (hk g hb (Array.getElem?_eq_some_iff.1 hg).1).trans hg, rest⟩
theorem own_mono {w : World} {base base' : Nat} {v : Value} {n : Nat} {xs : List Value} (h : w.ownsRow base 3 1 v n xs) (hb : base' ≤ base) : w.ownsRow base' 3 1 v n xs :=
  ⟨h.1, h.2.imp id fun ⟨g, cap, cur, h1, h2, h3⟩ => ⟨g, cap, cur, h1, Nat.le_trans hb h2, h3⟩⟩
/-- Does the let at i name the one of this entry's key? -/
def hitE (ls : List Lt) (nd : Nat → List (List UInt8)) (i : Nat) (y : MapEntry) : Bool := match y.key with | .int _ k => depB ls nd i k.toNat | _ => false
theorem hitE_key {ls : List Lt} {nd : Nat → List (List UInt8)} {i : Nat} (y : MapEntry) (k : Nat) (h : y.key = .int .i64 (k : Int)) : hitE ls nd i y = depB ls nd i k := by
  unfold hitE
  rw [h]
  simp
theorem any_push {es : List MapEntry} {seen : Array Nat} {e : MapEntry} (f : MapEntry → Bool) (hn : (es.map (·.born)).Nodup) (he : e ∈ es) :
    es.any (fun y => (seen.push e.born).contains y.born && f y) = (es.any (fun y => seen.contains y.born && f y) || f e) := by
  rw [Bool.eq_iff_iff]
  simp only [List.any_eq_true, Bool.or_eq_true, Bool.and_eq_true, contains_push]
  constructor
  · rintro ⟨y, hy, h1 | h1, h2⟩
    · exact .inl ⟨y, hy, h1, h2⟩
    · obtain rfl := born_inj hn hy he (eq_of_beq h1)
      exact .inr h2
  · rintro (⟨y, hy, h1, h2⟩ | h)
    · exact ⟨y, hy, .inl h1, h2⟩
    · exact ⟨e, he, .inr (by simp), h⟩
theorem any_all {es : List MapEntry} {seen : Array Nat} (f : MapEntry → Bool) (h : ∀ x ∈ es, seen.contains x.born = true) : es.any (fun y => seen.contains y.born && f y) = es.any f := by
  rw [Bool.eq_iff_iff]
  simp only [List.any_eq_true, Bool.and_eq_true]
  exact ⟨fun ⟨y, hy, _, h2⟩ => ⟨y, hy, h2⟩, fun ⟨y, hy, h2⟩ => ⟨y, hy, h y hy, h2⟩⟩

set_option maxRecDepth 100000 in
set_option maxHeartbeats 8000000 in
theorem ordered_lets (g cap : Nat) (ls : List Lt) (nd : Nat → List (List UInt8)) (w : World) (hE : Env w) (hl : ls.length ≤ 1000)
    (hc : ∀ i t, ls[i]? = some t → ∀ j u, t.cells[j]? = some u → w.cell? ⟨g, i * 9 + j, none⟩ = some u)
    (hsel : ∀ t ∈ ls, t.sel.isEmpty = false) (hns : ∀ i t, ls[i]? = some t → NamesAre t.sel (nd i)) :
    Calls Tryz.prog 45 #[.slice (some ⟨g, 0, none⟩) ls.length cap] w (OrderedPost ls nd w) := by
  obtain ⟨W0, hW0⟩ : ∃ W, W = w.alloc (.map #[] 0) := ⟨_, rfl⟩
  have hb0 : Below w.heap.size w W0 := by rw [hW0]; exact (Below.refl _ _).alloc (Nat.le_refl _) _
  have hL0 : LeftAt w.heap.size [] W0 := ⟨#[], 0, by rw [hW0]; exact heap_alloc_new w _, trivial, by simp, by simp⟩
  have HB0 := Lib.hid hb0
  have HL0 := Lib.hid hL0
  have HE := Lib.hid hE
  have HC := Lib.hid hc
  have HS := Lib.hid hsel
  have HN := Lib.hid hns
  clear hb0 hL0 hE hc hsel hns
  have hmk := run_makeMap_167
  have hmk2 := run_makeMap_168
  go_enter Tryz.func45, Tryz.ntmps45
  go_wp2_with fail
  rw [← hW0]
  clear hW0
  go_loopw [17] (fun v wr => ∃ (i : Nat) (rows : List (Nat × Nat)), v = .int .i64 i ∧ i ≤ ls.length ∧ Below w.heap.size w wr ∧ LeftAt w.heap.size rows wr ∧ rows.map (·.1) = List.range i ∧ SetsOk nd w.heap.size w.heap.size rows wr) (fun v _ => ls.length - (intOf v).toNat)
  case atStart => exact ⟨0, [], rfl, by omega, HB0.out, HL0.out, rfl, fun r hr => by simp at hr⟩
  case round =>
    obtain ⟨i, rows, rfl, hi, hbr, hlr, hfst, hso⟩ := hrel
    rename World => wr
    by_cases hlt : i < ls.length
    · obtain ⟨t, ht⟩ : ∃ t, ls[i]? = some t := ⟨ls[i], by simp [hlt]⟩
      have htm : t ∈ ls := List.mem_of_getElem? ht
      have hcr : ∀ j u, t.cells[j]? = some u → wr.cell? ⟨g, i * 9 + j, none⟩ = some u := fun j u hu => (hbr.cell (at_lt (HC.out i t ht j u hu))).trans (HC.out i t ht j u hu)
      have c0 : wr.cell? ⟨g, i * 9 + 0, none⟩ = some (.int .i64 14) := hcr 0 _ rfl
      have c1 : wr.cell? ⟨g, i * 9 + 1, none⟩ = some (.string (bs t.name)) := hcr 1 _ rfl
      have c2 : wr.cell? ⟨g, i * 9 + 2, none⟩ = some (.string (bs t.sel)) := hcr 2 _ rfl
      have c3 : wr.cell? ⟨g, i * 9 + 3, none⟩ = some (.string ⟨#[]⟩) := hcr 3 _ rfl
      have c4 : wr.cell? ⟨g, i * 9 + 4, none⟩ = some (.string ⟨#[]⟩) := hcr 4 _ rfl
      have c5 : wr.cell? ⟨g, i * 9 + 5, none⟩ = some (.bool false) := hcr 5 _ rfl
      have c6 : wr.cell? ⟨g, i * 9 + 6, none⟩ = some (.slice none 0 0) := hcr 6 _ rfl
      have c7 : wr.cell? ⟨g, i * 9 + 7, none⟩ = some (.slice none 0 0) := hcr 7 _ rfl
      have c8 : wr.cell? ⟨g, i * 9 + 8, none⟩ = some (.slice none 0 0) := hcr 8 _ rfl
      rw [Nat.add_zero] at c0
      obtain ⟨hp1, hp2, hp3⟩ := put_new wr zero51 (let9 t) 51
      have HGA := Lib.hid (heap_alloc_new wr (.cells zero51 51))
      obtain ⟨W, hW⟩ : ∃ W, W = (wr.alloc (.cells zero51 51)).setRow wr.heap.size (let9 t) := ⟨_, rfl⟩
      rw [← hW] at hp1 hp2 hp3
      have hbA : Below W.heap.size W (W.alloc (.map #[] 0)) := (Below.refl _ _).alloc (Nat.le_refl _) _
      have hbwA : Below wr.heap.size wr (W.alloc (.map #[] 0)) := below_then hp1 hp1.size hbA
      have hin : i ∉ rows.map (·.1) := by rw [hfst]; simp
      obtain ⟨W3, hins, hL3, hg3, hs3⟩ := left_insert (hlr.below hbwA) i W.heap.size hin
      have hmr : ∀ r ∈ rows, r.2 < wr.heap.size := fun r hr => (hso r hr).2.2.lt
      have hmlt := hlr.lt
      have hmbW : w.heap.size ≠ W.heap.size := by have := hbr.size; have := hp1.size; omega
      have hset3 : SetAt W.heap.size [] W3 := ⟨#[], 0, (hg3.block _ (by simp) (fun e => hmbW (Option.some.inj e).symm)).trans (heap_alloc_new W _), trivial⟩
      have hT3 : W3.heap[wr.heap.size]? = some (.cells (let9 t) 51 (0, 0)) := (hg3.block _ (by simp; omega) (fun e => by have := Option.some.inj e; omega)).trans ((hbA.block _ (by omega)).trans hp2)
      have d0 : W3.cell? ⟨wr.heap.size, 0, none⟩ = some (.int .i64 14) := by rw [Lib.cell_of_heap hT3]; rfl
      have d1 : W3.cell? ⟨wr.heap.size, 1, none⟩ = some (.string (bs t.name)) := by rw [Lib.cell_of_heap hT3]; rfl
      have d2 : W3.cell? ⟨wr.heap.size, 2, none⟩ = some (.string (bs t.sel)) := by rw [Lib.cell_of_heap hT3]; rfl
      have d3 : W3.cell? ⟨wr.heap.size, 3, none⟩ = some (.string ⟨#[]⟩) := by rw [Lib.cell_of_heap hT3]; rfl
      have d4 : W3.cell? ⟨wr.heap.size, 4, none⟩ = some (.string ⟨#[]⟩) := by rw [Lib.cell_of_heap hT3]; rfl
      have d5 : W3.cell? ⟨wr.heap.size, 5, none⟩ = some (.bool false) := by rw [Lib.cell_of_heap hT3]; rfl
      have d6 : W3.cell? ⟨wr.heap.size, 6, none⟩ = some (.slice none 0 0) := by rw [Lib.cell_of_heap hT3]; rfl
      have d7 : W3.cell? ⟨wr.heap.size, 7, none⟩ = some (.slice none 0 0) := by rw [Lib.cell_of_heap hT3]; rfl
      have d8 : W3.cell? ⟨wr.heap.size, 8, none⟩ = some (.slice none 0 0) := by rw [Lib.cell_of_heap hT3]; rfl
      have hb3 : Below w.heap.size w W3 := (hbr.trans (hbwA.mono hbr.size)).trans (below_of_grown hg3 (Nat.le_refl _) (by simp; have := hbr.size; have := hp1.size; omega))
      obtain ⟨W4, hW4⟩ : ∃ W4, W4 = W3.alloc (.cells (let9 t) 51) := ⟨_, rfl⟩
      have hb34 : Below W3.heap.size W3 W4 := by rw [hW4]; exact (Below.refl _ _).alloc (Nat.le_refl _) _
      have hT4 : W4.heap[W3.heap.size]? = some (.cells (let9 t) 51 (0, 0)) := by rw [hW4]; exact heap_alloc_new W3 _
      have hlk := left_lookup (hL3.below hb34) (by rw [List.map_append, hfst]; simpa using (List.nodup_range (n := i + 1) |> fun h => by rw [List.range_succ] at h; exact h)) i W.heap.size (by simp) false
      simp only [Bool.false_eq_true, if_false] at hlk
      rw [hW4] at hlk
      have hso4 : SetsOk nd w.heap.size w.heap.size rows W4 := ((hso.below hbwA).grown hg3).below hb34
      have HBR := Lib.hid hbr
      have HW := Lib.hid hW
      have HP1 := Lib.hid hp1
      have HL4 := Lib.hid (hL3.below hb34)
      have HSET4 := Lib.hid (hset3.below hb34)
      have HT4 := Lib.hid hT4
      have HB4 := Lib.hid (hb3.trans (hb34.mono hb3.size))
      have HSO4 := Lib.hid hso4
      have HW4 := Lib.hid hW4
      have HF := Lib.hid hfst
      have HMR := Lib.hid hmr
      have HBA := Lib.hid hmbW
      have HS3 := Lib.hid hs3
      clear hp1 hp2 hp3 hW hcr hbr hlr hso hfst hbA hbwA hin hL3 hg3 hs3 hmr hset3 hT3 hb3 hW4 hb34 hT4 hso4 hmbW
      go_wp2_with (refine wpList_store_row rfl 51 (.tmp 6) (.tmp 21) rfl wr.heap.size (let9 t) rfl rfl 51 _ HGA.out (by kernel_rfl) rfl (by simp [Value.oneCell']) ?_; rw [← HW.out])
      rw [← HW4.out]
      have HES := Lib.hid (HE.out.below HB4.out)
      have hcell4 : ∀ j u, t.cells[j]? = some u → W4.cell? ⟨W3.heap.size, j, none⟩ = some u := fun j u hu => by
        rw [Lib.cell_of_heap HT4.out]
        simpa [Lt.cells] using hu
      refine Calls.mono (names_one W.heap.size W3.heap.size 1 t (nd i) W4 HES.out HSET4.out hcell4 (HS.out t htm) (HN.out i t ht)) ?_
      rintro e w5 ⟨rfl, hset5, hg5⟩
      dsimp only
      have hsr := HBR.out.size
      have hsW := HP1.out.size
      have hL5 := HL4.out.grown hg5 (fun e => HBA.out (Option.some.inj e))
      have hso5 := HSO4.out.grownNew hg5 (fun r hr => by have := HMR.out r hr; omega)
      have hB5 := HB4.out.trans (below_of_grown hg5 (by omega) HB4.out.size)
      have HR5 := Lib.hid (show ∃ (k : Nat) (rows' : List (Nat × Nat)), (Value.int .i64 (i + 1) = .int .i64 k ∧ k ≤ ls.length ∧ Below w.heap.size w w5 ∧ LeftAt w.heap.size rows' w5 ∧ rows'.map (·.1) = List.range k ∧ SetsOk nd w.heap.size w.heap.size rows' w5) ∧ k = i + 1 from
        ⟨i + 1, rows ++ [(i, W.heap.size)], ⟨by go_num, by omega, hB5, hL5, by rw [List.map_append, HF.out, List.range_succ]; rfl, fun r hr => by
          rcases List.mem_append.1 hr with hr | hr
          · exact hso5 r hr
          · simp at hr; subst hr
            exact ⟨by simp; omega, fun e => HBA.out e.symm, hset5⟩⟩, rfl⟩)
      clear hset5 hg5 hL5 hso5 hB5 hins hlk d0 d1 d2 d3 d4 d5 d6 d7 d8 c0 c1 c2 c3 c4 c5 c6 c7 c8 hcell4
      go_wp2_with fail
      obtain ⟨k, rows', hr5, hk⟩ := HR5.out
      go_roundw
      case rel => exact ⟨k, rows', hr5⟩
      case measure => simp [intOf]; omega
    · obtain rfl : i = ls.length := by omega
      have HBR := Lib.hid hbr
      have HLR := Lib.hid hlr
      have HF := Lib.hid hfst
      have HSO := Lib.hid hso
      clear hbr hlr hfst hso
      go_wp2_with fail
      go_loopw [7] (fun v w2 => ∃ (out : List Nat) (rows : List (Nat × Nat)), w2.ownsRow wr.heap.size 3 1 v (outI out).length (ints (outI out)) ∧ OrdOk (depB ls nd) ls.length out ∧ LeftAt w.heap.size rows w2 ∧ rows.map (·.1) = leftOver ls.length out ∧ SetsOk nd w.heap.size w.heap.size rows w2 ∧ Below w.heap.size w w2 ∧ wr.heap.size ≤ w2.heap.size ∧ ∀ r ∈ rows, r.2 < wr.heap.size) (fun _ w2 => leftSize w.heap.size w2)
      case atStart =>
        exact ⟨[], rows, ⟨rfl, .inl ⟨rfl, rfl⟩⟩, OrdOk.nil _ _, HLR.out, by rw [HF.out, leftOver_nil], HSO.out, HBR.out, Nat.le_refl _, fun r hr => (HSO.out r hr).2.2.lt⟩
      case round =>
        obtain ⟨out, rows, hown, hord, hleft, hfst, hsets, hb2, hsz2, hlt2⟩ := hrel
        rename World => w2
        have hlen := left_len hleft
        have hls : leftSize w.heap.size w2 = rows.length := leftSize_eq hleft
        have HLS := Lib.hid hls
        by_cases h0 : rows.length = 0
        · have hfull : out.length = ls.length := by
            apply Classical.byContradiction
            intro hne
            obtain ⟨k, hk1, hk2⟩ := hord.left hne
            have : k ∈ rows.map (·.1) := by rw [hfst]; exact mem_leftOver.2 ⟨hk1, hk2⟩
            rw [List.eq_nil_of_length_eq_zero h0] at this
            simp at this
          have hown : w2.ownsRow wr.heap.size 3 1 u7 (outI out).length (ints (outI out)) := hown
          have HFIN := Lib.hid (own_mono hown HBR.out.size)
          have HORD := Lib.hid hord
          have HFULL := Lib.hid hfull
          have HB2 := Lib.hid hb2
          rw [h0] at hlen
          clear hown hord hleft hfst hsets hb2 hlt2 hls hfull
          go_wp2_with fail
          go_ret2
          exact ⟨HB2.out, out, HORD.out, .inl ⟨u7, rfl, HFIN.out, HFULL.out⟩⟩
        · have hpos : 0 < rows.length := Nat.pos_of_ne_zero h0
          have hown : w2.ownsRow wr.heap.size 3 1 u7 (outI out).length (ints (outI out)) := hown
          have HOWN := Lib.hid hown
          have HORD := Lib.hid hord
          have HLEFT := Lib.hid hleft
          have HFST := Lib.hid hfst
          have HSETS := Lib.hid hsets
          have HB2 := Lib.hid hb2
          have HLT2 := Lib.hid hlt2
          have hposI : ((rows.length : Int) > 0) := by omega
          clear hown hord hleft hfst hsets hb2 hlt2 hls
          go_wp2_with fail
          go_loopw [8, 37] (fun v8 v37 w3 => ∃ i : Nat, v8 = .int .i64 (-1) ∧ v37 = .int .i64 i ∧ i ≤ ls.length ∧ Below w2.heap.size w2 w3 ∧ ∀ k, k < i → k ∉ out → ∃ m, m < ls.length ∧ m ∉ out ∧ depB ls nd k m = true) (fun _ v37 _ => ls.length - (intOf v37).toNat)
          case atStart => exact ⟨0, rfl, rfl, by omega, Below.refl _ _, fun k hk => by omega⟩
          case round =>
            obtain ⟨i, rfl, rfl, hi, hb3, hstuck⟩ := hrel
            rename World => w3
            have HB3 := Lib.hid hb3
            have HST := Lib.hid hstuck
            have hB03 := HB2.out.trans (hb3.mono HB2.out.size)
            have HB03 := Lib.hid hB03
            have hleft3 := HLEFT.out.below hb3
            have HLEFT3 := Lib.hid hleft3
            have HSETS3 := Lib.hid (HSETS.out.below hb3)
            clear hb3 hstuck hB03
            by_cases hlt : i < ls.length
            · by_cases hin : i ∈ out
              · have hlk := left_lookup_none hleft3 i (by rw [HFST.out, mem_leftOver]; exact fun h => h.2 hin) true
                simp only [if_true] at hlk
                have HNX := Lib.hid (show ∀ k, k < i + 1 → k ∉ out → ∃ m, m < ls.length ∧ m ∉ out ∧ depB ls nd k m = true from fun k hk hko => by
                  by_cases h : k < i
                  · exact HST.out k h hko
                  · obtain rfl : k = i := by omega
                    exact absurd hin hko)
                clear hleft3 hin
                go_wp2_with fail
                go_roundw
                case rel => exact ⟨i + 1, rfl, by go_num, by omega, HB3.out, HNX.out⟩
                case measure => simp [intOf]; omega
              · obtain ⟨m, him⟩ : ∃ m, (i, m) ∈ rows := by
                  have : i ∈ rows.map (·.1) := by rw [HFST.out, mem_leftOver]; exact ⟨hlt, hin⟩
                  obtain ⟨r, hr, he⟩ := List.mem_map.1 this
                  exact ⟨r.2, by rw [← he]; exact hr⟩
                have hlk := left_lookup hleft3 (by rw [HFST.out]; exact leftOver_nodup _ _) i m him true
                simp only [if_true] at hlk
                obtain ⟨es, clock, hm3, hrows, hborn, hnd⟩ := hleft3.out
                have hrg := run_range_map (P := Tryz.prog) w3 167 3 168 w.heap.size es clock Tryz.underlying167 hm3
                have hany : es.toList.any (hitE ls nd i) = rows.any fun r => depB ls nd i r.1 := hrows.any (fun y k hk => hitE_key y k hk)
                have HM3 := Lib.hid hm3
                have HROWS := Lib.hid hrows
                have HBO := Lib.hid hborn
                have HND := Lib.hid hnd
                have HANY := Lib.hid hany
                have HIN := Lib.hid hin
                have HIM := Lib.hid him
                have hmw3 := (Array.getElem?_eq_some_iff.1 hm3).1
                clear hm3 hrows hborn hnd hany hleft3 hin him
                go_wp2_with fail
                go_loopw [12] (fun v w4 => ∃ (seen : Array Nat) (c0 : Nat) (b : Bool), v = .bool b ∧ b = es.toList.any (fun y => seen.contains y.born && hitE ls nd i y) ∧ w4.heap[w3.heap.size]? = some (.mapIter (some w.heap.size) clock seen c0) ∧ clock ≤ c0 ∧ Below w3.heap.size w3 w4) (fun _ w4 => leftIn es w3.heap.size w4)
                case atStart => exact ⟨#[], clock, false, rfl, by simp, heap_alloc_new w3 _, Nat.le_refl _, (Below.refl _ _).alloc (Nat.le_refl _) _⟩
                case round =>
                  obtain ⟨seen, c0, b, rfl, hb, hit, hc0, hbel⟩ := hrel
                  rename World => w4
                  have hm4 := (hbel.block _ hmw3).trans HM3.out
                  rcases run_next_at (P := Tryz.prog) w4 0 w3.heap.size w.heap.size clock c0 seen es clock hit hm4 HBO.out hc0 with ⟨h0', hx⟩ | ⟨en, hen, w5, hw5, hx⟩
                  · have hall : b = rows.any fun r => depB ls nd i r.1 := by rw [hb, any_all _ (all_seen es seen h0'), HANY.out]
                    have HALL := Lib.hid hall
                    have HBEL := Lib.hid hbel
                    clear hall hb hit h0' hm4 hbel
                    cases b with
                    | true =>
                      have HNX := Lib.hid (show ∀ k, k < i + 1 → k ∉ out → ∃ m, m < ls.length ∧ m ∉ out ∧ depB ls nd k m = true from fun k hk hko => by
                        by_cases h : k < i
                        · exact HST.out k h hko
                        · obtain rfl : k = i := by omega
                          obtain ⟨r, hr, hd⟩ := List.any_eq_true.1 HALL.out.symm
                          have : r.1 ∈ leftOver ls.length out := by rw [← HFST.out]; exact List.mem_map.2 ⟨r, hr, rfl⟩
                          exact ⟨r.1, (mem_leftOver.1 this).1, (mem_leftOver.1 this).2, hd⟩)
                      go_wp2_with fail
                      go_roundw
                      case rel => exact ⟨i + 1, rfl, by go_num, by omega, below_then HB3.out HB3.out.size HBEL.out, HNX.out⟩
                      case measure => simp [intOf]; omega
                    | false =>
                      have hb24 := below_then HB3.out HB3.out.size HBEL.out
                      have hl4 := HLEFT.out.below hb24
                      obtain ⟨W5, hdel, hl5, hg5, hz5⟩ := left_delete hl4 (by rw [HFST.out]; exact leftOver_nodup _ _) i (by rw [HFST.out, mem_leftOver]; exact ⟨hlt, HIN.out⟩)
                      have hnot : ∀ k, k < ls.length → k ∉ out → depB ls nd i k = false := fun k hk hko => by
                        have hmem : k ∈ rows.map (·.1) := by rw [HFST.out]; exact mem_leftOver.2 ⟨hk, hko⟩
                        obtain ⟨r, hr, rfl⟩ := List.mem_map.1 hmem
                        have := HALL.out
                        cases hq : depB ls nd i r.1 with
                        | false => rfl
                        | true =>
                          have ht : (rows.any fun r => depB ls nd i r.1) = true := List.any_eq_true.2 ⟨r, hr, hq⟩
                          rw [ht] at this; cases this
                      have HORD5 := Lib.hid (HORD.out.snoc i hlt HIN.out hnot)
                      have hB5 : Below w.heap.size w W5 := (HB2.out.trans (hb24.mono HB2.out.size)).trans (below_of_grown hg5 (Nat.le_refl _) (by have := HB2.out.size; have := hb24.size; omega))
                      have HB5 := Lib.hid hB5
                      have hmlt := HLEFT.out.lt
                      have hwr : w.heap.size < wr.heap.size := HLR.out.lt
                      have hown5 : W5.ownsRow wr.heap.size 3 1 u7 (outI out).length (ints (outI out)) := own_kept HOWN.out (fun k hk1 hk2 => (hg5.block k (by have := hb24.size; omega) (fun e => by have := Option.some.inj e; omega)).trans (hb24.block k hk2))
                      have HOWN5 := Lib.hid hown5
                      have HL5 := Lib.hid hl5
                      have HSETS5 := Lib.hid ((HSETS.out.below hb24).grown hg5)
                      have hz45 := hb24.size
                      have hzz : wr.heap.size ≤ W5.heap.size := by omega
                      clear hb24 hl4 hl5 hg5 hnot hB5 hown5 hz5
                      have holen := HORD.out.le
                      have hoi : (outI out).length ≤ 1000 := by simp [outI]; omega
                      have hlen5 : (outI out).length + 1 ≤ 4000000000 := by omega
                      have hw5 : wr.heap.size ≤ (W5.alloc (.cells #[.int .i64 i] 3)).heap.size := by simp; omega
                      clear hoi
                      go_wp2_with (at_builtin; refine wpList_append_ints rfl (.tmp 72) (.tmp 74) rfl wr.heap.size _ (outI out) rfl (HOWN5.out.alloc _) _ [(i : Int)] rfl (intSlice_one W5 i) hlen5 hw5 ?_; intro v6 w6 hown6 hb6)
                      have hout6 : outI out ++ [(i : Int)] = outI (out ++ [i]) := by simp [outI]
                      rw [hout6] at hown6
                      have hbA : Below wr.heap.size W5 w6 := ((Below.refl _ _).alloc hzz _).trans hb6
                      have hrest : LeftAt w.heap.size (rows.filter fun r => r.1 != i) w6 ∧ SetsOk nd w.heap.size w.heap.size (rows.filter fun r => r.1 != i) w6 ∧ (rows.filter fun r => r.1 != i).length < rows.length := by
                        refine ⟨?_, ?_, ?_⟩
                        · obtain ⟨es5, ck5, hm5, hr5⟩ := HL5.out.out
                          exact ⟨es5, ck5, (hbA.block _ hwr).trans hm5, hr5⟩
                        · intro r hr
                          have hr' := (List.mem_filter.1 hr).1
                          obtain ⟨h1, h2, es6, ck6, hm6, hr6⟩ := HSETS5.out r hr'
                          exact ⟨h1, h2, es6, ck6, (hbA.block _ (HLT2.out r hr')).trans hm6, hr6⟩
                        · exact List.length_filter_lt_length_iff_exists.2 ⟨(i, m), HIM.out, by simp⟩
                      have hB6 : Below w.heap.size w w6 := HB5.out.trans (hbA.mono HBR.out.size)
                      have hsz6 := hbA.size
                      have hf6 : (rows.filter fun r => r.1 != i).map (·.1) = leftOver ls.length (out ++ [i]) := by rw [filter_fst, HFST.out, leftOver_snoc]
                      go_roundw
                      case rel => exact ⟨out ++ [i], rows.filter fun r => r.1 != i, hown6, HORD5.out, hrest.1, hf6, hrest.2.1, hB6, by omega, fun r hr => HLT2.out r (List.mem_filter.1 hr).1⟩
                      case measure => rw [leftSize_eq hrest.1, HLS.out]; exact hrest.2.2
                  · obtain ⟨hmem, hnseen⟩ := mem_left hen
                    obtain ⟨r, hr, hkey, hval⟩ := HROWS.out.mem en hmem
                    have hrl : r.1 < ls.length ∧ r.1 ∉ out := by
                      have : r.1 ∈ leftOver ls.length out := by rw [← HFST.out]; exact List.mem_map.2 ⟨r, hr, rfl⟩
                      exact mem_leftOver.1 this
                    have hit2 : w5.heap[w3.heap.size]? = some (.mapIter (some w.heap.size) clock seen c0) := by rcases hw5 with rfl | rfl <;> exact hit
                    have hbel2 : Below w3.heap.size w3 w5 := by rcases hw5 with rfl | rfl; exact hbel; exact hbel.drew
                    obtain ⟨w6, hw6⟩ : ∃ w6, w6 = ChangeMaps.setBlock w5 w3.heap.size (.mapIter (some w.heap.size) clock (seen.push en.born) clock) := ⟨_, rfl⟩
                    have hit6 : w6.heap[w3.heap.size]? = some (.mapIter (some w.heap.size) clock (seen.push en.born) clock) := by rw [hw6, heap_setBlock_at hit2, if_pos rfl]
                    have hbel6 : Below w3.heap.size w3 w6 := by rw [hw6]; exact below_setBlock hbel2 hit2 (Nat.le_refl _)
                    rw [← hw6] at hx
                    have hm6 := (hbel6.block _ hmw3).trans HM3.out
                    have hent := run_entry_at (P := Tryz.prog) w6 w3.heap.size w.heap.size clock seen es clock en hit6 hm6 hmem HND.out
                    rw [hkey, hval] at hx hent
                    obtain ⟨t, ht⟩ : ∃ t, ls[r.1]? = some t := ⟨ls[r.1], by simp [hrl.1]⟩
                    have hbw6 : Below w.heap.size w w6 := HB03.out.trans (hbel6.mono HB03.out.size)
                    have c1 : w6.cell? ⟨g, r.1 * 9 + 1, none⟩ = some (.string (bs t.name)) := (hbw6.cell (at_lt (HC.out r.1 t ht 1 _ rfl))).trans (HC.out r.1 t ht 1 _ rfl)
                    have hset6 := ((HSETS3.out.below hbel6) (i, m) HIM.out).2.2
                    have hlk2 := set_lookup hset6 t.name
                    have hdep : decide (t.name ∈ nd i) = depB ls nd i r.1 := by simp [depB, nameAt, ht]
                    rw [hdep] at hlk2
                    have hb6 : (b || depB ls nd i r.1) = es.toList.any (fun y => (seen.push en.born).contains y.born && hitE ls nd i y) := by
                      rw [any_push _ HND.out hmem, ← hb, hitE_key en r.1 hkey]
                    have HLE := Lib.hid (show leftIn es w3.heap.size w6 < leftIn es w3.heap.size w4 by
                      unfold leftIn; rw [hit6, hit]; exact left_shrinks es seen en hen)
                    have HIT6 := Lib.hid hit6
                    have HBEL6 := Lib.hid hbel6
                    have HB6 := Lib.hid hb6
                    have hrlt := hrl.1
                    clear hw6 hit6 hbel6 hm6 hbw6 hset6 hdep hb6 hbel2 hit2 hm4 hbel hit hrl hkey hval hb hr ht hmem hnseen hen
                    cases b with
                    | true =>
                      go_wp2_with fail
                      go_roundw
                      case rel => exact ⟨_, _, true, rfl, by simpa using HB6.out, HIT6.out, Nat.le_refl _, HBEL6.out⟩
                      case measure => exact HLE.out
                    | false =>
                      obtain ⟨q, hq⟩ : ∃ q, depB ls nd i r.1 = q := ⟨_, rfl⟩
                      rw [hq] at hlk2
                      have HQ := Lib.hid hq
                      clear hq
                      go_wp2_with fail
                      go_roundw
                      case rel => exact ⟨_, _, q, rfl, by rw [← HB6.out, HQ.out]; rfl, HIT6.out, Nat.le_refl _, HBEL6.out⟩
                      case measure => exact HLE.out
            · obtain rfl : i = ls.length := by omega
              have hne : out.length ≠ ls.length := by
                intro he
                have hmem : ∀ k, k < ls.length → k ∈ out := fun k hk => HORD.out.full he k hk
                cases hrw : rows with
                | nil => rw [hrw] at h0; exact h0 rfl
                | cons r rest =>
                  have : r.1 ∈ leftOver ls.length out := by rw [← HFST.out, hrw]; simp
                  exact (mem_leftOver.1 this).2 (hmem _ (mem_leftOver.1 this).1)
              have HNE := Lib.hid hne
              clear hne hleft3
              go_wp2_with fail
              go_ret2
              exact ⟨HB03.out, out, HORD.out, .inr ⟨rfl, HNE.out, HST.out⟩⟩
end Go.Proofs.YtaadhehcoegmhaaGreatDoor
