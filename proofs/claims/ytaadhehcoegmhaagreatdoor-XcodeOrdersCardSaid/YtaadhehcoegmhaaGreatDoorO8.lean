/- expr at the level of sums. -/
import Derived.Test.YtaadhehcoegmhaaGreatDoorO7
import Derived.Test.YtaadhehcoegmhaaGreatDoorO6
namespace Go.Proofs.YtaadhehcoegmhaaGreatDoor
open Go Go.RowKit

theorem step_store_row {P : Program} {ops : Array Oper} {o : Oper} {a : Act} {w : World} {K : Act → World → Prop} {Q : Exit → Act → World → Prop} {E : Prop} (hgd : o.guard = none) (ty : TypeId) (x y : Operand) (ho : o.op = .store ty x y)
    (g : Nat) (cells : Array Value) (hx : a.eval x = .pointer (some ⟨g, 0, none⟩)) (hy : a.eval y = .agg cells)
    (t : TypeId) (old : Array Value) (hg : w.heap[g]? = some (.cells old t (0, 0))) (hi : (P.info? ty).map (·.size) = some cells.size)
    (hold : old.size = cells.size) (h1 : cells.all (·.oneCell') = true) (hK : K (a.put o.dst undef) (w.setRow g cells)) :
    if Region.wanted o (yielded ops a.tmps) = true then Oper.wp P o a w K Q else E := by
  have hw : Region.wanted o (yielded ops a.tmps) = true := by simp [Region.wanted, hgd]
  rw [if_pos hw]
  unfold Oper.wp
  simp only [execOp, ho, hx, hy, Instr.storeAt, Instr.sureAddr, Sem.run_bind, Sem.run_pure, Result.andThen_ok, run_storeVar_row w g t ty old cells hg hi hold h1]
  exact hK
theorem kids_lit (op : Int) (A : Option Addr) (n cap : Nat) (w : World) :
    Calls Tryz.prog 266 #[.int .i64 op, .slice A n cap] w fun e w' => e = .returned (.agg #[.int .i64 op, .string ⟨#[]⟩, .int .i64 0, .int .i64 0, .int .i64 0, .int .i64 0, .slice A n cap]) ∧ Below w.heap.size w w' := kids_any op A n cap w
/-- Tokens that add these variables. -/
def PlusVars : List Lx → List (List UInt8) → Prop
  | [], [] => True
  | a :: b :: ts, c :: cs => (∃ i, a = ⟨8, [43], i⟩) ∧ (∃ i, b = ⟨7, c, i⟩) ∧ PlusVars ts cs
  | _, _ => False
def sumEx (e : Ex) (cs : List (List UInt8)) : Ex := cs.foldl (fun e c => .add e (.var c)) e
theorem PlusVars.calm : ∀ {ts : List Lx} {cs : List (List UInt8)}, PlusVars ts cs → Calm ts
  | [], [], _ => .inl rfl
  | _ :: _ :: _, _ :: _, ⟨⟨i, rfl⟩, _, _⟩ => .inr ⟨_, _, rfl⟩
  | [], _ :: _, h => h.elim
  | [_], [], h => h.elim
  | [_], _ :: _, h => h.elim
  | _ :: _ :: _, [], h => h.elim
theorem PlusVars.length : ∀ {ts : List Lx} {cs : List (List UInt8)}, PlusVars ts cs → ts.length = 2 * cs.length
  | [], [], _ => rfl
  | _ :: _ :: _, _ :: _, ⟨_, _, h⟩ => by simp [PlusVars.length h]; omega
  | [], _ :: _, h => h.elim
  | [_], [], h => h.elim
  | [_], _ :: _, h => h.elim
  | _ :: _ :: _, [], h => h.elim

theorem ExIs.shape {lo : Nat} {w : World} {e : Ex} {cs : List Value} (h : ExIs lo w e cs) : ∃ op x k v A n cap, cs = [.int .i64 op, .string (bs x), .int .i64 k, .int .i64 v, .int .i64 0, .int .i64 0, .slice A n cap] := by
  cases e with
  | num k v => exact ⟨16, [], k, v, none, 0, 0, h⟩
  | var t => exact ⟨18, t, 0, 0, none, 0, 0, h⟩
  | add a b => obtain ⟨g, cap, ca, cb, rfl, _⟩ := h; exact ⟨9, [], 0, 0, _, 2, cap, rfl⟩
/-- How many tokens a parser has left. -/
def leftToks (p : Nat) (w : World) : Nat := match w.cell? ⟨p, 0, none⟩ with | some (.slice _ n _) => n | _ => 0
theorem leftToks_eq {B p : Nat} {ts : List Lx} {w : World} (h : Par B p ts w) : leftToks p w = ts.length := by
  obtain ⟨lex, h1, A, cap, rfl, _⟩ := h.row
  unfold leftToks
  rw [Lib.cell_of_heap h1]
  rfl

theorem plus_is (ts : List Lx) (i : Nat) : isLx (⟨8, [43], i⟩ :: ts) 8 (levelRow 4) = true := by
  simp only [isLx, headLx]
  decide
theorem expr_var5 (B p : Nat) (x : List UInt8) (i : Nat) (ts : List Lx) (hts : Calm ts) (hn : ts.length ≤ 1000) : ExprAt 5 B p (⟨7, x, i⟩ :: ts) ts (.var x) :=
  expr_leaf B p _ ts 18 0 0 x (.var x) hts (by show (7 : Int) ≠ 8; decide) (fun _ _ => rfl) (fun w h => primary_var B p x i ts w h hn)
theorem expr_num5 (B p : Nat) (d : UInt8) (hd : IsDig d) (i : Nat) (ts : List Lx) (hts : Calm ts) (hn : ts.length ≤ 1000) : ExprAt 5 B p (⟨1, [d], i⟩ :: ts) ts (.num 0 (digV d)) :=
  expr_leaf B p _ ts 16 0 (digV d) [] (.num 0 (digV d)) hts (by show (1 : Int) ≠ 8; decide) (fun _ _ => rfl) (fun w h => primary_num B p d hd i ts w h hn)

/-- Seven cells stored one by one. -/
theorem set7 {w : World} (q : Nat) (o0 o1 o2 o3 o4 o5 o6 v0 v1 v2 v3 v4 v5 v6 : Value) (hq : w.heap[q]? = some (.cells #[o0, o1, o2, o3, o4, o5, o6] 155 (0, 0))) :
    (((((((w.setCell ⟨q, 0, none⟩ v0).setCell ⟨q, 1, none⟩ v1).setCell ⟨q, 2, none⟩ v2).setCell ⟨q, 3, none⟩ v3).setCell ⟨q, 4, none⟩ v4).setCell ⟨q, 5, none⟩ v5).setCell ⟨q, 6, none⟩ v6).heap[q]? = some (.cells #[v0, v1, v2, v3, v4, v5, v6] 155 (0, 0)) ∧
    (∀ k, k ≠ q → (((((((w.setCell ⟨q, 0, none⟩ v0).setCell ⟨q, 1, none⟩ v1).setCell ⟨q, 2, none⟩ v2).setCell ⟨q, 3, none⟩ v3).setCell ⟨q, 4, none⟩ v4).setCell ⟨q, 5, none⟩ v5).setCell ⟨q, 6, none⟩ v6).heap[k]? = w.heap[k]?) ∧
    (((((((w.setCell ⟨q, 0, none⟩ v0).setCell ⟨q, 1, none⟩ v1).setCell ⟨q, 2, none⟩ v2).setCell ⟨q, 3, none⟩ v3).setCell ⟨q, 4, none⟩ v4).setCell ⟨q, 5, none⟩ v5).setCell ⟨q, 6, none⟩ v6).heap.size = w.heap.size ∧
    (w.grownBy (((((((w.setCell ⟨q, 0, none⟩ v0).setCell ⟨q, 1, none⟩ v1).setCell ⟨q, 2, none⟩ v2).setCell ⟨q, 3, none⟩ v3).setCell ⟨q, 4, none⟩ v4).setCell ⟨q, 5, none⟩ v5).setCell ⟨q, 6, none⟩ v6) (some q)) := by
  have hg : w.grownBy w (some q) := ⟨rfl, rfl, rfl, Nat.le_refl _, fun _ _ _ => rfl⟩
  refine ⟨?_, ?_, ?_, ?_⟩
  · rw [setCell_row (setCell_row (setCell_row (setCell_row (setCell_row (setCell_row (setCell_row hq _) _) _) _) _) _) _]
    rfl
  · intro k hk
    rw [Below.heap_setCell _ _ _ _ (show k ≠ q from hk), Below.heap_setCell _ _ _ _ (show k ≠ q from hk), Below.heap_setCell _ _ _ _ (show k ≠ q from hk), Below.heap_setCell _ _ _ _ (show k ≠ q from hk), Below.heap_setCell _ _ _ _ (show k ≠ q from hk), Below.heap_setCell _ _ _ _ (show k ≠ q from hk), Below.heap_setCell _ _ _ _ (show k ≠ q from hk)]
  · simp [World.setCell]
  · exact grown_setCell (grown_setCell (grown_setCell (grown_setCell (grown_setCell (grown_setCell (grown_setCell hg))))))

/-- What a round of sums leaves behind. -/
theorem sum_round {w w5 w6 w7 Wf W0 : World} {q p B : Nat} {ts' : List Lx} {e' : Ex} {c : List UInt8} {a0 a1 a2 a3 a4 a5 a6 b0 b1 b2 b3 b4 b5 b6 : Value} (_hqp : q ≠ p) (hq5 : q < w5.heap.size) (hpq : p < q) (hBq : B ≤ q) (hwq : w.heap.size ≤ q) (h05 : W0.heap.size ≤ w5.heap.size)
    (hex : ExIs (q + 1) w5 e' [a0, a1, a2, a3, a4, a5, a6]) (hgr : w.grownBy w5 (some p)) (hk : ∀ k, k < W0.heap.size → k ≠ p → k ≠ q → w5.heap[k]? = W0.heap[k]?)
    (hgr6 : w5.drew.grownBy w6 (some p)) (hP6 : Par B p ts' w6) (hex6 : ExIs w5.drew.heap.size w6 (.var c) [b0, b1, b2, b3, b4, b5, b6])
    (hb7 : Below (w6.alloc (.cells #[a0, a1, a2, a3, a4, a5, a6, b0, b1, b2, b3, b4, b5, b6] 155)).heap.size (w6.alloc (.cells #[a0, a1, a2, a3, a4, a5, a6, b0, b1, b2, b3, b4, b5, b6] 155)) w7)
    (_hqf : Wf.heap[q]? = some (.cells #[.int .i64 9, .string ⟨#[]⟩, .int .i64 0, .int .i64 0, .int .i64 0, .int .i64 0, .slice (some ⟨w6.heap.size, 0, none⟩) 2 2] 155 (0, 0))) (hof : ∀ k, k ≠ q → Wf.heap[k]? = w7.heap[k]?) (hzf : Wf.heap.size = w7.heap.size) (hgf : w7.grownBy Wf (some q)) :
    ExIs (q + 1) Wf (.add e' (.var c)) [.int .i64 9, .string ⟨#[]⟩, .int .i64 0, .int .i64 0, .int .i64 0, .int .i64 0, .slice (some ⟨w6.heap.size, 0, none⟩) 2 2] ∧ Par B p ts' Wf ∧ w.grownBy Wf (some p) ∧ W0.heap.size ≤ Wf.heap.size ∧
      ∀ k, k < W0.heap.size → k ≠ p → k ≠ q → Wf.heap[k]? = W0.heap[k]? := by
  have hs6 : w5.heap.size ≤ w6.heap.size := hgr6.size
  have hs7 := hb7.size
  simp at hs7
  have h67 : ∀ k, k < w6.heap.size → w7.heap[k]? = w6.heap[k]? := fun k hk => (hb7.block k (by simp; omega)).trans (heap_alloc_old _ _ hk)
  have h56 : ∀ k, k < w5.heap.size → k ≠ p → w6.heap[k]? = w5.heap[k]? := fun k hk hkp => hgr6.block k hk (fun e => hkp (Option.some.inj e))
  have hnew := (hb7.block w6.heap.size (by simp)).trans (heap_alloc_new w6 _)
  have hexf : ExIs (q + 1) Wf e' [a0, a1, a2, a3, a4, a5, a6] := hex.kept fun j hj1 hj2 => ((hof j (by omega)).trans (h67 j (by omega))).trans (h56 j hj2 (by omega))
  have hgr67 : w6.grownBy w7 (some p) := ⟨hb7.os, hb7.tape, hb7.output, by omega, fun k hk _ => h67 k hk⟩
  have hgr56 : w5.grownBy w6 (some p) := ⟨hgr6.os, hgr6.tape, hgr6.output, hs6, fun k hk hne => hgr6.block k hk hne⟩
  have hgr7 := (hgr.trans hgr56).trans hgr67
  refine ⟨⟨w6.heap.size, 2, _, _, rfl, Nat.le_refl _, by omega, hexf, hex6, fun j u hu => ?_⟩, ?_, ?_, by omega, fun k h1 h2 h3 => ?_⟩
  · rw [Lib.cell_of_heap ((hof _ (by omega)).trans hnew)]
    simpa using hu
  · exact hP6.kept (by omega) fun j hj => (hof j (by omega)).trans (h67 j (by have := hP6.le; omega))
  · exact ⟨hgf.os.trans hgr7.os, hgf.tape.trans hgr7.tape, hgf.output.trans hgr7.output, by have := hgr7.size; omega, fun j hj hne => (hof j (by omega)).trans (hgr7.block j hj hne)⟩
  · exact ((hof k h3).trans (h67 k (by omega))).trans ((h56 k (by omega) h2).trans (hk k h1 h2 h3))

set_option maxRecDepth 100000 in
set_option maxHeartbeats 8000000 in
theorem expr_sum (B p : Nat) (d : UInt8) (hd : IsDig d) (i0 : Nat) (rest : List Lx) (cs : List (List UInt8)) (hpv : PlusVars rest cs) (hlen : cs.length ≤ 100) : ExprAt 4 B p (⟨1, [d], i0⟩ :: rest) [] (sumEx (.num 0 (digV d)) cs) := by
  intro w h
  have hrl := hpv.length
  have hpw : p < w.heap.size := Nat.lt_of_lt_of_le h.lt h.le
  have hBw := h.le
  have hpB := h.lt
  have hg0 := heap_alloc_new w (.cells zero155 155)
  have hb0 : Below w.heap.size w (w.alloc (.cells zero155 155)) := (Below.refl _ _).alloc (Nat.le_refl _) _
  have hP0 := Lib.hid (h.below hb0)
  have HPR := Lib.hid (expr_num5 B p d hd i0 rest hpv.calm (by omega))
  have HPV := Lib.hid hpv
  obtain ⟨rv, hrv⟩ : ∃ v, v = digV d := ⟨_, rfl⟩
  rw [← hrv] at HPR ⊢
  clear h hpv hrv hrl
  rw [show ((4 : Nat) : Int) = 4 from rfl]
  go_enter Tryz.func211, Tryz.ntmps211
  go_wp2_with fail
  refine Calls.mono (levels_any _) ?_
  rintro e w0 ⟨lv, rfl, hlv, hb00⟩
  dsimp only
  have hlv0 := hlv
  obtain ⟨g, rfl, _, _⟩ := hlv0
  have hP00 := Lib.hid (hP0.out.below hb00)
  have hbw0 := below_then hb0 hb0.size hb00
  have hg00 := (hb00.block w.heap.size (by simp)).trans hg0
  have hs0 := hb00.size
  simp at hs0
  have HLV := Lib.hid hlv
  clear hlv
  go_wp2_with fail
  refine Calls.mono (HPR.out _ hP00.out) ?_
  rintro e w1 ⟨op, x, k, v, A, n, cap, rfl, hex, hP1, hgr1⟩
  dsimp only
  obtain ⟨hp1, hp2, hp3⟩ := put_new w1 zero155 #[.int .i64 op, .string (bs x), .int .i64 k, .int .i64 v, .int .i64 0, .int .i64 0, .slice A n cap] 155
  have HGA := Lib.hid (heap_alloc_new w1 (.cells zero155 155))
  obtain ⟨W, hW⟩ : ∃ W, W = (w1.alloc (.cells zero155 155)).setRow w1.heap.size #[.int .i64 op, .string (bs x), .int .i64 k, .int .i64 v, .int .i64 0, .int .i64 0, .slice A n cap] := ⟨_, rfl⟩
  rw [← hW] at hp1 hp2 hp3
  have HW := Lib.hid hW
  have hs1 := hgr1.size
  have hg1 := (hgr1.block w.heap.size (by omega) (by intro e; cases e; omega)).trans hg00
  have hgW := (hp1.block _ (by omega)).trans hg1
  have hPW := Lib.hid (hP1.below hp1)
  have hexW : ExIs (w1.heap.size + 1) W (.num 0 rv) [.int .i64 op, .string (bs x), .int .i64 k, .int .i64 v, .int .i64 0, .int .i64 0, .slice A n cap] := hex
  have hlW := (HLV.out.kept fun k h1 h2 => hgr1.block k h2 (by intro e; cases e; simp at h1; omega)).below hp1
  have hgrW : w.grownBy W (some p) := ((grown_of_below hbw0 (some p)).trans hgr1).trans (grown_of_below hp1 (some p))
  have HGW := Lib.hid hgW
  have HGR := Lib.hid hgrW
  have HQ := Lib.hid hp2
  have HEXW := Lib.hid hexW
  obtain ⟨g', hgg, hglo, hlr⟩ := hlW
  obtain ⟨b, hbq, hcb, hrb⟩ := hlr 4 (by decide)
  cases hgg
  have HRB := Lib.hid hrb
  have hbW : b < W.heap.size := (Array.getElem?_eq_some_iff.1 hrb).1
  have hww1 : w.heap.size < w1.heap.size := by omega
  clear hp1 hp2 hW hg0 hb0 hgW hg1 hgrW hgr1 hP1 hb00 hbw0 hg00 hs0 hex hlr hrb hexW
  go_wp2_with (refine wpList_store_row rfl 155 (.tmp 6) (.tmp 18) rfl w1.heap.size #[.int .i64 op, .string (bs x), .int .i64 k, .int .i64 v, .int .i64 0, .int .i64 0, .slice A n cap] rfl rfl 155 _ HGA.out (by kernel_rfl) rfl (by simp [Value.oneCell']) ?_; rw [← HW.out])
  dsimp only [Act.put]
  have HC4 := Lib.hid hcb
  clear hcb
  go_loopw [19] (fun _ wr => ∃ (rest' : List Lx) (cs' : List (List UInt8)) (e' : Ex) (op x k v A n cap : _), PlusVars rest' cs' ∧ sumEx e' cs' = sumEx (.num 0 rv) cs ∧ cs'.length ≤ 100 ∧
      wr.heap[w1.heap.size]? = some (.cells #[.int .i64 op, .string (bs x), .int .i64 k, .int .i64 v, .int .i64 0, .int .i64 0, .slice A n cap] 155 (0, 0)) ∧
      ExIs (w1.heap.size + 1) wr e' [.int .i64 op, .string (bs x), .int .i64 k, .int .i64 v, .int .i64 0, .int .i64 0, .slice A n cap] ∧ Par B p rest' wr ∧ w.grownBy wr (some p) ∧ W.heap.size ≤ wr.heap.size ∧
      ∀ k, k < W.heap.size → k ≠ p → k ≠ w1.heap.size → wr.heap[k]? = W.heap[k]?)
    (fun _ wr => leftToks p wr)
  case atStart => exact ⟨rest, cs, .num 0 rv, op, x, k, v, A, n, cap, HPV.out, rfl, hlen, HQ.out, HEXW.out, hPW.out, HGR.out, Nat.le_refl _, fun _ _ _ _ => rfl⟩
  case round =>
    obtain ⟨rest', cs', e', op, x, k, v, A, n, cap, hpv, hsum, hcl, hq, hex, hpar, hgr, hsz, hkeep⟩ := hrel
    rename World => wr
    have hgW : g < W.heap.size := at_lt HC4.out
    have hgq : g ≠ w1.heap.size := by
      rintro rfl
      have := HC4.out
      rw [Lib.cell_of_heap HQ.out] at this
      simp at this
    have hbq' : b ≠ w1.heap.size := by
      rintro rfl
      have := HRB.out
      rw [HQ.out] at this
      simp at this
    have hgp : g ≠ p := by simp at hglo; omega
    have hbp : b ≠ p := by simp at hbq; omega
    have hc4 : wr.cell? ⟨g, 4, none⟩ = some (.slice (some ⟨b, 0, none⟩) 2 2) := (World.cell?_of_block (w := W) (a := ⟨g, 4, none⟩) (hkeep g hgW hgp hgq)).trans HC4.out
    have hrb : wr.heap[b]? = some (.cells (strCells (levelRow 4)) 9 (0, 0)) := (hkeep b hbW hbp hbq').trans HRB.out
    have hg0 : wr.heap[w.heap.size]? = some (.cells zero155 155 (0, 0)) := (hkeep _ (Array.getElem?_eq_some_iff.1 HGW.out).1 (by omega) (by omega)).trans HGW.out
    have HRB2 := Lib.hid hrb
    have HG0 := Lib.hid hg0
    have HQ2 := Lib.hid hq
    have HEX2 := Lib.hid hex
    have HPAR := Lib.hid hpar
    have HGR2 := Lib.hid hgr
    have HKEEP := Lib.hid hkeep
    have HSUM := Lib.hid hsum
    have hqwr : w1.heap.size < wr.heap.size := (Array.getElem?_eq_some_iff.1 hq).1
    have hrsz := hgr.size
    clear hrb hg0 hq hex hpar hgr hkeep hsum
    cases rest' with
    | nil =>
      cases cs' with
      | cons _ _ => exact hpv.elim
      | nil =>
        go_wp2_with fail
        go_region_law (first
          | (go_simp; go_at_call 263; refine Calls.mono (is_any B p [] 8 (levelRow 4) b 2 _ (HPAR.out.below (Below.refl _ _).drew) HRB2.out rfl (by decide)) ?_; rintro e w3 ⟨rfl, hbb3⟩))
        rw [show isLx [] 8 (levelRow 4) = false from rfl]
        have hbb := below_then ((Below.refl _ _).drew) (Nat.le_refl _) hbb3
        have hq3 := (hbb.block _ hqwr).trans HQ2.out
        have hg3 := (hbb.block _ (Array.getElem?_eq_some_iff.1 HG0.out).1).trans HG0.out
        have hgr3 := HGR2.out.trans (grown_of_below hbb (some p))
        have hP3 := HPAR.out.below hbb
        have hex3 := HEX2.out.below hbb
        have r0 : w3.cell? ⟨w1.heap.size, 0, none⟩ = some (.int .i64 op) := by rw [Lib.cell_of_heap hq3]; rfl
        have r1 : w3.cell? ⟨w1.heap.size, 1, none⟩ = some (.string (bs x)) := by rw [Lib.cell_of_heap hq3]; rfl
        have r2 : w3.cell? ⟨w1.heap.size, 2, none⟩ = some (.int .i64 k) := by rw [Lib.cell_of_heap hq3]; rfl
        have r3 : w3.cell? ⟨w1.heap.size, 3, none⟩ = some (.int .i64 v) := by rw [Lib.cell_of_heap hq3]; rfl
        have r4 : w3.cell? ⟨w1.heap.size, 4, none⟩ = some (.int .i64 0) := by rw [Lib.cell_of_heap hq3]; rfl
        have r5 : w3.cell? ⟨w1.heap.size, 5, none⟩ = some (.int .i64 0) := by rw [Lib.cell_of_heap hq3]; rfl
        have r6 : w3.cell? ⟨w1.heap.size, 6, none⟩ = some (.slice A n cap) := by rw [Lib.cell_of_heap hq3]; rfl
        have HG3 := Lib.hid hg3
        have HP3 := Lib.hid hP3
        have HGR3 := Lib.hid hgr3
        have HEX3 := Lib.hid hex3
        clear hbb hbb3 hq3 hg3 hgr3 hP3 hex3
        go_wp2_with (refine wpList_store_row rfl 155 (.tmp 4) (.tmp 41) rfl w.heap.size #[.int .i64 op, .string (bs x), .int .i64 k, .int .i64 v, .int .i64 0, .int .i64 0, .slice A n cap] rfl rfl 155 _ HG3.out (by kernel_rfl) rfl (by simp [Value.oneCell']) ?_)
        refine bodyPost_ret (results_cell_row Tryz.results211 _ _ (w.heap.size) 155 _ (0, 0) _ rfl (setRow_heap _ _ _ _ 155 _ HG3.out) Tryz.underlying155 rfl (by kernel_rfl)) rfl ⟨op, x, k, v, A, n, cap, rfl, ?_, HP3.out.setRow hBw, grown_setRow HGR3.out (Nat.le_refl _)⟩
        rw [← HSUM.out]
        exact (HEX3.out.setRow (by omega)).mono (by omega)
    | cons a rest1 =>
      cases rest1 with
      | nil => cases cs' <;> exact hpv.elim
      | cons b1 ts' =>
        cases cs' with
        | nil => exact hpv.elim
        | cons c cs1 =>
          obtain ⟨⟨ia, rfl⟩, ⟨ib, rfl⟩, hpv1⟩ := hpv
          have htl := hpv1.length
          have htl2 : ts'.length ≤ 900 := by simp at hcl; omega
          have HPV1 := Lib.hid hpv1
          clear hpv1 htl
          go_wp2_with fail
          go_region_law (first
            | (go_simp; go_at_call 263; refine Calls.mono (is_any B p _ 8 (levelRow 4) b 2 _ (HPAR.out.below (Below.refl _ _).drew) HRB2.out rfl (by decide)) ?_; rintro e w3 ⟨rfl, hbb3⟩))
          rw [plus_is]
          have hbb := below_then ((Below.refl _ _).drew) (Nat.le_refl _) hbb3
          have HB3 := Lib.hid hbb
          have hP3 := HPAR.out.below hbb
          have HP3 := Lib.hid hP3
          clear hbb hbb3 hP3
          go_wp2_with fail
          refine Calls.mono (pass_any B p _ _ _ HP3.out (by simp; omega)) ?_
          rintro e w4 ⟨rfl, hP4, hgr4⟩
          dsimp only
          simp only [Lx.val]
          have hfd := field_text 8 ia [43]
          have HP4 := Lib.hid hP4
          have HGR4 := Lib.hid hgr4
          clear hP4 hgr4
          go_wp2_with fail
          refine Calls.mono (opOf_any (bs [43]) _) ?_
          rintro e w5 ⟨rfl, hb5⟩
          rw [opV_plus]
          have hqp : w1.heap.size ≠ p := by omega
          have hg35 : w3.grownBy w5 (some p) := HGR4.out.trans (grown_of_below hb5 _)
          have hs3 := HB3.out.size
          have hs5 := hg35.size
          have hq5 : w5.heap[w1.heap.size]? = some (.cells #[.int .i64 op, .string (bs x), .int .i64 k, .int .i64 v, .int .i64 0, .int .i64 0, .slice A n cap] 155 (0, 0)) := (hg35.block _ (by omega) (fun e => hqp (Option.some.inj e))).trans ((HB3.out.block _ hqwr).trans HQ2.out)
          have hex5 : ExIs (w1.heap.size + 1) w5 e' [.int .i64 op, .string (bs x), .int .i64 k, .int .i64 v, .int .i64 0, .int .i64 0, .slice A n cap] := (HEX2.out.below HB3.out).kept fun k hk1 hk2 => hg35.block k hk2 (fun e => by have := Option.some.inj e; omega)
          have hP5 := HP4.out.below hb5
          have HEX5 := Lib.hid hex5
          have HP5 := Lib.hid hP5
          have HQ5 := Lib.hid hq5
          have HGR5 := Lib.hid ((HGR2.out.trans (grown_of_below HB3.out _)).trans hg35)
          have HK5 := Lib.hid (show ∀ k, k < W.heap.size → k ≠ p → k ≠ w1.heap.size → w5.heap[k]? = W.heap[k]? from fun k h1 h2 h3 => (hg35.block k (Nat.lt_of_lt_of_le (Nat.lt_of_lt_of_le h1 hsz) hs3) (fun e => h2 (Option.some.inj e))).trans ((HB3.out.block k (Nat.lt_of_lt_of_le h1 hsz)).trans (HKEEP.out k h1 h2 h3)))
          have r0 : w5.cell? ⟨w1.heap.size, 0, none⟩ = some (.int .i64 op) := by rw [Lib.cell_of_heap hq5]; rfl
          have r1 : w5.cell? ⟨w1.heap.size, 1, none⟩ = some (.string (bs x)) := by rw [Lib.cell_of_heap hq5]; rfl
          have r2 : w5.cell? ⟨w1.heap.size, 2, none⟩ = some (.int .i64 k) := by rw [Lib.cell_of_heap hq5]; rfl
          have r3 : w5.cell? ⟨w1.heap.size, 3, none⟩ = some (.int .i64 v) := by rw [Lib.cell_of_heap hq5]; rfl
          have r4 : w5.cell? ⟨w1.heap.size, 4, none⟩ = some (.int .i64 0) := by rw [Lib.cell_of_heap hq5]; rfl
          have r5 : w5.cell? ⟨w1.heap.size, 5, none⟩ = some (.int .i64 0) := by rw [Lib.cell_of_heap hq5]; rfl
          have r6 : w5.cell? ⟨w1.heap.size, 6, none⟩ = some (.slice A n cap) := by rw [Lib.cell_of_heap hq5]; rfl
          have HSUB := Lib.hid (expr_var5 B p c ib ts' HPV1.out.calm (by omega))
          clear hb5 hg35 hq5 hex5 hP5
          dsimp only
          go_wp2_with fail
          go_region_law (first
            | (go_simp; go_at_call 211; refine Calls.mono (HSUB.out _ (HP5.out.below (Below.refl _ _).drew)) ?_; rintro e w6 ⟨op2, x2, k2, v2, A2, n2, cap2, rfl, hex6, hP6, hgr6⟩
               have hq6 : w6.heap[w1.heap.size]? = some (.cells #[.int .i64 op, .string (bs x), .int .i64 k, .int .i64 v, .int .i64 0, .int .i64 0, .slice A n cap] 155 (0, 0)) := (hgr6.block _ (by show w1.heap.size < w5.heap.size; omega) (fun e => hqp (Option.some.inj e))).trans HQ5.out
               have s0 : w6.cell? ⟨w1.heap.size, 0, none⟩ = some (.int .i64 op) := by rw [Lib.cell_of_heap hq6]; rfl
               have s1 : w6.cell? ⟨w1.heap.size, 1, none⟩ = some (.string (bs x)) := by rw [Lib.cell_of_heap hq6]; rfl
               have s2 : w6.cell? ⟨w1.heap.size, 2, none⟩ = some (.int .i64 k) := by rw [Lib.cell_of_heap hq6]; rfl
               have s3 : w6.cell? ⟨w1.heap.size, 3, none⟩ = some (.int .i64 v) := by rw [Lib.cell_of_heap hq6]; rfl
               have s4 : w6.cell? ⟨w1.heap.size, 4, none⟩ = some (.int .i64 0) := by rw [Lib.cell_of_heap hq6]; rfl
               have s5 : w6.cell? ⟨w1.heap.size, 5, none⟩ = some (.int .i64 0) := by rw [Lib.cell_of_heap hq6]; rfl
               have s6 : w6.cell? ⟨w1.heap.size, 6, none⟩ = some (.slice A n cap) := by rw [Lib.cell_of_heap hq6]; rfl
               have HQ6 := Lib.hid hq6
               have HEX6 := Lib.hid hex6
               have HP6 := Lib.hid hP6
               have HGR6 := Lib.hid hgr6
               clear hq6 hex6 hP6 hgr6)
            | (go_simp; go_at_call 266; refine Calls.mono (kids_lit 9 _ 2 2 _) ?_; rintro e w7 ⟨rfl, hb7⟩
               have hs6 := HGR6.out.size
               have hq7 : w7.heap[w1.heap.size]? = some (.cells #[.int .i64 op, .string (bs x), .int .i64 k, .int .i64 v, .int .i64 0, .int .i64 0, .slice A n cap] 155 (0, 0)) := (hb7.block _ (by have h := hs6; simp at h ⊢; omega)).trans ((heap_alloc_old _ _ (by have h := hs6; simp at h; omega)).trans HQ6.out)
               have t0 : w7.cell? ⟨w1.heap.size, 0, none⟩ = some (.int .i64 op) := by rw [Lib.cell_of_heap hq7]; rfl
               have fz0 : w7.frozen? ⟨w1.heap.size, 0, none⟩ = false := by simp [World.frozen?, hq7]
               have t1 : w7.cell? ⟨w1.heap.size, 1, none⟩ = some (.string (bs x)) := by rw [Lib.cell_of_heap hq7]; rfl
               have fz1 : w7.frozen? ⟨w1.heap.size, 1, none⟩ = false := by simp [World.frozen?, hq7]
               have t2 : w7.cell? ⟨w1.heap.size, 2, none⟩ = some (.int .i64 k) := by rw [Lib.cell_of_heap hq7]; rfl
               have fz2 : w7.frozen? ⟨w1.heap.size, 2, none⟩ = false := by simp [World.frozen?, hq7]
               have t3 : w7.cell? ⟨w1.heap.size, 3, none⟩ = some (.int .i64 v) := by rw [Lib.cell_of_heap hq7]; rfl
               have fz3 : w7.frozen? ⟨w1.heap.size, 3, none⟩ = false := by simp [World.frozen?, hq7]
               have t4 : w7.cell? ⟨w1.heap.size, 4, none⟩ = some (.int .i64 0) := by rw [Lib.cell_of_heap hq7]; rfl
               have fz4 : w7.frozen? ⟨w1.heap.size, 4, none⟩ = false := by simp [World.frozen?, hq7]
               have t5 : w7.cell? ⟨w1.heap.size, 5, none⟩ = some (.int .i64 0) := by rw [Lib.cell_of_heap hq7]; rfl
               have fz5 : w7.frozen? ⟨w1.heap.size, 5, none⟩ = false := by simp [World.frozen?, hq7]
               have t6 : w7.cell? ⟨w1.heap.size, 6, none⟩ = some (.slice A n cap) := by rw [Lib.cell_of_heap hq7]; rfl
               have fz6 : w7.frozen? ⟨w1.heap.size, 6, none⟩ = false := by simp [World.frozen?, hq7]
               have HQ7 := Lib.hid hq7
               have HB7 := Lib.hid hb7
               clear hq7 hb7 hs6))
          all_goals
            have hset := set7 w1.heap.size _ _ _ _ _ _ _ (.int .i64 9) (.string ⟨#[]⟩) (.int .i64 0) (.int .i64 0) (.int .i64 0) (.int .i64 0) (.slice (some ⟨w6.heap.size, 0, none⟩) 2 2) HQ7.out
            have hround := sum_round hqp (by omega) (by omega) (by omega) (by omega) (by omega) HEX5.out HGR5.out HK5.out HGR6.out HP6.out HEX6.out HB7.out hset.1 hset.2.1 hset.2.2.1 hset.2.2.2
            have HRD := Lib.hid hround
            have hmeas := Nat.lt_of_le_of_lt (Nat.le_of_eq (leftToks_eq hround.2.1)) (show ts'.length < leftToks p wr by rw [leftToks_eq HPAR.out]; simp; omega)
            have hqf := hset.1
            go_roundw
            case rel =>
              refine ⟨_, _, _, _, _, _, _, _, _, _, _, _, _, _, _, _, _, _, _, _, _, _, _, ?_, rfl⟩
              exact ⟨ts', cs1, .add e' (.var c), 9, [], 0, 0, _, 2, 2, HPV1.out, HSUM.out, by simp at hcl; omega, hqf, HRD.out.1, HRD.out.2.1, HRD.out.2.2.1, HRD.out.2.2.2.1, HRD.out.2.2.2.2⟩
            case measure => exact hmeas
end Go.Proofs.YtaadhehcoegmhaaGreatDoor
/- The set of names that Names collects; its keys sorted. -/
namespace Go.Proofs.YtaadhehcoegmhaaGreatDoor
open Go Go.RowKit Go.Shelf

/-- The variables of an expression, from left to right. -/
def Ex.vars : Ex → List (List UInt8)
  | .num _ _ => []
  | .var t => [t]
  | .add a b => a.vars ++ b.vars

/-- A set of names whose entries are stamped. -/
structure NameSet (m : Nat) (ns : List (List UInt8)) (w : World) : Prop where
  out : ∃ es clock, w.heap[m]? = some (.map es clock) ∧ SetRows es.toList ns ∧ (∀ y ∈ es.toList, y.born < clock) ∧ (es.toList.map (·.born)).Nodup
theorem NameSet.grown {m : Nat} {ns : List (List UInt8)} {w w' : World} {row : Option Nat} (h : NameSet m ns w) (hg : w.grownBy w' row) (hr : some m ≠ row) : NameSet m ns w' := by
  obtain ⟨es, clock, hm, rest⟩ := h.out
  exact ⟨es, clock, (hg.block m (Array.getElem?_eq_some_iff.1 hm).1 hr).trans hm, rest⟩
theorem NameSet.below {m : Nat} {ns : List (List UInt8)} {w w' : World} (h : NameSet m ns w) (hb : Below w.heap.size w w') : NameSet m ns w' := h.grown (grown_of_below hb none) (by simp)
theorem NameSet.lt {m : Nat} {ns : List (List UInt8)} {w : World} (h : NameSet m ns w) : m < w.heap.size := by
  obtain ⟨es, clock, hm, _⟩ := h.out
  exact (Array.getElem?_eq_some_iff.1 hm).1
theorem nameSet_insert {m : Nat} {ns : List (List UInt8)} {w : World} (h : NameSet m ns w) (s : List UInt8) (hs : s ∉ ns) :
    ∃ W, (Instr.mapUpdate 168 (.map (some m)) (.string (bs s)) (.bool true)).run Tryz.prog w = .ok () W ∧ NameSet m (ns ++ [s]) W ∧ w.grownBy W (some m) ∧ W.heap.size = w.heap.size := by
  obtain ⟨es, clock, hm, hr, hb, hnd⟩ := h.out
  have hlt : m < w.heap.size := (Array.getElem?_eq_some_iff.1 hm).1
  refine ⟨_, run_insert_new Tryz.underlying168 Tryz.underlying9 hm hr (bs s) (rowAt_none s _ hs) (.bool true), ?_, grownBy_setIn _, by simp⟩
  refine ⟨es.push ⟨.string (bs s), .bool true, clock⟩, clock + 1, by simp [hlt], ?_, fun y hy => ?_, ?_⟩
  · unfold SetRows
    rw [Array.toList_push, List.map_append]
    exact KeyRows.snoc (x := ()) rfl hr
  · rw [Array.toList_push, List.mem_append] at hy
    rcases hy with hy | hy
    · have := hb y hy; omega
    · simp at hy; subst hy; simp
  · simp only [Array.toList_push, List.map_append, List.nodup_append, List.map_cons, List.map_nil]
    refine ⟨hnd, by simp, ?_⟩
    rintro a ha b hb' rfl
    obtain ⟨y, hy, rfl⟩ := List.mem_map.1 ha
    have := hb y hy
    simp at hb'
    omega

theorem setRows_mem : ∀ {es : List MapEntry} {ns : List (List UInt8)}, SetRows es ns → ∀ y ∈ es, ∃ s ∈ ns, y.key = .string (bs s) ∧ y.val = .bool true
  | [], [], _, y, hy => by simp at hy
  | [], _ :: _, h, _, _ => h.elim
  | _ :: _, [], h, _, _ => h.elim
  | e :: es, n :: ns, h, y, hy => by
    rcases List.mem_cons.1 hy with rfl | hy
    · exact ⟨n, by simp, h.1, h.2.1⟩
    · obtain ⟨s, h1, h2⟩ := setRows_mem (es := es) (ns := ns) h.2.2 y hy
      exact ⟨s, by simp [h1], h2⟩
theorem setRows_keys : ∀ {es : List MapEntry} {ns : List (List UInt8)}, SetRows es ns → es.map (·.key) = ns.map fun s => Value.string (bs s)
  | [], [], _ => rfl
  | [], _ :: _, h => h.elim
  | _ :: _, [], h => h.elim
  | e :: es, n :: ns, h => by
    simp only [List.map_cons]
    rw [h.1, setRows_keys (es := es) (ns := ns) h.2.2]
theorem setRows_length : ∀ {es : List MapEntry} {ns : List (List UInt8)}, SetRows es ns → es.length = ns.length
  | [], [], _ => rfl
  | [], _ :: _, h => h.elim
  | _ :: _, [], h => h.elim
  | e :: es, n :: ns, h => by simp [setRows_length (es := es) (ns := ns) h.2.2]

noncomputable abbrev plainB : Value → Option (DataW Unit × List MemPlace) := plainElem Tryz.prog 4
theorem rd_name (e : MapEntry) (s : List UInt8) (hs : s.length ≤ 1000) (hk : e.key = .string (bs s)) (hv : e.val = .bool true) : WideElems.rd Tryz.prog 9 plainB e = some (.string s, .lit (.bool true)) := by
  have h1 : keyOf Tryz.prog 9 (.string (bs s)) = some (.string s) := by
    have := WideMaps.keyOf_string_mk (P := Tryz.prog) Tryz.underlying9 (s := bs s) (by rw [bs_size]; simp [maxLen]; omega)
    simpa using this
  unfold WideElems.rd
  rw [hk, hv, h1]
  simp [plainB, plainElem_bool Tryz.underlying4]

/-- As the kit's laws have it. -/
theorem NameSet.owns {m : Nat} {ns : List (List UInt8)} {w : World} (h : NameSet m ns w) (hn : ns.Nodup) (hl : ns.length ≤ 1000) (hs : ∀ s ∈ ns, s.length ≤ 1000) :
    ∃ D : DataW Unit, w.ownsMap Tryz.prog 9 plainB m ns.length D ∧ Maps.size D = ns.length ∧ (strKeys D).Perm ns := by
  obtain ⟨es, clock, hm, hr, hb, hnd⟩ := h.out
  have hlen := setRows_length hr
  have hrg : es.toList.map (WideElems.rg Tryz.prog 9 plainB) = ns.map fun s => ((.string s, .lit (.bool true)) : Lit × DataW Unit) := by
    have : ∀ (l : List MapEntry) (k : List (List UInt8)), SetRows l k → (∀ s ∈ k, s.length ≤ 1000) → l.map (WideElems.rg Tryz.prog 9 plainB) = k.map fun s => ((.string s, .lit (.bool true)) : Lit × DataW Unit) := by
      intro l
      induction l with
      | nil => intro k hk _; cases k with
        | nil => rfl
        | cons _ _ => exact hk.elim
      | cons e l ih => intro k hk hs; cases k with
        | nil => exact hk.elim
        | cons n k =>
          simp only [List.map_cons]
          rw [ih k hk.2.2 (fun s hs' => hs s (by simp [hs'])), WideElems.rg, rd_name e n (hs n (by simp)) hk.1 hk.2.1]
          rfl
    exact this _ _ hr hs
  refine ⟨.map ((es.toList.map (WideElems.rg Tryz.prog 9 plainB)).foldr DataW.insert []), ⟨es, clock, hm, ⟨?_, ⟨hb, hnd, ?_⟩, ?_⟩, ?_, rfl⟩, ?_, ?_⟩
  · have : es.size = ns.length := by rw [← hlen]; simp
    rw [this]; simp [maxLen]; omega
  · rw [setRows_keys hr, List.nodup_iff_pairwise_ne, List.pairwise_map]
    refine List.Pairwise.imp ?_ (List.nodup_iff_pairwise_ne.1 hn)
    intro a b hab e
    simp at e
    exact hab e
  · intro x hx
    obtain ⟨s, h1, h2, h3⟩ := setRows_mem hr x hx
    exact ⟨_, rd_name x s (hs s h1) h2 h3⟩
  · have : es.size = ns.length := by rw [← hlen]; simp
    omega
  · rw [Maps.size_eq, (Go.WideShapes.sorted_perm _).length_eq, hrg]; simp
  · show (List.map _ _).Perm ns
    refine ((Go.WideShapes.sorted_perm _).map _).trans ?_
    rw [hrg, List.map_map]
    refine List.Perm.of_eq ?_
    conv => rhs; rw [← List.map_id ns]
    rfl
end Go.Proofs.YtaadhehcoegmhaaGreatDoor
/- Names: the closure that looks; Names of an expression. -/
namespace Go.Proofs.YtaadhehcoegmhaaGreatDoor
open Go Go.RowKit Go.Shelf

theorem ExIs.one {lo : Nat} {w : World} : ∀ {e : Ex} {cs : List Value}, ExIs lo w e cs → (cs.toArray : Array Value).all (·.oneCell') = true
  | .num _ _, _, h => by rw [h]; simp [leafCells, Value.oneCell']
  | .var _, _, h => by rw [h]; simp [leafCells, Value.oneCell']
  | .add a b, _, ⟨g, cap, ca, cb, h1, _⟩ => by rw [h1]; simp [leafCells, Value.oneCell']
theorem ExIs.seven {lo : Nat} {w : World} {e : Ex} {cs : List Value} (h : ExIs lo w e cs) : ∃ a0 a1 a2 a3 a4 a5 a6, cs = [a0, a1, a2, a3, a4, a5, a6] := by
  have hl := h.length
  match cs, hl with
  | [a0, a1, a2, a3, a4, a5, a6], _ => exact ⟨a0, a1, a2, a3, a4, a5, a6, rfl⟩

theorem ExIs.mapped {lo m : Nat} {w w' : World} {es : Array MapEntry} {clock : Nat} (hm : w.heap[m]? = some (.map es clock)) (hg : w.grownBy w' (some m)) : ∀ {e : Ex} {cs : List Value}, ExIs lo w e cs → ExIs lo w' e cs
  | .num _ _, _, h => h
  | .var _, _, h => h
  | .add _ _, _, ⟨g, cap, ca, cb, h1, h2, h6, h3, h4, h5⟩ => ⟨g, cap, ca, cb, h1, h2, h6, h3.mapped hm hg, h4.mapped hm hg, fun i v hv => cell_mapped hm hg (h5 i v hv)⟩
/-- What the closure finds: its map's cell, its own cell. -/
structure LookAt (mc fc m : Nat) (w : World) : Prop where
  map : w.heap[mc]? = some (.cells #[.map (some m)] 168 (0, 0))
  self : w.heap[fc]? = some (.cells #[.func (.func 217) #[] #[.pointer (some ⟨mc, 0, none⟩), .pointer (some ⟨fc, 0, none⟩)]] 304 (0, 0))
theorem LookAt.grown {mc fc m : Nat} {w w' : World} {row : Option Nat} (h : LookAt mc fc m w) (hg : w.grownBy w' row) (h1 : row ≠ some mc) (h2 : row ≠ some fc) : LookAt mc fc m w' :=
  ⟨(hg.block mc (Array.getElem?_eq_some_iff.1 h.map).1 (Ne.symm h1)).trans h.map, (hg.block fc (Array.getElem?_eq_some_iff.1 h.self).1 (Ne.symm h2)).trans h.self⟩
theorem LookAt.below {mc fc m : Nat} {w w' : World} (h : LookAt mc fc m w) (hb : Below w.heap.size w w') : LookAt mc fc m w' := h.grown (grown_of_below hb none) (by simp) (by simp)

/-- What the closure does at an expression. -/
def Looks (ex : Ex) : Prop := ∀ (lo mc fc m : Nat) (ns : List (List UInt8)) (cs : List Value) (w : World), ExIs lo w ex cs → LookAt mc fc m w → NameSet m ns w → (ns ++ ex.vars).Nodup →
  Calls Tryz.prog 217 #[.agg cs.toArray, .pointer (some ⟨mc, 0, none⟩), .pointer (some ⟨fc, 0, none⟩)] w fun e w' => e = .returned (.tuple #[]) ∧ NameSet m (ns ++ ex.vars) w' ∧ w.grownBy w' (some m)

set_option maxRecDepth 100000 in
set_option maxHeartbeats 2000000 in
theorem looks_num (k v : Int) : Looks (.num k v) := by
  intro lo mc fc m ns cs w he hla hns hnd
  obtain rfl : cs = _ := he
  have hb : Below w.heap.size w (w.alloc (.cells #[.int .i64 16, .string ⟨#[]⟩, .int .i64 k, .int .i64 v, .int .i64 0, .int .i64 0, .slice none 0 0] 155)) := (Below.refl _ _).alloc (Nat.le_refl _) _
  have HNS := Lib.hid (hns.below hb)
  have HB := Lib.hid hb
  clear hns hb hla hnd
  simp only [leafCells]
  go_enter Tryz.func217, Tryz.ntmps217
  go_wp2_with fail
  go_loopw [15] (fun v' wr => v' = .int .i64 0 ∧ wr = w.alloc (.cells #[.int .i64 16, .string ⟨#[]⟩, .int .i64 k, .int .i64 v, .int .i64 0, .int .i64 0, .slice none 0 0] 155)) (fun _ _ => 0)
  case atStart => exact ⟨rfl, rfl⟩
  case round =>
    obtain ⟨rfl, rfl⟩ := hrel
    go_wp2_with fail
    go_end0
    exact ⟨rfl, by simpa [Ex.vars] using HNS.out, grown_of_below HB.out _⟩

set_option maxRecDepth 100000 in
set_option maxHeartbeats 2000000 in
theorem looks_var (t : List UInt8) : Looks (.var t) := by
  intro lo mc fc m ns cs w he hla hns hnd
  obtain rfl : cs = _ := he
  have hb : Below w.heap.size w (w.alloc (.cells #[.int .i64 18, .string (bs t), .int .i64 0, .int .i64 0, .int .i64 0, .int .i64 0, .slice none 0 0] 155)) := (Below.refl _ _).alloc (Nat.le_refl _) _
  have hg0 := heap_alloc_new w (.cells #[.int .i64 18, .string (bs t), .int .i64 0, .int .i64 0, .int .i64 0, .int .i64 0, .slice none 0 0] 155)
  have hm0 : (w.alloc (.cells #[.int .i64 18, .string (bs t), .int .i64 0, .int .i64 0, .int .i64 0, .int .i64 0, .slice none 0 0] 155)).cell? ⟨mc, 0, none⟩ = some (.map (some m)) := by rw [Lib.cell_of_heap (hla.below hb).map]; rfl
  have hnot : t ∉ ns := by
    simp only [Ex.vars, List.nodup_append] at hnd
    intro h
    exact hnd.2.2 t h t (by simp) rfl
  obtain ⟨W1, hins, hns1, hg1, hs1⟩ := nameSet_insert (hns.below hb) t hnot
  have hmw := hns.lt
  have hq1 := (hg1.block w.heap.size (by simp) (fun e => by have := Option.some.inj e; omega)).trans hg0
  have s6 : W1.cell? ⟨w.heap.size, 6, none⟩ = some (.slice none 0 0) := by rw [Lib.cell_of_heap hq1]; rfl
  have HNS := Lib.hid hns1
  have HG := Lib.hid ((grown_of_below hb (some m)).trans hg1)
  clear hns hb hla hnd hns1 hg1 hs1 hq1 hg0 hnot
  simp only [leafCells]
  go_enter Tryz.func217, Tryz.ntmps217
  go_wp2_with fail
  go_loopw [15] (fun v' wr => v' = .int .i64 0 ∧ wr = W1) (fun _ _ => 0)
  case atStart => exact ⟨rfl, rfl⟩
  case round =>
    obtain ⟨rfl, rfl⟩ := hrel
    go_wp2_with fail
    go_end0
    exact ⟨rfl, HNS.out, HG.out⟩

set_option maxRecDepth 100000 in
set_option maxHeartbeats 4000000 in
theorem looks_add (a b : Ex) (iha : Looks a) (ihb : Looks b) : Looks (.add a b) := by
  intro lo mc fc m ns cs w he hla hns hnd
  obtain ⟨g, cap, ca, cb, rfl, hcap, hlg, hea, heb, hcells⟩ := he
  obtain ⟨a0, a1, a2, a3, a4, a5, a6, rfl⟩ := hea.seven
  obtain ⟨b0, b1, b2, b3, b4, b5, b6, rfl⟩ := heb.seven
  have hnda : (ns ++ a.vars).Nodup := by
    simp only [Ex.vars, ← List.append_assoc] at hnd
    exact (List.nodup_append.1 hnd).1
  have hndb : (ns ++ a.vars ++ b.vars).Nodup := by simpa only [Ex.vars, ← List.append_assoc] using hnd
  have hoa := hea.one
  have hob := heb.one
  have hb : Below w.heap.size w (w.alloc (.cells #[.int .i64 9, .string ⟨#[]⟩, .int .i64 0, .int .i64 0, .int .i64 0, .int .i64 0, .slice (some ⟨g, 0, none⟩) 2 cap] 155)) := (Below.refl _ _).alloc (Nat.le_refl _) _
  obtain ⟨W0, hW0⟩ : ∃ W, W = w.alloc (.cells #[.int .i64 9, .string ⟨#[]⟩, .int .i64 0, .int .i64 0, .int .i64 0, .int .i64 0, .slice (some ⟨g, 0, none⟩) 2 cap] 155) := ⟨_, rfl⟩
  have hgw : g < w.heap.size := at_lt (hcells 0 a0 rfl)
  have hgm : g ≠ m := by
    obtain ⟨es, clock, hm, _⟩ := hns.out
    rintro rfl
    have := hcells 0 a0 rfl
    simp [World.cell?, hm] at this
  have hmcm : mc ≠ m := by
    obtain ⟨es, clock, hm, _⟩ := hns.out
    rintro rfl
    have := hla.map
    rw [hm] at this; cases this
  have hfcm : fc ≠ m := by
    obtain ⟨es, clock, hm, _⟩ := hns.out
    rintro rfl
    have := hla.self
    rw [hm] at this; cases this
  have hmw := hns.lt
  have HEA := Lib.hid hea
  have HEB := Lib.hid heb
  have HC := Lib.hid hcells
  have HLA := Lib.hid hla
  have HNS := Lib.hid hns
  have HNA := Lib.hid hnda
  have HNB := Lib.hid hndb
  have HOA := Lib.hid hoa
  have HOB := Lib.hid hob
  have HIA := Lib.hid iha
  have HIB := Lib.hid ihb
  rw [← hW0] at hb
  have HB := Lib.hid hb
  have HN1 := Lib.hid hgm
  have HN2 := Lib.hid hmcm
  have HN3 := Lib.hid hfcm
  clear hea heb hcells hla hns hnd hnda hndb hoa hob iha ihb hb hgm hmcm hfcm
  simp only [leafCells]
  go_enter Tryz.func217, Tryz.ntmps217
  go_wp2_with fail
  rw [← hW0]
  clear hW0
  go_loopw [15] (fun v' wr => ∃ i : Nat, v' = .int .i64 i ∧ i ≤ 2 ∧ w.grownBy wr (some m) ∧ NameSet m (if i = 0 then ns else if i = 1 then ns ++ a.vars else ns ++ a.vars ++ b.vars) wr) (fun v' _ => 2 - (intOf v').toNat)
  case atStart => exact ⟨0, rfl, by omega, grown_of_below HB.out _, HNS.out.below HB.out⟩
  case round =>
    obtain ⟨i, rfl, hi, hgr, hset⟩ := hrel
    rename World => wr
    have hkc : ∀ j v, ([a0, a1, a2, a3, a4, a5, a6] ++ [b0, b1, b2, b3, b4, b5, b6])[j]? = some v → wr.cell? ⟨g, j, none⟩ = some v := fun j v hv =>
      (World.cell?_of_block (w := w) (a := ⟨g, j, none⟩) (hgr.block g hgw (fun e => HN1.out (Option.some.inj e)))).trans (HC.out j v hv)
    by_cases h0 : i = 0
    · subst h0
      rw [if_pos rfl] at hset
      have c0 := hkc 0 a0 rfl
      have c1 := hkc 1 a1 rfl
      have c2 := hkc 2 a2 rfl
      have c3 := hkc 3 a3 rfl
      have c4 := hkc 4 a4 rfl
      have c5 := hkc 5 a5 rfl
      have c6 := hkc 6 a6 rfl
      obtain ⟨hp1, hp2, hp3⟩ := put_new wr (leaf7 0 [] 0 0) #[a0, a1, a2, a3, a4, a5, a6] 155
      have HGA := Lib.hid (heap_alloc_new wr (.cells (leaf7 0 [] 0 0) 155))
      obtain ⟨W, hW⟩ : ∃ W, W = (wr.alloc (.cells (leaf7 0 [] 0 0) 155)).setRow wr.heap.size #[a0, a1, a2, a3, a4, a5, a6] := ⟨_, rfl⟩
      rw [← hW] at hp1 hp2 hp3
      have HW := Lib.hid hW
      have d0 : W.cell? ⟨wr.heap.size, 0, none⟩ = some a0 := by rw [Lib.cell_of_heap hp2]; rfl
      have d1 : W.cell? ⟨wr.heap.size, 1, none⟩ = some a1 := by rw [Lib.cell_of_heap hp2]; rfl
      have d2 : W.cell? ⟨wr.heap.size, 2, none⟩ = some a2 := by rw [Lib.cell_of_heap hp2]; rfl
      have d3 : W.cell? ⟨wr.heap.size, 3, none⟩ = some a3 := by rw [Lib.cell_of_heap hp2]; rfl
      have d4 : W.cell? ⟨wr.heap.size, 4, none⟩ = some a4 := by rw [Lib.cell_of_heap hp2]; rfl
      have d5 : W.cell? ⟨wr.heap.size, 5, none⟩ = some a5 := by rw [Lib.cell_of_heap hp2]; rfl
      have d6 : W.cell? ⟨wr.heap.size, 6, none⟩ = some a6 := by rw [Lib.cell_of_heap hp2]; rfl
      have hlaW := (HLA.out.grown hgr (fun e => HN2.out (Option.some.inj e).symm) (fun e => HN3.out (Option.some.inj e).symm)).below hp1
      have hfc : W.cell? ⟨fc, 0, none⟩ = some (.func (.func 217) #[] #[.pointer (some ⟨mc, 0, none⟩), .pointer (some ⟨fc, 0, none⟩)]) := by rw [Lib.cell_of_heap hlaW.self]; rfl
      have HGR := Lib.hid (hgr.trans (grown_of_below hp1 (some m)))
      have hm0 := HNS.out.out
      obtain ⟨es0, ck0, hm0, -⟩ := hm0
      have HCALL := Lib.hid (HIA.out lo mc fc m (ns) [a0, a1, a2, a3, a4, a5, a6] W ((HEA.out.mapped hm0 hgr).below hp1) hlaW (hset.below hp1) HNA.out)
      clear hp1 hp2 hp3 hW hkc hgr hset hlaW hm0
      go_wp2_with (refine wpList_store_row rfl 155 (.tmp 5) (.tmp 18) rfl wr.heap.size #[a0, a1, a2, a3, a4, a5, a6] rfl rfl 155 _ HGA.out (by kernel_rfl) rfl HOA.out ?_; rw [← HW.out])
      refine Calls.mono HCALL.out ?_
      rintro e w2 ⟨rfl, hset2, hg2⟩
      dsimp only
      have HS2 := Lib.hid hset2
      have HG2 := Lib.hid (HGR.out.trans hg2)
      clear hset2 hg2 c0 c1 c2 c3 c4 c5 c6 d0 d1 d2 d3 d4 d5 d6 hfc
      go_wp2_with fail
      go_roundw
      case rel => exact ⟨1, by go_num, by omega, HG2.out, by simpa using HS2.out⟩
      case measure => simp [intOf]
    by_cases h1 : i = 1
    · subst h1
      rw [if_neg (by decide), if_pos rfl] at hset
      have c0 := hkc 7 b0 rfl
      have c1 := hkc 8 b1 rfl
      have c2 := hkc 9 b2 rfl
      have c3 := hkc 10 b3 rfl
      have c4 := hkc 11 b4 rfl
      have c5 := hkc 12 b5 rfl
      have c6 := hkc 13 b6 rfl
      obtain ⟨hp1, hp2, hp3⟩ := put_new wr (leaf7 0 [] 0 0) #[b0, b1, b2, b3, b4, b5, b6] 155
      have HGA := Lib.hid (heap_alloc_new wr (.cells (leaf7 0 [] 0 0) 155))
      obtain ⟨W, hW⟩ : ∃ W, W = (wr.alloc (.cells (leaf7 0 [] 0 0) 155)).setRow wr.heap.size #[b0, b1, b2, b3, b4, b5, b6] := ⟨_, rfl⟩
      rw [← hW] at hp1 hp2 hp3
      have HW := Lib.hid hW
      have d0 : W.cell? ⟨wr.heap.size, 0, none⟩ = some b0 := by rw [Lib.cell_of_heap hp2]; rfl
      have d1 : W.cell? ⟨wr.heap.size, 1, none⟩ = some b1 := by rw [Lib.cell_of_heap hp2]; rfl
      have d2 : W.cell? ⟨wr.heap.size, 2, none⟩ = some b2 := by rw [Lib.cell_of_heap hp2]; rfl
      have d3 : W.cell? ⟨wr.heap.size, 3, none⟩ = some b3 := by rw [Lib.cell_of_heap hp2]; rfl
      have d4 : W.cell? ⟨wr.heap.size, 4, none⟩ = some b4 := by rw [Lib.cell_of_heap hp2]; rfl
      have d5 : W.cell? ⟨wr.heap.size, 5, none⟩ = some b5 := by rw [Lib.cell_of_heap hp2]; rfl
      have d6 : W.cell? ⟨wr.heap.size, 6, none⟩ = some b6 := by rw [Lib.cell_of_heap hp2]; rfl
      have hlaW := (HLA.out.grown hgr (fun e => HN2.out (Option.some.inj e).symm) (fun e => HN3.out (Option.some.inj e).symm)).below hp1
      have hfc : W.cell? ⟨fc, 0, none⟩ = some (.func (.func 217) #[] #[.pointer (some ⟨mc, 0, none⟩), .pointer (some ⟨fc, 0, none⟩)]) := by rw [Lib.cell_of_heap hlaW.self]; rfl
      have HGR := Lib.hid (hgr.trans (grown_of_below hp1 (some m)))
      have hm0 := HNS.out.out
      obtain ⟨es0, ck0, hm0, -⟩ := hm0
      have HCALL := Lib.hid (HIB.out lo mc fc m (ns ++ a.vars) [b0, b1, b2, b3, b4, b5, b6] W ((HEB.out.mapped hm0 hgr).below hp1) hlaW (hset.below hp1) HNB.out)
      clear hp1 hp2 hp3 hW hkc hgr hset hlaW hm0
      go_wp2_with (refine wpList_store_row rfl 155 (.tmp 5) (.tmp 18) rfl wr.heap.size #[b0, b1, b2, b3, b4, b5, b6] rfl rfl 155 _ HGA.out (by kernel_rfl) rfl HOB.out ?_; rw [← HW.out])
      refine Calls.mono HCALL.out ?_
      rintro e w2 ⟨rfl, hset2, hg2⟩
      dsimp only
      have HS2 := Lib.hid hset2
      have HG2 := Lib.hid (HGR.out.trans hg2)
      clear hset2 hg2 c0 c1 c2 c3 c4 c5 c6 d0 d1 d2 d3 d4 d5 d6 hfc
      go_wp2_with fail
      go_roundw
      case rel => exact ⟨2, by go_num, by omega, HG2.out, by simpa using HS2.out⟩
      case measure => simp [intOf]
    obtain rfl : i = 2 := by omega
    rw [if_neg (by decide), if_neg (by decide)] at hset
    have HS2 := Lib.hid hset
    have HG2 := Lib.hid hgr
    clear hset hgr hkc h0 h1
    go_wp2_with fail
    go_end0
    exact ⟨rfl, by simpa [Ex.vars] using HS2.out, HG2.out⟩

theorem looks_any : ∀ ex : Ex, Looks ex
  | .num k v => looks_num k v
  | .var t => looks_var t
  | .add a b => looks_add a b (looks_any a) (looks_any b)
end Go.Proofs.YtaadhehcoegmhaaGreatDoor
/- deep and size of expressions. -/
namespace Go.Proofs.YtaadhehcoegmhaaGreatDoor
open Go Go.RowKit

def Ex.deepN : Ex → Nat
  | .num _ _ => 1
  | .var _ => 1
  | .add a b => max a.deepN b.deepN + 1
def Ex.sizeN : Ex → Nat
  | .num _ _ => 1
  | .var _ => 1
  | .add a b => 1 + a.sizeN + b.sizeN
theorem Ex.deep_pos (e : Ex) : 1 ≤ e.deepN := by cases e <;> simp [Ex.deepN]
theorem Ex.size_pos (e : Ex) : 1 ≤ e.sizeN := by cases e <;> simp [Ex.sizeN] <;> omega

def DeepIs (ex : Ex) : Prop := ∀ (lo : Nat) (cs : List Value) (w : World), ExIs lo w ex cs → ex.deepN ≤ 1000 →
  Calls Tryz.prog 159 #[.agg cs.toArray] w fun e w' => e = .returned (.int .i64 ex.deepN) ∧ Below w.heap.size w w'
def SizeIs (ex : Ex) : Prop := ∀ (lo m : Nat) (cs : List Value) (w : World), ExIs lo w ex cs → ex.sizeN ≤ m → m ≤ 100000 →
  Calls Tryz.prog 160 #[.agg cs.toArray, .int .i64 m] w fun e w' => e = .returned (.int .i64 ex.sizeN) ∧ Below w.heap.size w w'

set_option maxRecDepth 100000 in
set_option maxHeartbeats 4000000 in
theorem deep_add (a b : Ex) (iha : DeepIs a) (ihb : DeepIs b) : DeepIs (.add a b) := by
  intro lo cs w he hd
  obtain ⟨g, cap, ca, cb, rfl, hcap, hlg, hea, heb, hcells⟩ := he
  obtain ⟨a0, a1, a2, a3, a4, a5, a6, rfl⟩ := hea.seven
  obtain ⟨b0, b1, b2, b3, b4, b5, b6, rfl⟩ := heb.seven
  have hda : 1 ≤ a.deepN ∧ a.deepN ≤ 1000 := ⟨a.deep_pos, by simp [Ex.deepN] at hd; omega⟩
  have hdb : 1 ≤ b.deepN ∧ b.deepN ≤ 1000 := ⟨b.deep_pos, by simp [Ex.deepN] at hd; omega⟩
  have HOA := Lib.hid hea.one
  have HOB := Lib.hid heb.one
  obtain ⟨da, hqa⟩ : ∃ d, d = a.deepN := ⟨_, rfl⟩
  obtain ⟨db, hqb⟩ : ∃ d, d = b.deepN := ⟨_, rfl⟩
  have HQA := Lib.hid hqa
  have HQB := Lib.hid hqb
  have h1a : 1 ≤ da := by rw [hqa]; exact hda.1
  have h2a : da ≤ 1000 := by rw [hqa]; exact hda.2
  have h1b : 1 ≤ db := by rw [hqb]; exact hdb.1
  have h2b : db ≤ 1000 := by rw [hqb]; exact hdb.2
  have HDA := Lib.hid hda
  have HDB := Lib.hid hdb
  have HRES := Lib.hid (show max da db + 1 = (Ex.add a b).deepN by simp [Ex.deepN, hqa, hqb])
  clear hda hdb hd
  obtain ⟨W0, hW0⟩ : ∃ W, W = w.alloc (.cells #[.int .i64 9, .string ⟨#[]⟩, .int .i64 0, .int .i64 0, .int .i64 0, .int .i64 0, .slice (some ⟨g, 0, none⟩) 2 cap] 155) := ⟨_, rfl⟩
  have hb : Below w.heap.size w W0 := by rw [hW0]; exact (Below.refl _ _).alloc (Nat.le_refl _) _
  have HEA := Lib.hid hea
  have HEB := Lib.hid heb
  have HC := Lib.hid hcells
  have HIA := Lib.hid iha
  have HIB := Lib.hid ihb
  have HB := Lib.hid hb
  clear hea heb hcells iha ihb hb hqa hqb
  simp only [leafCells]
  go_enter Tryz.func159, Tryz.ntmps159
  go_wp2_with fail
  rw [← hW0]
  clear hW0
  go_loopw [3, 9] (fun v3 v' wr => ∃ i d : Nat, v' = .int .i64 i ∧ v3 = .int .i64 d ∧ i ≤ 2 ∧ d = (if i = 0 then 0 else if i = 1 then da else max da db) ∧ Below w.heap.size w wr) (fun _ v' _ => 2 - (intOf v').toNat)
  case atStart => exact ⟨0, 0, rfl, rfl, by omega, rfl, HB.out⟩
  case round =>
    obtain ⟨i, d, rfl, rfl, hi, hd, hbr⟩ := hrel
    rename World => wr
    have hkc : ∀ j v, ([a0, a1, a2, a3, a4, a5, a6] ++ [b0, b1, b2, b3, b4, b5, b6])[j]? = some v → wr.cell? ⟨g, j, none⟩ = some v := fun j v hv => (hbr.cell (at_lt (HC.out j v hv))).trans (HC.out j v hv)
    by_cases h0 : i = 0
    · subst h0
      rw [if_pos rfl] at hd
      subst hd
      have c0 := hkc 0 a0 rfl
      have c1 := hkc 1 a1 rfl
      have c2 := hkc 2 a2 rfl
      have c3 := hkc 3 a3 rfl
      have c4 := hkc 4 a4 rfl
      have c5 := hkc 5 a5 rfl
      have c6 := hkc 6 a6 rfl
      obtain ⟨hp1, hp2, hp3⟩ := put_new wr (leaf7 0 [] 0 0) #[a0, a1, a2, a3, a4, a5, a6] 155
      have HGA := Lib.hid (heap_alloc_new wr (.cells (leaf7 0 [] 0 0) 155))
      obtain ⟨W, hW⟩ : ∃ W, W = (wr.alloc (.cells (leaf7 0 [] 0 0) 155)).setRow wr.heap.size #[a0, a1, a2, a3, a4, a5, a6] := ⟨_, rfl⟩
      rw [← hW] at hp1 hp2 hp3
      have HW := Lib.hid hW
      have d0 : W.cell? ⟨wr.heap.size, 0, none⟩ = some a0 := by rw [Lib.cell_of_heap hp2]; rfl
      have d1 : W.cell? ⟨wr.heap.size, 1, none⟩ = some a1 := by rw [Lib.cell_of_heap hp2]; rfl
      have d2 : W.cell? ⟨wr.heap.size, 2, none⟩ = some a2 := by rw [Lib.cell_of_heap hp2]; rfl
      have d3 : W.cell? ⟨wr.heap.size, 3, none⟩ = some a3 := by rw [Lib.cell_of_heap hp2]; rfl
      have d4 : W.cell? ⟨wr.heap.size, 4, none⟩ = some a4 := by rw [Lib.cell_of_heap hp2]; rfl
      have d5 : W.cell? ⟨wr.heap.size, 5, none⟩ = some a5 := by rw [Lib.cell_of_heap hp2]; rfl
      have d6 : W.cell? ⟨wr.heap.size, 6, none⟩ = some a6 := by rw [Lib.cell_of_heap hp2]; rfl
      have HBW := Lib.hid (below_then hbr hbr.size hp1)
      have HCALL := Lib.hid (HIA.out lo [a0, a1, a2, a3, a4, a5, a6] W ((HEA.out.below hbr).below hp1) HDA.out.2)
      clear hp1 hp2 hp3 hW hkc hbr
      go_wp2_with (refine wpList_store_row rfl 155 (.tmp 5) (.tmp 12) rfl wr.heap.size #[a0, a1, a2, a3, a4, a5, a6] rfl rfl 155 _ HGA.out (by kernel_rfl) rfl HOA.out ?_; rw [← HW.out])
      refine Calls.mono HCALL.out ?_
      rintro e w2 ⟨rfl, hb2⟩
      dsimp only
      have HB2 := Lib.hid (below_then HBW.out HBW.out.size hb2)
      clear hb2 c0 c1 c2 c3 c4 c5 c6 d0 d1 d2 d3 d4 d5 d6
      rw [← HQA.out]
      have hda0 : ((0 : Nat) : Int) < (da : Int) := by omega
      go_wp2_with fail
      go_roundw
      case rel => exact ⟨1, da, by go_num, by go_num, by omega, by simp, HB2.out⟩
      case measure => simp [intOf]
    by_cases h1 : i = 1
    · subst h1
      rw [if_neg (by decide), if_pos rfl] at hd
      subst hd
      have c0 := hkc 7 b0 rfl
      have c1 := hkc 8 b1 rfl
      have c2 := hkc 9 b2 rfl
      have c3 := hkc 10 b3 rfl
      have c4 := hkc 11 b4 rfl
      have c5 := hkc 12 b5 rfl
      have c6 := hkc 13 b6 rfl
      obtain ⟨hp1, hp2, hp3⟩ := put_new wr (leaf7 0 [] 0 0) #[b0, b1, b2, b3, b4, b5, b6] 155
      have HGA := Lib.hid (heap_alloc_new wr (.cells (leaf7 0 [] 0 0) 155))
      obtain ⟨W, hW⟩ : ∃ W, W = (wr.alloc (.cells (leaf7 0 [] 0 0) 155)).setRow wr.heap.size #[b0, b1, b2, b3, b4, b5, b6] := ⟨_, rfl⟩
      rw [← hW] at hp1 hp2 hp3
      have HW := Lib.hid hW
      have d0 : W.cell? ⟨wr.heap.size, 0, none⟩ = some b0 := by rw [Lib.cell_of_heap hp2]; rfl
      have d1 : W.cell? ⟨wr.heap.size, 1, none⟩ = some b1 := by rw [Lib.cell_of_heap hp2]; rfl
      have d2 : W.cell? ⟨wr.heap.size, 2, none⟩ = some b2 := by rw [Lib.cell_of_heap hp2]; rfl
      have d3 : W.cell? ⟨wr.heap.size, 3, none⟩ = some b3 := by rw [Lib.cell_of_heap hp2]; rfl
      have d4 : W.cell? ⟨wr.heap.size, 4, none⟩ = some b4 := by rw [Lib.cell_of_heap hp2]; rfl
      have d5 : W.cell? ⟨wr.heap.size, 5, none⟩ = some b5 := by rw [Lib.cell_of_heap hp2]; rfl
      have d6 : W.cell? ⟨wr.heap.size, 6, none⟩ = some b6 := by rw [Lib.cell_of_heap hp2]; rfl
      have HBW := Lib.hid (below_then hbr hbr.size hp1)
      have HCALL := Lib.hid (HIB.out lo [b0, b1, b2, b3, b4, b5, b6] W ((HEB.out.below hbr).below hp1) HDB.out.2)
      clear hp1 hp2 hp3 hW hkc hbr
      go_wp2_with (refine wpList_store_row rfl 155 (.tmp 5) (.tmp 12) rfl wr.heap.size #[b0, b1, b2, b3, b4, b5, b6] rfl rfl 155 _ HGA.out (by kernel_rfl) rfl HOB.out ?_; rw [← HW.out])
      refine Calls.mono HCALL.out ?_
      rintro e w2 ⟨rfl, hb2⟩
      dsimp only
      have HB2 := Lib.hid (below_then HBW.out HBW.out.size hb2)
      clear hb2 c0 c1 c2 c3 c4 c5 c6 d0 d1 d2 d3 d4 d5 d6
      rw [← HQB.out]
      go_wp2_with fail
      go_roundw
      case rel => exact ⟨2, max d db, by go_num, by go_num, by omega, by simp, HB2.out⟩
      case measure => simp [intOf]
    obtain rfl : i = 2 := by omega
    rw [if_neg (by decide), if_neg (by decide)] at hd
    subst hd
    have HBR := Lib.hid hbr
    clear hbr hkc h0 h1
    go_wp2_with fail
    go_ret
    exact ⟨by rw [← HRES.out]; go_num, HBR.out⟩

set_option maxRecDepth 100000 in
set_option maxHeartbeats 4000000 in
theorem size_add (a b : Ex) (iha : SizeIs a) (ihb : SizeIs b) : SizeIs (.add a b) := by
  intro lo m cs w he hd hm
  obtain ⟨g, cap, ca, cb, rfl, hcap, hlg, hea, heb, hcells⟩ := he
  obtain ⟨a0, a1, a2, a3, a4, a5, a6, rfl⟩ := hea.seven
  obtain ⟨b0, b1, b2, b3, b4, b5, b6, rfl⟩ := heb.seven
  have hsa : 1 ≤ a.sizeN := a.size_pos
  have hsb : 1 ≤ b.sizeN := b.size_pos
  have hab : 1 + a.sizeN + b.sizeN ≤ m := by simpa [Ex.sizeN] using hd
  have HOA := Lib.hid hea.one
  have HOB := Lib.hid heb.one
  obtain ⟨da, hqa⟩ : ∃ d, d = a.sizeN := ⟨_, rfl⟩
  obtain ⟨db, hqb⟩ : ∃ d, d = b.sizeN := ⟨_, rfl⟩
  have HQA := Lib.hid hqa
  have HQB := Lib.hid hqb
  have h1a : 1 ≤ da := by rw [hqa]; exact hsa
  have h1b : 1 ≤ db := by rw [hqb]; exact hsb
  have hdm : 1 + da + db ≤ m := by rw [hqa, hqb]; exact hab
  have HAB := Lib.hid hab
  have HRES := Lib.hid (show 1 + da + db = (Ex.add a b).sizeN by simp [Ex.sizeN, hqa, hqb])
  clear hsa hsb hab hd
  obtain ⟨W0, hW0⟩ : ∃ W, W = w.alloc (.cells #[.int .i64 9, .string ⟨#[]⟩, .int .i64 0, .int .i64 0, .int .i64 0, .int .i64 0, .slice (some ⟨g, 0, none⟩) 2 cap] 155) := ⟨_, rfl⟩
  have hb : Below w.heap.size w W0 := by rw [hW0]; exact (Below.refl _ _).alloc (Nat.le_refl _) _
  have HEA := Lib.hid hea
  have HEB := Lib.hid heb
  have HC := Lib.hid hcells
  have HIA := Lib.hid iha
  have HIB := Lib.hid ihb
  have HB := Lib.hid hb
  clear hea heb hcells iha ihb hb hqa hqb
  simp only [leafCells]
  go_enter Tryz.func160, Tryz.ntmps160
  go_wp2_with fail
  rw [← hW0]
  clear hW0
  go_loopw [5, 11] (fun v5 v' wr => ∃ i d : Nat, v' = .int .i64 i ∧ v5 = .int .i64 d ∧ i ≤ 2 ∧ d = (if i = 0 then 1 else if i = 1 then 1 + da else 1 + da + db) ∧ Below w.heap.size w wr) (fun _ v' _ => 2 - (intOf v').toNat)
  case atStart => exact ⟨0, 1, rfl, rfl, by omega, rfl, HB.out⟩
  case round =>
    obtain ⟨i, d, rfl, rfl, hi, hd, hbr⟩ := hrel
    rename World => wr
    have hkc : ∀ j v, ([a0, a1, a2, a3, a4, a5, a6] ++ [b0, b1, b2, b3, b4, b5, b6])[j]? = some v → wr.cell? ⟨g, j, none⟩ = some v := fun j v hv => (hbr.cell (at_lt (HC.out j v hv))).trans (HC.out j v hv)
    by_cases h0 : i = 0
    · subst h0
      rw [if_pos rfl] at hd
      subst hd
      have hm1 : (m : Int) - 1 = ((m - 1 : Nat) : Int) := by omega
      have HM1 := Lib.hid hm1
      have hlt1 : ¬ ((1 : Nat) : Int) > (m : Int) := by omega
      clear hm1
      have c0 := hkc 0 a0 rfl
      have c1 := hkc 1 a1 rfl
      have c2 := hkc 2 a2 rfl
      have c3 := hkc 3 a3 rfl
      have c4 := hkc 4 a4 rfl
      have c5 := hkc 5 a5 rfl
      have c6 := hkc 6 a6 rfl
      obtain ⟨hp1, hp2, hp3⟩ := put_new wr (leaf7 0 [] 0 0) #[a0, a1, a2, a3, a4, a5, a6] 155
      have HGA := Lib.hid (heap_alloc_new wr (.cells (leaf7 0 [] 0 0) 155))
      obtain ⟨W, hW⟩ : ∃ W, W = (wr.alloc (.cells (leaf7 0 [] 0 0) 155)).setRow wr.heap.size #[a0, a1, a2, a3, a4, a5, a6] := ⟨_, rfl⟩
      rw [← hW] at hp1 hp2 hp3
      have HW := Lib.hid hW
      have d0 : W.cell? ⟨wr.heap.size, 0, none⟩ = some a0 := by rw [Lib.cell_of_heap hp2]; rfl
      have d1 : W.cell? ⟨wr.heap.size, 1, none⟩ = some a1 := by rw [Lib.cell_of_heap hp2]; rfl
      have d2 : W.cell? ⟨wr.heap.size, 2, none⟩ = some a2 := by rw [Lib.cell_of_heap hp2]; rfl
      have d3 : W.cell? ⟨wr.heap.size, 3, none⟩ = some a3 := by rw [Lib.cell_of_heap hp2]; rfl
      have d4 : W.cell? ⟨wr.heap.size, 4, none⟩ = some a4 := by rw [Lib.cell_of_heap hp2]; rfl
      have d5 : W.cell? ⟨wr.heap.size, 5, none⟩ = some a5 := by rw [Lib.cell_of_heap hp2]; rfl
      have d6 : W.cell? ⟨wr.heap.size, 6, none⟩ = some a6 := by rw [Lib.cell_of_heap hp2]; rfl
      have HBW := Lib.hid (below_then hbr hbr.size hp1)
      have HCALL := Lib.hid (HIA.out lo (m - 1) [a0, a1, a2, a3, a4, a5, a6] W ((HEA.out.below hbr).below hp1) (by have := HAB.out; omega) (by omega))
      clear hp1 hp2 hp3 hW hkc hbr
      go_wp2_with (refine wpList_store_row rfl 155 (.tmp 7) (.tmp 14) rfl wr.heap.size #[a0, a1, a2, a3, a4, a5, a6] rfl rfl 155 _ HGA.out (by kernel_rfl) rfl HOA.out ?_; rw [← HW.out])
      rw [HM1.out]
      refine Calls.mono HCALL.out ?_
      rintro e w2 ⟨rfl, hb2⟩
      dsimp only
      have HB2 := Lib.hid (below_then HBW.out HBW.out.size hb2)
      clear hb2 c0 c1 c2 c3 c4 c5 c6 d0 d1 d2 d3 d4 d5 d6
      rw [← HQA.out]
      go_wp2_with fail
      go_roundw
      case rel => exact ⟨1, 1 + da, by go_num, by go_num, by omega, by simp, HB2.out⟩
      case measure => simp [intOf]
    by_cases h1 : i = 1
    · subst h1
      rw [if_neg (by decide), if_pos rfl] at hd
      subst hd
      have hm1 : (m : Int) - (1 + (da : Int)) = ((m - (1 + da) : Nat) : Int) := by omega
      have HM1 := Lib.hid hm1
      have hlt1 : ¬ ((1 + da : Nat) : Int) > (m : Int) := by omega
      clear hm1
      have c0 := hkc 7 b0 rfl
      have c1 := hkc 8 b1 rfl
      have c2 := hkc 9 b2 rfl
      have c3 := hkc 10 b3 rfl
      have c4 := hkc 11 b4 rfl
      have c5 := hkc 12 b5 rfl
      have c6 := hkc 13 b6 rfl
      obtain ⟨hp1, hp2, hp3⟩ := put_new wr (leaf7 0 [] 0 0) #[b0, b1, b2, b3, b4, b5, b6] 155
      have HGA := Lib.hid (heap_alloc_new wr (.cells (leaf7 0 [] 0 0) 155))
      obtain ⟨W, hW⟩ : ∃ W, W = (wr.alloc (.cells (leaf7 0 [] 0 0) 155)).setRow wr.heap.size #[b0, b1, b2, b3, b4, b5, b6] := ⟨_, rfl⟩
      rw [← hW] at hp1 hp2 hp3
      have HW := Lib.hid hW
      have d0 : W.cell? ⟨wr.heap.size, 0, none⟩ = some b0 := by rw [Lib.cell_of_heap hp2]; rfl
      have d1 : W.cell? ⟨wr.heap.size, 1, none⟩ = some b1 := by rw [Lib.cell_of_heap hp2]; rfl
      have d2 : W.cell? ⟨wr.heap.size, 2, none⟩ = some b2 := by rw [Lib.cell_of_heap hp2]; rfl
      have d3 : W.cell? ⟨wr.heap.size, 3, none⟩ = some b3 := by rw [Lib.cell_of_heap hp2]; rfl
      have d4 : W.cell? ⟨wr.heap.size, 4, none⟩ = some b4 := by rw [Lib.cell_of_heap hp2]; rfl
      have d5 : W.cell? ⟨wr.heap.size, 5, none⟩ = some b5 := by rw [Lib.cell_of_heap hp2]; rfl
      have d6 : W.cell? ⟨wr.heap.size, 6, none⟩ = some b6 := by rw [Lib.cell_of_heap hp2]; rfl
      have HBW := Lib.hid (below_then hbr hbr.size hp1)
      have HCALL := Lib.hid (HIB.out lo (m - (1 + da)) [b0, b1, b2, b3, b4, b5, b6] W ((HEB.out.below hbr).below hp1) (by have := HAB.out; have := HQA.out; omega) (by omega))
      clear hp1 hp2 hp3 hW hkc hbr
      go_wp2_with (refine wpList_store_row rfl 155 (.tmp 7) (.tmp 14) rfl wr.heap.size #[b0, b1, b2, b3, b4, b5, b6] rfl rfl 155 _ HGA.out (by kernel_rfl) rfl HOB.out ?_; rw [← HW.out])
      rw [HM1.out]
      refine Calls.mono HCALL.out ?_
      rintro e w2 ⟨rfl, hb2⟩
      dsimp only
      have HB2 := Lib.hid (below_then HBW.out HBW.out.size hb2)
      clear hb2 c0 c1 c2 c3 c4 c5 c6 d0 d1 d2 d3 d4 d5 d6
      rw [← HQB.out]
      go_wp2_with fail
      go_roundw
      case rel => exact ⟨2, 1 + da + db, by go_num, by go_num, by omega, by simp, HB2.out⟩
      case measure => simp [intOf]
    obtain rfl : i = 2 := by omega
    rw [if_neg (by decide), if_neg (by decide)] at hd
    subst hd
    have HBR := Lib.hid hbr
    clear hbr hkc h0 h1
    go_wp2_with fail
    go_ret
    exact ⟨by rw [← HRES.out]; rfl, HBR.out⟩

theorem deep_any : ∀ ex : Ex, DeepIs ex
  | .num k v => fun lo cs w he _ => by obtain rfl : cs = _ := he; exact deep_leaf 16 k v [] w
  | .var t => fun lo cs w he _ => by obtain rfl : cs = _ := he; exact deep_leaf 18 0 0 t w
  | .add a b => deep_add a b (deep_any a) (deep_any b)
theorem size_any : ∀ ex : Ex, SizeIs ex
  | .num k v => fun lo m cs w he _ _ => by obtain rfl : cs = _ := he; exact size_leaf 16 k v m [] w
  | .var t => fun lo m cs w he _ _ => by obtain rfl : cs = _ := he; exact size_leaf 18 0 0 m t w
  | .add a b => size_add a b (size_any a) (size_any b)
end Go.Proofs.YtaadhehcoegmhaaGreatDoor
/- right of expressions. -/
namespace Go.Proofs.YtaadhehcoegmhaaGreatDoor
open Go Go.RowKit

/-- right says yes of an expression. -/
def RightIs (ex : Ex) : Prop := ∀ (lo : Nat) (cs : List Value) (w : World), Env w → ExIs lo w ex cs →
  Calls Tryz.prog 212 #[.agg cs.toArray] w fun e w' => e = .returned (.bool true) ∧ Below w.heap.size w w'

set_option maxRecDepth 100000 in
set_option maxHeartbeats 1000000 in
theorem notRight (ex : Ex) (hr : RightIs ex) (lo : Nat) (a0 a1 a2 a3 a4 a5 a6 : Value) (w : World) (hE : Env w) (he : ExIs lo w ex [a0, a1, a2, a3, a4, a5, a6]) :
    Calls Tryz.prog 310 #[.agg #[a0, a1, a2, a3, a4, a5, a6]] w fun e w' => e = .returned (.bool false) ∧ Below w.heap.size w w' := by
  have hb : Below w.heap.size w (w.alloc (.cells #[a0, a1, a2, a3, a4, a5, a6] 155)) := (Below.refl _ _).alloc (Nat.le_refl _) _
  have HR := Lib.hid (hr lo _ _ (hE.below hb) (he.below hb))
  clear he
  go_enter Tryz.func310, Tryz.ntmps310
  go_wp2_with fail
  refine Calls.mono HR.out ?_
  rintro e w1 ⟨rfl, hb1⟩
  dsimp only
  go_wp2_with fail
  go_ret
  exact ⟨rfl, below_then hb hb.size hb1⟩

set_option maxRecDepth 100000 in
set_option maxHeartbeats 4000000 in
theorem indexFunc_two (a b : Ex) (ha : RightIs a) (hb : RightIs b) (lo g cap : Nat) (a0 a1 a2 a3 a4 a5 a6 b0 b1 b2 b3 b4 b5 b6 : Value) (w : World) (hE : Env w) (hea : ExIs lo w a [a0, a1, a2, a3, a4, a5, a6]) (heb : ExIs lo w b [b0, b1, b2, b3, b4, b5, b6])
    (hcells : ∀ i v, ([a0, a1, a2, a3, a4, a5, a6] ++ [b0, b1, b2, b3, b4, b5, b6])[i]? = some v → w.cell? ⟨g, i, none⟩ = some v) :
    Calls Tryz.prog 336 #[.slice (some ⟨g, 0, none⟩) 2 cap, .func (.func 310) #[] #[]] w fun e w' => e = .returned (.int .i64 (-1)) ∧ Below w.heap.size w w' := by
  have HA := Lib.hid ha
  have HB := Lib.hid hb
  have HEA := Lib.hid hea
  have HEB := Lib.hid heb
  have HC := Lib.hid hcells
  have HE := Lib.hid hE
  clear ha hb hea heb hcells hE
  go_enter Tryz.func336, Tryz.ntmps336
  go_wp2_with fail
  go_loopw [8] (fun v' wr => ∃ i : Nat, v' = .int .i64 i ∧ i ≤ 2 ∧ Below w.heap.size w wr) (fun v' _ => 2 - (intOf v').toNat)
  case atStart => exact ⟨0, rfl, by omega, Below.refl _ _⟩
  case round =>
    obtain ⟨i, rfl, hi, hbr⟩ := hrel
    rename World => wr
    have hkc : ∀ j v, ([a0, a1, a2, a3, a4, a5, a6] ++ [b0, b1, b2, b3, b4, b5, b6])[j]? = some v → wr.cell? ⟨g, j, none⟩ = some v := fun j v hv => (hbr.cell (at_lt (HC.out j v hv))).trans (HC.out j v hv)
    have HBR := Lib.hid hbr
    by_cases h0 : i = 0
    · subst h0
      have c0 := hkc 0 a0 rfl
      have c1 := hkc 1 a1 rfl
      have c2 := hkc 2 a2 rfl
      have c3 := hkc 3 a3 rfl
      have c4 := hkc 4 a4 rfl
      have c5 := hkc 5 a5 rfl
      have c6 := hkc 6 a6 rfl
      have HCALL := Lib.hid (notRight a HA.out lo _ _ _ _ _ _ _ wr (HE.out.below hbr) (HEA.out.below hbr))
      clear hkc hbr
      go_wp2_with fail
      refine Calls.mono HCALL.out ?_
      rintro e w2 ⟨rfl, hb2⟩
      dsimp only
      have HB2 := Lib.hid (below_then HBR.out HBR.out.size hb2)
      clear hb2 c0 c1 c2 c3 c4 c5 c6
      go_wp2_with fail
      go_roundw
      case rel => exact ⟨1, by go_num, by omega, HB2.out⟩
      case measure => simp [intOf]
    by_cases h1 : i = 1
    · subst h1
      have c0 := hkc 7 b0 rfl
      have c1 := hkc 8 b1 rfl
      have c2 := hkc 9 b2 rfl
      have c3 := hkc 10 b3 rfl
      have c4 := hkc 11 b4 rfl
      have c5 := hkc 12 b5 rfl
      have c6 := hkc 13 b6 rfl
      have HCALL := Lib.hid (notRight b HB.out lo _ _ _ _ _ _ _ wr (HE.out.below hbr) (HEB.out.below hbr))
      clear hkc hbr
      go_wp2_with fail
      refine Calls.mono HCALL.out ?_
      rintro e w2 ⟨rfl, hb2⟩
      dsimp only
      have HB2 := Lib.hid (below_then HBR.out HBR.out.size hb2)
      clear hb2 c0 c1 c2 c3 c4 c5 c6
      go_wp2_with fail
      go_roundw
      case rel => exact ⟨2, by go_num, by omega, HB2.out⟩
      case measure => simp [intOf]
    obtain rfl : i = 2 := by omega
    clear hkc hbr h0 h1
    go_wp2_with fail
    go_ret
    exact ⟨rfl, HBR.out⟩

set_option maxRecDepth 100000 in
set_option maxHeartbeats 4000000 in
theorem all_two (a b : Ex) (ha : RightIs a) (hb : RightIs b) (lo g cap : Nat) (a0 a1 a2 a3 a4 a5 a6 b0 b1 b2 b3 b4 b5 b6 : Value) (w : World) (hE : Env w) (hea : ExIs lo w a [a0, a1, a2, a3, a4, a5, a6]) (heb : ExIs lo w b [b0, b1, b2, b3, b4, b5, b6])
    (hcells : ∀ i v, ([a0, a1, a2, a3, a4, a5, a6] ++ [b0, b1, b2, b3, b4, b5, b6])[i]? = some v → w.cell? ⟨g, i, none⟩ = some v) :
    Calls Tryz.prog 268 #[.slice (some ⟨g, 0, none⟩) 2 cap] w fun e w' => e = .returned (.bool true) ∧ Below w.heap.size w w' := by
  have HI := Lib.hid (indexFunc_two a b ha hb lo g cap _ _ _ _ _ _ _ _ _ _ _ _ _ _ w hE hea heb hcells)
  have HCF : Calls Tryz.prog 307 #[.slice (some ⟨g, 0, none⟩) 2 cap, .func (.func 310) #[] #[]] w fun e w' => e = .returned (.bool false) ∧ Below w.heap.size w w' := by
    clear hcells hea heb
    go_enter Tryz.func307, Tryz.ntmps307
    go_wp2_with fail
    refine Calls.mono HI.out ?_
    rintro e w1 ⟨rfl, hb1⟩
    dsimp only
    have HB1 := Lib.hid hb1
    clear hb1
    go_wp2_with fail
    go_ret
    exact ⟨rfl, HB1.out⟩
  have HCF2 := Lib.hid HCF
  clear hcells hea heb HCF
  go_enter Tryz.func268, Tryz.ntmps268
  go_wp2_with fail
  refine Calls.mono HCF2.out ?_
  rintro e w1 ⟨rfl, hb1⟩
  dsimp only
  have HB1 := Lib.hid hb1
  clear hb1
  go_wp2_with fail
  go_ret
  exact ⟨rfl, HB1.out⟩

set_option maxRecDepth 100000 in
set_option maxHeartbeats 4000000 in
theorem right_add (a b : Ex) (ha : RightIs a) (hb : RightIs b) : RightIs (.add a b) := by
  intro lo cs w hE he
  obtain ⟨g, cap, ca, cb, rfl, hcap, hlg, hea, heb, hcells⟩ := he
  obtain ⟨a0, a1, a2, a3, a4, a5, a6, rfl⟩ := hea.seven
  obtain ⟨b0, b1, b2, b3, b4, b5, b6, rfl⟩ := heb.seven
  have hbl : Below w.heap.size w (w.alloc (.cells #[.int .i64 9, .string ⟨#[]⟩, .int .i64 0, .int .i64 0, .int .i64 0, .int .i64 0, .slice (some ⟨g, 0, none⟩) 2 cap] 155)) := (Below.refl _ _).alloc (Nat.le_refl _) _
  have HALL := Lib.hid (all_two a b ha hb lo g cap _ _ _ _ _ _ _ _ _ _ _ _ _ _ _ (hE.below hbl) (hea.below hbl) (heb.below hbl) (fun i v hv => (hbl.cell (at_lt (hcells i v hv))).trans (hcells i v hv)))
  have HBL := Lib.hid hbl
  clear hcells hea heb ha hb hbl
  simp only [leafCells]
  go_enter Tryz.func212, Tryz.ntmps212
  go_wp2_with fail
  refine Calls.mono HALL.out ?_
  rintro e w1 ⟨rfl, hb1⟩
  dsimp only
  have HB1 := Lib.hid (below_then HBL.out HBL.out.size hb1)
  clear hb1
  go_wp2_with fail
  go_ret
  exact ⟨rfl, HB1.out⟩
end Go.Proofs.YtaadhehcoegmhaaGreatDoor
/- The code of expressions. -/
namespace Go.Proofs.YtaadhehcoegmhaaGreatDoor
open Go Go.RowKit

/-- An instruction's cells, with its op. -/
abbrev ins13o (kd o vk k v : Int) (x : List UInt8) : Array Value := #[.int .i64 kd, .int .i64 o, .int .i64 0, .int .i64 vk, .slice none 0 0, .int .i64 k, .int .i64 v, .string ⟨#[]⟩, .bool false, .string (bs x), .int .i64 0, .nilFunc, .slice none 0 0]

set_option maxRecDepth 100000 in
set_option maxHeartbeats 4000000 in
theorem codeAddO_any (B c n : Nat) (kd o vk k v : Int) (x : List UInt8) (w : World) (h : CodeAt B c n w) (hn : n ≤ 1000) (hB : B ≤ w.heap.size) :
    Calls Tryz.prog 273 #[.pointer (some ⟨c, 0, none⟩), .agg (ins13o kd o vk k v x)] w fun e w' => e = .returned (.int .i64 n) ∧ CodeAt B c (n + 1) w' ∧ Below B w w' ∧ OthersT w w' := by
  obtain ⟨i0, hi, hz0, hz1, hz2⟩ := info_parts info358z
  obtain ⟨⟨lv, xs, hc, hown⟩, hBc⟩ := h
  have hlt : c < w.heap.size := (Array.getElem?_eq_some_iff.1 hc).1
  have hsz := hown.1
  obtain ⟨W0, hW0⟩ : ∃ W0, W0 = w.alloc (.cells (ins13o kd o vk k v x) 358) := ⟨_, rfl⟩
  have hc0 : W0.heap[c]? = some (.cells #[lv] 302 (0, 0)) := by rw [hW0]; exact (heap_alloc_old w _ hlt).trans hc
  have hown0 : W0.ownsRow B 358 13 lv n xs := by rw [hW0]; exact hown.alloc _
  have hs0 : W0.heap.size = w.heap.size + 1 := by rw [hW0]; simp
  have hb0 : Below B w W0 := by rw [hW0]; exact (Below.refl _ _).alloc hB _
  have hbox : W0.heap[w.heap.size]? = some (.cells (ins13o kd o vk k v x) 358 (0, 0)) := by rw [hW0]; exact heap_alloc_new w _
  have c0 : W0.cell? ⟨c, 0, none⟩ = some lv := by rw [Lib.cell_of_heap hc0]; rfl
  have c0' := cell_alloc c0 (.cells (ins13o kd o vk k v x) 358)
  have HC := Lib.hid hc0
  have HO := Lib.hid hown0
  have HW := Lib.hid hW0
  have HB0 := Lib.hid hb0
  have hot : OthersT w W0 := by rw [hW0]; exact OthersT.of_below ((Below.refl _ _).alloc (Nat.le_refl _) _)
  have HOT := Lib.hid hot
  clear hot
  have HBX := Lib.hid hbox
  have HS0 := Lib.hid hs0
  have hbc := fun i => Lib.cell_of_heap (w := W0) hbox i
  have b0 : W0.cell? ⟨w.heap.size, 0, none⟩ = some (.int .i64 kd) := by rw [hbc]; rfl
  have b1 : W0.cell? ⟨w.heap.size, 1, none⟩ = some (.int .i64 o) := by rw [hbc]; rfl
  have b2 : W0.cell? ⟨w.heap.size, 2, none⟩ = some (.int .i64 0) := by rw [hbc]; rfl
  have b3 : W0.cell? ⟨w.heap.size, 3, none⟩ = some (.int .i64 vk) := by rw [hbc]; rfl
  have b4 : W0.cell? ⟨w.heap.size, 4, none⟩ = some (.slice none 0 0) := by rw [hbc]; rfl
  have b5 : W0.cell? ⟨w.heap.size, 5, none⟩ = some (.int .i64 k) := by rw [hbc]; rfl
  have b6 : W0.cell? ⟨w.heap.size, 6, none⟩ = some (.int .i64 v) := by rw [hbc]; rfl
  have b7 : W0.cell? ⟨w.heap.size, 7, none⟩ = some (.string ⟨#[]⟩) := by rw [hbc]; rfl
  have b8 : W0.cell? ⟨w.heap.size, 8, none⟩ = some (.bool false) := by rw [hbc]; rfl
  have b9 : W0.cell? ⟨w.heap.size, 9, none⟩ = some (.string (bs x)) := by rw [hbc]; rfl
  have b10 : W0.cell? ⟨w.heap.size, 10, none⟩ = some (.int .i64 0) := by rw [hbc]; rfl
  have b11 : W0.cell? ⟨w.heap.size, 11, none⟩ = some .nilFunc := by rw [hbc]; rfl
  have b12 : W0.cell? ⟨w.heap.size, 12, none⟩ = some (.slice none 0 0) := by rw [hbc]; rfl
  clear hc hown hc0 hown0 hb0 hbox hbc hs0
  go_enter Tryz.func273, Tryz.ntmps273
  go_wp2_with fail
  rw [← hW0]
  clear hW0
  go_region_law (first
    | (refine step_append_lies _ (by rfl) _ _ _ (by rfl) B 358 i0 _ 13 152 Tryz.underlying300 hi hz0 hz1 hz2 rfl (by omega) lv n xs (by rfl) ((HO.out.alloc _).drew)
            ⟨W0.heap.size, 0, none⟩ 1 1 (ins13o kd o vk k v x).toList (by rfl) (by rfl) (World.news_of_block (cs := ins13o kd o vk k v x) (t := 358) (fr := (0, 0)) (heap_alloc_new W0 _)) (by simp [Value.oneCell'])
            (by omega) (by simp [maxLen]; omega) (by omega) (by have := HS0.out; simp; omega) (W0.heap.size + 1) (by simp) ?_; intro gg cap w2 hown1 hgrow hat hlt2; have hg2 : w2.heap[c]? = some (.cells #[lv] 302 (0, 0)) := (hgrow.block c (by have := HS0.out; simp; omega) (own_ne HO.out HC.out (by decide))).trans ((heap_alloc_old W0 _ (by have := HS0.out; omega)).trans HC.out); have d2 : w2.cell? ⟨c, 0, none⟩ = some lv := by rw [Lib.cell_of_heap hg2]; rfl
       have f2 : w2.frozen? ⟨c, 0, none⟩ = false := by simp [World.frozen?, hg2]))
  all_goals
    have hs0 := HS0.out
    have hbelA : Below B w w2 := below_grown ((HB0.out.alloc (by omega) _).drew) (by simp; omega) (fun k hk => (HO.out.lt k hk).1) hgrow
    have hgW := setCell_row hg2 (i := 0) (.slice (some ⟨gg, 0, none⟩) (n + 1) cap)
    have hownW : (w2.setCell ⟨c, 0, none⟩ (.slice (some ⟨gg, 0, none⟩) (n + 1) cap)).ownsRow B 358 13 (.slice (some ⟨gg, 0, none⟩) (n + 1) cap) (n + 1) (xs ++ (ins13o kd o vk k v x).toList) :=
      hown1.kept (grown_setCell (c := c) (i := 0) (v := .slice (some ⟨gg, 0, none⟩) (n + 1) cap) (⟨rfl, rfl, rfl, Nat.le_refl _, fun _ _ _ => rfl⟩ : w2.grownBy w2 (some c))) (.inr (Ne.symm (own_ne hown1 hg2 (by decide))))
    have hoW : OthersT w (w2.setCell ⟨c, 0, none⟩ (.slice (some ⟨gg, 0, none⟩) (n + 1) cap)) := HOT.out.trans (fun i y t fr h1 h2 h3 => by
      have hi := (Array.getElem?_eq_some_iff.1 h1).1
      have hic : i ≠ c := fun e => by rw [e, HC.out] at h1; cases h1; exact h2 rfl
      rw [Below.heap_setCell _ _ _ _ hic]
      exact (hgrow.block i (by simp; omega) (own_ne HO.out h1 (Ne.symm h3))).trans ((heap_alloc_old W0 _ hi).trans h1))
    have hbelW := hbelA.setCell (p := ⟨c, 0, none⟩) hBc (.slice (some ⟨gg, 0, none⟩) (n + 1) cap)
    have e0 : (w2.setCell ⟨c, 0, none⟩ (.slice (some ⟨gg, 0, none⟩) (n + 1) cap)).cell? ⟨c, 0, none⟩ = some (.slice (some ⟨gg, 0, none⟩) (n + 1) cap) := by rw [Lib.cell_of_heap hgW]; rfl
    generalize w2.setCell ⟨c, 0, none⟩ (.slice (some ⟨gg, 0, none⟩) (n + 1) cap) = W at *
    have hcode : CodeAt B c (n + 1) W := ⟨⟨_, _, hgW, hownW⟩, hBc⟩
    have HCODE := Lib.hid hcode
    have HBELW := Lib.hid hbelW
    have HOW := Lib.hid hoW
    clear hg2 d2 f2 hgrow hat hlt2 hown1 hbelA hgW hownW hbelW hcode hoW
    go_wp2_with fail
    go_ret
    exact ⟨rfl, HCODE.out, HBELW.out, HOW.out⟩

/-- How many instructions an expression makes. -/
def Ex.codeN : Ex → Nat
  | .num _ _ => 2
  | .var _ => 2
  | .add a b => 1 + a.codeN + b.codeN + 1
/-- expr's code of an expression whose rows lie below B. -/
def CodeEx (ex : Ex) : Prop := ∀ (B c n lo : Nat) (cp : Value) (cs : List Value) (w0 w : World), CodeAt B c n w → n + ex.codeN ≤ 1000 → B ≤ w.heap.size → w0.heap.size ≤ B → ExIs lo w0 ex cs → (∀ k, k < w0.heap.size → w.heap[k]? = w0.heap[k]?) →
    Calls Tryz.prog 213 #[cp, .pointer (some ⟨c, 0, none⟩), .agg cs.toArray] w fun e w' => e = .returned (.tuple #[]) ∧ CodeAt B c (n + ex.codeN) w' ∧ Below B w w' ∧ OthersT w w'

set_option maxRecDepth 100000 in
set_option maxHeartbeats 4000000 in
theorem codeEx_var (t : List UInt8) : CodeEx (.var t) := by
  intro B c n lo cp cs w0 w h hn hB hw0 he hk
  obtain rfl : cs = _ := he
  have hn2 : n + 2 ≤ 1000 := hn
  clear hw0 hk hn
  simp only [leafCells]
  obtain ⟨x, rfl⟩ : ∃ x, x = t := ⟨_, rfl⟩
  have hg := heap_alloc_new w (.cells (leaf7 18 x 0 0) 155)
  have hb : Below B w (w.alloc (.cells (leaf7 18 x 0 0) 155)) := (Below.refl _ _).alloc hB _
  have hoA : OthersT w (w.alloc (.cells (leaf7 18 x 0 0) 155)) := OthersT.of_below ((Below.refl _ _).alloc (Nat.le_refl _) _)
  have hC0 := Lib.hid (h.below ((Below.refl _ _).alloc (Nat.le_refl _) (.cells (leaf7 18 x 0 0) 155)))
  have hcw : c < w.heap.size := by obtain ⟨⟨lv, xs, h1, _⟩, _⟩ := h; exact (Array.getElem?_eq_some_iff.1 h1).1
  clear h
  go_enter Tryz.func213, Tryz.ntmps213
  go_wp2_with fail
  refine Calls.mono (codeAdd_any B c n 0 0 0 0 [] _ hC0.out (by omega) (by simp; omega)) ?_
  rintro e w1 ⟨rfl, hC1, hb1, ho1⟩
  dsimp only
  have hq1 := ho1 _ _ _ _ hg (by decide) (by decide)
  have s0 : w1.cell? ⟨w.heap.size, 0, none⟩ = some (.int .i64 18) := by rw [Lib.cell_of_heap hq1]; rfl
  have s1 : w1.cell? ⟨w.heap.size, 1, none⟩ = some (.string (bs x)) := by rw [Lib.cell_of_heap hq1]; rfl
  have HC1 := Lib.hid hC1
  have hs1 := hb1.size
  simp at hs1
  have hbw := hb.trans hb1
  have HBW := Lib.hid hbw
  have HO1 := Lib.hid (hoA.trans ho1)
  clear hC1 hb1 ho1 hg hb hq1 hbw hoA
  go_wp2_with fail
  refine Calls.mono (codeAdd_any B c (n + 1) 2 0 0 0 x _ HC1.out (by omega) (by omega)) ?_
  rintro e w2 ⟨rfl, hC2, hb2, ho2⟩
  dsimp only
  have HC2 := Lib.hid hC2
  have HB2 := Lib.hid hb2
  have HO2 := Lib.hid ho2
  clear hC2 hb2 ho2
  go_wp2_with fail
  go_end0
  exact ⟨rfl, HC2.out, HBW.out.trans HB2.out, HO1.out.trans HO2.out⟩

set_option maxRecDepth 100000 in
set_option maxHeartbeats 4000000 in
theorem codeEx_num (k v : Int) : CodeEx (.num k v) := by
  intro B c n lo cp cs w0 w h hn hB hw0 he hk
  obtain rfl : cs = _ := he
  have hn2 : n + 2 ≤ 1000 := hn
  clear hw0 hk hn
  simp only [leafCells]
  have hg := heap_alloc_new w (.cells (leaf7 16 [] k v) 155)
  have hb : Below B w (w.alloc (.cells (leaf7 16 [] k v) 155)) := (Below.refl _ _).alloc hB _
  have hoA : OthersT w (w.alloc (.cells (leaf7 16 [] k v) 155)) := OthersT.of_below ((Below.refl _ _).alloc (Nat.le_refl _) _)
  have hC0 := Lib.hid (h.below ((Below.refl _ _).alloc (Nat.le_refl _) (.cells (leaf7 16 [] k v) 155)))
  have hcw : c < w.heap.size := by obtain ⟨⟨lv, xs, h1, _⟩, _⟩ := h; exact (Array.getElem?_eq_some_iff.1 h1).1
  clear h
  go_enter Tryz.func213, Tryz.ntmps213
  go_wp2_with fail
  refine Calls.mono (codeAdd_any B c n 0 0 0 0 [] _ hC0.out (by omega) (by simp; omega)) ?_
  rintro e w1 ⟨rfl, hC1, hb1, ho1⟩
  dsimp only
  have hq1 := ho1 _ _ _ _ hg (by decide) (by decide)
  have s0 : w1.cell? ⟨w.heap.size, 0, none⟩ = some (.int .i64 16) := by rw [Lib.cell_of_heap hq1]; rfl
  have s2 : w1.cell? ⟨w.heap.size, 2, none⟩ = some (.int .i64 k) := by rw [Lib.cell_of_heap hq1]; rfl
  have s3 : w1.cell? ⟨w.heap.size, 3, none⟩ = some (.int .i64 v) := by rw [Lib.cell_of_heap hq1]; rfl
  have HC1 := Lib.hid hC1
  have hs1 := hb1.size
  simp at hs1
  have hbw := hb.trans hb1
  have HBW := Lib.hid hbw
  have HO1 := Lib.hid (hoA.trans ho1)
  clear hC1 hb1 ho1 hg hb hq1 hbw hoA
  go_wp2_with fail
  refine Calls.mono (codeAdd_any B c (n + 1) 1 1 k v [] _ HC1.out (by omega) (by omega)) ?_
  rintro e w2 ⟨rfl, hC2, hb2, ho2⟩
  dsimp only
  have HC2 := Lib.hid hC2
  have HB2 := Lib.hid hb2
  have HO2 := Lib.hid ho2
  clear hC2 hb2 ho2
  go_wp2_with fail
  go_end0
  exact ⟨rfl, HC2.out, HBW.out.trans HB2.out, HO1.out.trans HO2.out⟩

set_option maxRecDepth 100000 in
set_option maxHeartbeats 8000000 in
theorem codeEx_add (a b : Ex) (iha : CodeEx a) (ihb : CodeEx b) : CodeEx (.add a b) := by
  intro B c n lo cp cs w0 w h hn hB hw0 he hk
  obtain ⟨g, cap, ca, cb, rfl, hcap, hlg, hea, heb, hcells⟩ := he
  obtain ⟨a0, a1, a2, a3, a4, a5, a6, rfl⟩ := hea.seven
  obtain ⟨b0, b1, b2, b3, b4, b5, b6, rfl⟩ := heb.seven
  have hna : n + 1 + a.codeN + b.codeN + 1 ≤ 1000 := by simp only [Ex.codeN] at hn; omega
  obtain ⟨na, hqa⟩ : ∃ m, m = a.codeN := ⟨_, rfl⟩
  obtain ⟨nb, hqb⟩ : ∃ m, m = b.codeN := ⟨_, rfl⟩
  rw [← hqa, ← hqb] at hna
  have HQA := Lib.hid hqa
  have HQB := Lib.hid hqb
  have HEQ := Lib.hid (show n + 1 + na + nb + 1 = n + (Ex.add a b).codeN by simp only [Ex.codeN]; omega)
  obtain ⟨W0, hW0⟩ : ∃ W, W = w.alloc (.cells #[.int .i64 9, .string ⟨#[]⟩, .int .i64 0, .int .i64 0, .int .i64 0, .int .i64 0, .slice (some ⟨g, 0, none⟩) 2 cap] 155) := ⟨_, rfl⟩
  have hb0' : Below w.heap.size w W0 := by rw [hW0]; exact (Below.refl _ _).alloc (Nat.le_refl _) _
  have hbx : W0.heap[w.heap.size]? = some (.cells #[.int .i64 9, .string ⟨#[]⟩, .int .i64 0, .int .i64 0, .int .i64 0, .int .i64 0, .slice (some ⟨g, 0, none⟩) 2 cap] 155 (0, 0)) := by rw [hW0]; exact heap_alloc_new w _
  have hg : g < w0.heap.size := at_lt (hcells 0 a0 rfl)
  have HC0 := Lib.hid (h.below hb0')
  have HBX := Lib.hid hbx
  have hB0 : B ≤ W0.heap.size := by have := hb0'.size; omega
  have HB0 := Lib.hid (show Below B w W0 by rw [hW0]; exact (Below.refl _ _).alloc hB _)
  have HOT0 := Lib.hid (OthersT.of_below hb0')
  have HEA := Lib.hid hea
  have HEB := Lib.hid heb
  have HC := Lib.hid hcells
  have HK := Lib.hid (show ∀ k, k < w0.heap.size → W0.heap[k]? = w0.heap[k]? from fun k h1 => (hb0'.block k (by omega)).trans (hk k h1))
  have HIA := Lib.hid iha
  have HIB := Lib.hid ihb
  have hrow : ∀ W : World, Below B W0 W → (∀ k, k < w0.heap.size → W.heap[k]? = w0.heap[k]?) := fun W hb k h1 => (hb.block k (by omega)).trans (HK.out k h1)
  have HROW := Lib.hid hrow
  clear h hn hbx hea heb hcells hk iha ihb hqa hqb hb0' hrow
  simp only [leafCells]
  go_enter Tryz.func213, Tryz.ntmps213
  go_wp2_with fail
  rw [← hW0]
  clear hW0
  refine Calls.mono (codeAdd_any B c n 0 0 0 0 [] _ HC0.out (by omega) hB0) ?_
  rintro e w1 ⟨rfl, hC1, hb1, ho1⟩
  dsimp only
  have hq1 := ho1 _ _ _ _ HBX.out (by decide) (by decide)
  have s0 : w1.cell? ⟨w.heap.size, 0, none⟩ = some (.int .i64 9) := by rw [Lib.cell_of_heap hq1]; rfl
  have s6 : w1.cell? ⟨w.heap.size, 6, none⟩ = some (.slice (some ⟨g, 0, none⟩) 2 cap) := by rw [Lib.cell_of_heap hq1]; rfl
  have hk1 := HROW.out _ hb1
  have hkc : ∀ j v, ([a0, a1, a2, a3, a4, a5, a6] ++ [b0, b1, b2, b3, b4, b5, b6])[j]? = some v → w1.cell? ⟨g, j, none⟩ = some v := fun j v hv => (World.cell?_of_block (w := w0) (a := ⟨g, j, none⟩) (hk1 g hg)).trans (HC.out j v hv)
  have c0 := hkc 0 a0 rfl
  have c1 := hkc 1 a1 rfl
  have c2 := hkc 2 a2 rfl
  have c3 := hkc 3 a3 rfl
  have c4 := hkc 4 a4 rfl
  have c5 := hkc 5 a5 rfl
  have c6 := hkc 6 a6 rfl
  have HC1 := Lib.hid hC1
  have HB1 := Lib.hid hb1
  have HO1 := Lib.hid ho1
  have HQ1 := Lib.hid hq1
  have hs1 := hb1.size
  have hca := HIA.out B c (n + 1) lo cp [a0, a1, a2, a3, a4, a5, a6] w0 w1 hC1 (by rw [← HQA.out]; omega) (by omega) hw0 HEA.out hk1
  rw [← HQA.out] at hca
  have HCA := Lib.hid hca
  clear hC1 hb1 ho1 hq1 hk1 hkc hca
  go_wp2_with fail
  refine Calls.mono HCA.out ?_
  rintro e w2 ⟨rfl, hC2, hb2, ho2⟩
  dsimp only
  have hq2 := ho2 _ _ _ _ HQ1.out (by decide) (by decide)
  have t0 : w2.cell? ⟨w.heap.size, 0, none⟩ = some (.int .i64 9) := by rw [Lib.cell_of_heap hq2]; rfl
  have t6 : w2.cell? ⟨w.heap.size, 6, none⟩ = some (.slice (some ⟨g, 0, none⟩) 2 cap) := by rw [Lib.cell_of_heap hq2]; rfl
  have hb02 := HB1.out.trans hb2
  have hk2 := HROW.out _ hb02
  have hkc2 : ∀ j v, ([a0, a1, a2, a3, a4, a5, a6] ++ [b0, b1, b2, b3, b4, b5, b6])[j]? = some v → w2.cell? ⟨g, j, none⟩ = some v := fun j v hv => (World.cell?_of_block (w := w0) (a := ⟨g, j, none⟩) (hk2 g hg)).trans (HC.out j v hv)
  have d0 := hkc2 7 b0 rfl
  have d1 := hkc2 8 b1 rfl
  have d2 := hkc2 9 b2 rfl
  have d3 := hkc2 10 b3 rfl
  have d4 := hkc2 11 b4 rfl
  have d5 := hkc2 12 b5 rfl
  have d6 := hkc2 13 b6 rfl
  have HB2 := Lib.hid hb02
  have HO2 := Lib.hid (HO1.out.trans ho2)
  have HQ2 := Lib.hid hq2
  have hs2 := hb02.size
  have hcb := HIB.out B c (n + 1 + na) lo cp [b0, b1, b2, b3, b4, b5, b6] w0 w2 hC2 (by rw [← HQB.out]; omega) (by omega) hw0 HEB.out hk2
  rw [← HQB.out] at hcb
  have HCB := Lib.hid hcb
  clear hC2 hb2 ho2 hq2 hk2 hkc2 hcb hb02 s0 s6 c0 c1 c2 c3 c4 c5 c6
  go_wp2_with fail
  refine Calls.mono HCB.out ?_
  rintro e w3 ⟨rfl, hC3, hb3, ho3⟩
  dsimp only
  have hq3 := ho3 _ _ _ _ HQ2.out (by decide) (by decide)
  have u0 : w3.cell? ⟨w.heap.size, 0, none⟩ = some (.int .i64 9) := by rw [Lib.cell_of_heap hq3]; rfl
  have hb03 := HB2.out.trans hb3
  have hs3 := hb03.size
  have HC3 := Lib.hid hC3
  have HB3 := Lib.hid hb03
  have HO3 := Lib.hid (HO2.out.trans ho3)
  clear hC3 hb3 ho3 hq3 hb03 t0 t6 d0 d1 d2 d3 d4 d5 d6
  go_wp2_with fail
  refine Calls.mono (codeAddO_any B c (n + 1 + na + nb) 4 9 0 0 0 [] _ HC3.out (by omega) (by omega)) ?_
  rintro e w4 ⟨rfl, hC4, hb4, ho4⟩
  dsimp only
  have HC4 := Lib.hid hC4
  have HB4 := Lib.hid (HB3.out.trans hb4)
  have HO4 := Lib.hid (HO3.out.trans ho4)
  clear hC4 hb4 ho4
  go_wp2_with fail
  go_end0
  exact ⟨rfl, by rw [← HEQ.out]; exact HC4.out, HB0.out.trans HB4.out, HOT0.out.trans HO4.out⟩
theorem codeEx_any : ∀ ex : Ex, CodeEx ex
  | .num k v => codeEx_num k v
  | .var t => codeEx_var t
  | .add a b => codeEx_add a b (codeEx_any a) (codeEx_any b)
end Go.Proofs.YtaadhehcoegmhaaGreatDoor
/- Right, the code, Parse of expressions. -/
namespace Go.Proofs.YtaadhehcoegmhaaGreatDoor
open Go Go.RowKit

set_option maxRecDepth 100000 in
set_option maxHeartbeats 2000000 in
theorem Right_any (ex : Ex) (hr : RightIs ex) (hd : ex.deepN ≤ 32) (hsz : ex.sizeN ≤ 512) (lo : Nat) (a0 a1 a2 a3 a4 a5 a6 : Value) (w : World) (hE : Env w) (he : ExIs lo w ex [a0, a1, a2, a3, a4, a5, a6]) :
    Calls Tryz.prog 161 #[.agg (#[a0, a1, a2, a3, a4, a5, a6])] w fun e w' => e = .returned (.bool true) ∧ Below w.heap.size w w' := by
  have hg := heap_alloc_new w (.cells (#[a0, a1, a2, a3, a4, a5, a6]) 155)
  have hb : Below w.heap.size w (w.alloc (.cells (#[a0, a1, a2, a3, a4, a5, a6]) 155)) := (Below.refl _ _).alloc (Nat.le_refl _) _
  have HX := Lib.hid he
  obtain ⟨dn, hdn⟩ : ∃ n, n = ex.deepN := ⟨_, rfl⟩
  obtain ⟨sn, hsn⟩ : ∃ n, n = ex.sizeN := ⟨_, rfl⟩
  have HDN := Lib.hid hdn
  have HSN := Lib.hid hsn
  have hdI : ((dn : Nat) : Int) ≤ 32 := by rw [hdn]; omega
  have hsI : ((sn : Nat) : Int) ≤ 512 := by rw [hsn]; omega
  have HD := Lib.hid hd
  have HSZ := Lib.hid hsz
  clear he hd hsz hdn hsn
  go_enter Tryz.func161, Tryz.ntmps161
  go_wp2_with fail
  refine Calls.mono (size_any ex lo 512 [a0, a1, a2, a3, a4, a5, a6] _ (HX.out.below hb) HSZ.out (by omega)) ?_
  rintro e w1 ⟨rfl, hb1⟩
  rw [← HSN.out]
  dsimp only
  have hq1 := (hb1.block w.heap.size (by simp)).trans hg
  have s0 : w1.cell? ⟨w.heap.size, 0, none⟩ = some a0 := by rw [Lib.cell_of_heap hq1]; rfl
  have s1 : w1.cell? ⟨w.heap.size, 1, none⟩ = some a1 := by rw [Lib.cell_of_heap hq1]; rfl
  have s2 : w1.cell? ⟨w.heap.size, 2, none⟩ = some a2 := by rw [Lib.cell_of_heap hq1]; rfl
  have s3 : w1.cell? ⟨w.heap.size, 3, none⟩ = some a3 := by rw [Lib.cell_of_heap hq1]; rfl
  have s4 : w1.cell? ⟨w.heap.size, 4, none⟩ = some a4 := by rw [Lib.cell_of_heap hq1]; rfl
  have s5 : w1.cell? ⟨w.heap.size, 5, none⟩ = some a5 := by rw [Lib.cell_of_heap hq1]; rfl
  have s6 : w1.cell? ⟨w.heap.size, 6, none⟩ = some a6 := by rw [Lib.cell_of_heap hq1]; rfl
  have hbw1 := below_then hb hb.size hb1
  have HQ1 := Lib.hid hq1
  have HB1 := Lib.hid hbw1
  clear hb hb1 hg hq1 hbw1
  go_wp2_with fail
  refine Calls.mono (deep_any ex lo [a0, a1, a2, a3, a4, a5, a6] w1 (HX.out.below HB1.out) (by have := HD.out; omega)) ?_
  rintro e w2 ⟨rfl, hb2⟩
  rw [← HDN.out]
  dsimp only
  have hq2 := (hb2.block _ (Array.getElem?_eq_some_iff.1 HQ1.out).1).trans HQ1.out
  have t0 : w2.cell? ⟨w.heap.size, 0, none⟩ = some a0 := by rw [Lib.cell_of_heap hq2]; rfl
  have t1 : w2.cell? ⟨w.heap.size, 1, none⟩ = some a1 := by rw [Lib.cell_of_heap hq2]; rfl
  have t2 : w2.cell? ⟨w.heap.size, 2, none⟩ = some a2 := by rw [Lib.cell_of_heap hq2]; rfl
  have t3 : w2.cell? ⟨w.heap.size, 3, none⟩ = some a3 := by rw [Lib.cell_of_heap hq2]; rfl
  have t4 : w2.cell? ⟨w.heap.size, 4, none⟩ = some a4 := by rw [Lib.cell_of_heap hq2]; rfl
  have t5 : w2.cell? ⟨w.heap.size, 5, none⟩ = some a5 := by rw [Lib.cell_of_heap hq2]; rfl
  have t6 : w2.cell? ⟨w.heap.size, 6, none⟩ = some a6 := by rw [Lib.cell_of_heap hq2]; rfl
  have hbw2 := below_then HB1.out HB1.out.size hb2
  have HB2 := Lib.hid hbw2
  clear hb2 hq2 hbw2 s0 s1 s2 s3 s4 s5 s6
  go_wp2_with fail
  refine Calls.mono (hr lo [a0, a1, a2, a3, a4, a5, a6] w2 (hE.below HB2.out) (HX.out.below HB2.out)) ?_
  rintro e w3 ⟨rfl, hb3⟩
  dsimp only
  go_wp2_with fail
  go_ret
  exact ⟨rfl, below_then HB2.out HB2.out.size hb3⟩

set_option maxRecDepth 100000 in
set_option maxHeartbeats 2000000 in
theorem code_any (ex : Ex) (hn : ex.codeN ≤ 1000) (lo : Nat) (a0 a1 a2 a3 a4 a5 a6 : Value) (cp : Value) (w : World) (he : ExIs lo w ex [a0, a1, a2, a3, a4, a5, a6]) :
    Calls Tryz.prog 163 #[cp, .agg (#[a0, a1, a2, a3, a4, a5, a6])] w fun e w' => ∃ c, e = .returned (.pointer (some ⟨c, 0, none⟩)) ∧ w.heap.size ≤ c ∧ c < w'.heap.size ∧ Below w.heap.size w w' ∧ OthersT w w' := by
  have hb : Below w.heap.size w ((w.alloc (.cells (#[a0, a1, a2, a3, a4, a5, a6]) 155)).alloc (.cells #[.slice none 0 0] 302)) := ((Below.refl _ _).alloc (Nat.le_refl _) _).alloc (by simp) _
  have hc : CodeAt w.heap.size (w.heap.size + 1) 0 ((w.alloc (.cells (#[a0, a1, a2, a3, a4, a5, a6]) 155)).alloc (.cells #[.slice none 0 0] 302)) := ⟨⟨.slice none 0 0, [], new_at _ _ (by simp), rfl, .inl ⟨rfl, rfl⟩⟩, by omega⟩
  have HC := Lib.hid hc
  have HCALL := Lib.hid (codeEx_any ex w.heap.size (w.heap.size + 1) 0 lo cp [a0, a1, a2, a3, a4, a5, a6] w _ hc (by omega) (by simp; omega) (Nat.le_refl _) he (fun k hk => hb.block k hk))
  clear hc he
  go_enter Tryz.func163, Tryz.ntmps163
  go_wp2_with fail
  refine Calls.mono HCALL.out ?_
  rintro e w1 ⟨rfl, hC1, hb1, ho1⟩
  dsimp only
  have hlt : w.heap.size + 1 < w1.heap.size := by have := hb1.size; simp at this; omega
  have HB := Lib.hid (hb.trans hb1)
  have HO := Lib.hid ((OthersT.of_below hb).trans ho1)
  clear hC1 hb1 ho1 hb
  go_wp2_with fail
  go_ret
  exact ⟨w.heap.size + 1, rfl, by omega, hlt, HB.out, HO.out⟩

set_option maxRecDepth 100000 in
set_option maxHeartbeats 4000000 in
theorem evalCompile_any (ex : Ex) (hr : RightIs ex) (hd : ex.deepN ≤ 32) (hsz : ex.sizeN ≤ 512) (hn : ex.codeN ≤ 1000) (lo : Nat) (a0 a1 a2 a3 a4 a5 a6 : Value) (w : World) (hE : Env w) (he : ExIs lo w ex [a0, a1, a2, a3, a4, a5, a6]) :
    Calls Tryz.prog 106 #[.agg (#[a0, a1, a2, a3, a4, a5, a6]), .slice none 0 0] w fun e w' => ∃ c, e = .returned (.tuple #[.pointer (some ⟨c, 0, none⟩), .int .i64 0]) ∧ Below w.heap.size w w' := by
  have hg := heap_alloc_new w (.cells (#[a0, a1, a2, a3, a4, a5, a6]) 155)
  have hb : Below w.heap.size w (w.alloc (.cells (#[a0, a1, a2, a3, a4, a5, a6]) 155)) := (Below.refl _ _).alloc (Nat.le_refl _) _
  have HX := Lib.hid he
  clear he
  go_enter Tryz.func106, Tryz.ntmps106
  go_wp2_with fail
  refine Calls.mono (Right_any ex hr hd hsz lo _ _ _ _ _ _ _ _ (hE.below hb) (HX.out.below hb)) ?_
  rintro e w1 ⟨rfl, hb1⟩
  dsimp only
  have hbw1 := below_then hb hb.size hb1
  have hq1 := (hb1.block w.heap.size (by simp)).trans hg
  have HQ1 := Lib.hid hq1
  have HB1 := Lib.hid hbw1
  clear hb hb1 hg hq1 hbw1
  go_wp2_with fail
  refine Calls.mono (cloneScope_nil _) ?_
  rintro e w2 ⟨rfl, rfl⟩
  dsimp only
  have hsz := HB1.out.size
  have hq2 := (heap_alloc_old w2 (.cells #[.slice none 0 0, .int .i64 0] 237) (Array.getElem?_eq_some_iff.1 HQ1.out).1).trans HQ1.out
  have hk2 := heap_alloc_new w2 (.cells #[.slice none 0 0, .int .i64 0] 237)
  have s0 : (w2.alloc (.cells #[.slice none 0 0, .int .i64 0] 237)).cell? ⟨w.heap.size, 0, none⟩ = some a0 := by rw [Lib.cell_of_heap hq2]; rfl
  have s1 : (w2.alloc (.cells #[.slice none 0 0, .int .i64 0] 237)).cell? ⟨w.heap.size, 1, none⟩ = some a1 := by rw [Lib.cell_of_heap hq2]; rfl
  have s2 : (w2.alloc (.cells #[.slice none 0 0, .int .i64 0] 237)).cell? ⟨w.heap.size, 2, none⟩ = some a2 := by rw [Lib.cell_of_heap hq2]; rfl
  have s3 : (w2.alloc (.cells #[.slice none 0 0, .int .i64 0] 237)).cell? ⟨w.heap.size, 3, none⟩ = some a3 := by rw [Lib.cell_of_heap hq2]; rfl
  have s4 : (w2.alloc (.cells #[.slice none 0 0, .int .i64 0] 237)).cell? ⟨w.heap.size, 4, none⟩ = some a4 := by rw [Lib.cell_of_heap hq2]; rfl
  have s5 : (w2.alloc (.cells #[.slice none 0 0, .int .i64 0] 237)).cell? ⟨w.heap.size, 5, none⟩ = some a5 := by rw [Lib.cell_of_heap hq2]; rfl
  have s6 : (w2.alloc (.cells #[.slice none 0 0, .int .i64 0] 237)).cell? ⟨w.heap.size, 6, none⟩ = some a6 := by rw [Lib.cell_of_heap hq2]; rfl
  have hbk : Below w.heap.size w (w2.alloc (.cells #[.slice none 0 0, .int .i64 0] 237)) := HB1.out.alloc hsz _
  have HBK := Lib.hid hbk
  have HK2 := Lib.hid hk2
  clear hq2 hbk hk2
  go_wp2_with fail
  refine Calls.mono (code_any ex hn lo _ _ _ _ _ _ _ _ _ (HX.out.below HBK.out)) ?_
  rintro e w3 ⟨c, rfl, _, _, hb3, ho3⟩
  dsimp only
  have hk3 := ho3 _ _ _ _ HK2.out (by decide) (by decide)
  have t1 : w3.cell? ⟨w2.heap.size, 1, none⟩ = some (.int .i64 0) := by rw [Lib.cell_of_heap hk3]; rfl
  have HB3 := Lib.hid (HBK.out.trans (hb3.mono HBK.out.size))
  clear hb3 ho3 hk3 s0 s1 s2 s3 s4 s5 s6
  go_wp2_with fail
  go_ret2
  exact ⟨c, rfl, HB3.out⟩

end Go.Proofs.YtaadhehcoegmhaaGreatDoor
