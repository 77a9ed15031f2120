/- xvalue.Call at a function of the table that takes no nodes. -/
import Derived.Test.YtaadhehcoegmhaaGreatDoorA6
namespace Go.Proofs.YtaadhehcoegmhaaGreatDoor
open Go Go.RowKit

theorem wpList_lookup_rows {P : Program} {ops : Array Oper} {rest : List Oper} {o : Oper} {a : Act} {Q : Exit → Act → World → Prop} {w : World} (hg : o.guard = none)
    {α : Type} {R : Value → α → Prop} {m c : Nat} {es : Array MapEntry} {rs : List (ByteArray × α)} {t kt et : TypeId} (mo ko : Operand) (ok : Bool) (hop : o.op = .lookup t mo ko ok)
    (ht : P.underlying t = some (.map kt et)) (hkt : P.underlying kt = some .string) (hm : w.heap[m]? = some (.map es c)) (hR : KeyRows R es.toList rs) {z : Value} (hz : (zeroValue et).run P w = .ok z w)
    (k : ByteArray) (hmo : a.eval mo = .map (some m)) (hko : a.eval ko = .string k)
    (h0 : rowAt k rs = none → wpList P ops Q rest (a.put o.dst (if ok then .tuple #[z, .bool false] else z)) w)
    (h1 : ∀ v x, rowAt k rs = some x → R v x → wpList P ops Q rest (a.put o.dst (if ok then .tuple #[v, .bool true] else v)) w) : wpList P ops Q (o :: rest) a w := by
  refine wpList_plain hg fun K hK' => ?_
  unfold Oper.wp execOp
  rcases run_lookup_rows ht hkt hm hR hz k ok with ⟨hn, hrun⟩ | ⟨v, x, hx, hv, hrun⟩
  · simp only [hop, hmo, hko, hrun, Sem.run_bind, Result.andThen_ok, Sem.run_pure]
    exact hK' _ _ (h0 hn)
  · simp only [hop, hmo, hko, hrun, Sem.run_bind, Result.andThen_ok, Sem.run_pure]
    exact hK' _ _ (h1 v x hx hv)

theorem run_equalIn_func_nil {P : Program} {t : TypeId} {ps rs : Array TypeId} {vd : Bool} (ht : P.underlying t = some (.func ps rs vd)) (d : Nat) (fn : Fn) (xs ys : Array Value) (w : World) :
    (Op.equalIn (d + 1) t (.func fn xs ys) .nilFunc).run P w = .ok false w := by
  unfold Op.equalIn
  simp [run_underlying ht]
theorem run_eql_func_nil {P : Program} {t : TypeId} {ps rs : Array TypeId} {vd : Bool} (ht : P.underlying t = some (.func ps rs vd)) (fn : Fn) (xs ys : Array Value) (w : World) :
    (binOp .eql t (.func fn xs ys) .nilFunc).run P w = .ok (.bool false) w := by
  simp only [binOp]
  simp [Op.equal, Op.maxDepth, run_equalIn_func_nil ht 9999]

set_option maxRecDepth 100000 in
set_option maxHeartbeats 1000000 in
theorem call_plain (k : ByteArray) (l m : Int) (g f : Nat) (hrow : rowAt k fnTable = some (.plain l m false g f)) (t A : Option Addr) (n cap : Nat) (cs : Array Value) (er : Int) (w : World)
    (hl : 1 ≤ l) (hln : l ≤ n) (hnm : (n : Int) ≤ m)
    (hen : ∀ args w, (callFunc g args).run Tryz.prog w = .ok (.enter g args) w) (hcs : (Tryz.prog.info? 31).map (·.size) = some cs.size) (hcs1 : cs.all (·.oneCell') = true)
    (hin : ∀ w1 b, Below w.heap.size w w1 → Captured w1 b (.func (.func f) #[] #[]) → Calls Tryz.prog g #[.agg #[.pointer t, .slice A n cap], .pointer (some ⟨b, 0, none⟩)] w1 fun e w' => e = .returned (.tuple #[.agg cs, .int .i64 er]) ∧ Below w1.heap.size w1 w') :
    Calls Tryz.prog 13 #[.pointer t, .string k, .slice A n cap] w fun e w' => e = .returned (.tuple #[.agg cs, .int .i64 er]) ∧ Below w.heap.size w w' := by
  have Hin := Lib.hid hin
  have Hrow := Lib.hid hrow
  have Hen := Lib.hid hen
  clear hin hrow hen
  go_enter Tryz.func13, Tryz.ntmps13
  go_wp2_with fail
  refine Calls.mono (functions_any _) ?_
  rintro e w1 ⟨v, rfl, rfl, htab, hb1⟩
  dsimp only
  obtain ⟨es, c, hm, hR⟩ := htab
  refine ‹∀ a w, wpList _ _ _ _ a w → _› _ _ ?_
  refine wpList_move rfl _ (.inl rfl) ?_
  refine wpList_lookup_rows rfl (.tmp 9) (.tmp 10) false rfl Tryz.underlying83 Tryz.underlying9 hm hR (Tryz.zeroValue82 _) k rfl rfl ?_ ?_
  · intro h0; rw [Hrow.out] at h0; cases h0
  intro v x hx hv
  rw [Hrow.out] at hx
  cases hx
  obtain ⟨b, rfl, hbm, hcap⟩ := hv
  simp only [fnRow]
  have hg1 : w1.heap[w.heap.size]? = some (.cells #[.int .i64 0, .slice none 0 0, .int .i64 0, .int .i64 0, .string ⟨#[]⟩, .bool false] 31 (0, 0)) := (hb1.block _ (by simp)).trans (heap_alloc_new w _)
  have hbb1 : Below w.heap.size w w1 := ((Below.refl _ _).alloc (Nat.le_refl _) _).trans (hb1.mono (B' := w.heap.size) (by simp))
  have hlt1 : w.heap.size < w1.heap.size := (Array.getElem?_eq_some_iff.1 hg1).1
  clear hm hR es c hbm hb1
  obtain ⟨W, hW⟩ : ∃ W, W = w1.alloc (.cells #[.int .i64 l, .int .i64 m, .bool false, .func (.func g) #[] #[.pointer (some ⟨b, 0, none⟩)]] 82) := ⟨_, rfl⟩
  have hcapW : Captured W b (.func (.func f) #[] #[]) := by rw [hW]; exact cell_alloc hcap _
  have hgW : W.heap[w.heap.size]? = some (.cells #[.int .i64 0, .slice none 0 0, .int .i64 0, .int .i64 0, .string ⟨#[]⟩, .bool false] 31 (0, 0)) := by rw [hW]; exact (Below.heap_alloc _ _ _ hlt1).trans hg1
  have hbW : Below w.heap.size w W := by rw [hW]; exact hbb1.alloc (Nat.le_of_lt hlt1) _
  have hW' := Lib.hid hW
  have hgW' := Lib.hid hgW
  clear hW hgW hg1
  have t1 : decide ((n : Int) < l) = false := by simp; omega
  have t2 : decide ((n : Int) > m) = false := by simp; omega
  have t3 : (l == 0) = false := by simp; omega
  have hen := Hen.out
  have heq := fun (w : World) => run_eql_func_nil (P := Tryz.prog) Tryz.underlying80 (.func g) #[] #[.pointer (some ⟨b, 0, none⟩)] w
  go_wp2_with fail
  rw [← hW'.out]
  refine (Hin.out W b hbW hcapW).mono ?_
  rintro e w2 ⟨rfl, hb2⟩
  dsimp only
  have hg2 : w2.heap[w.heap.size]? = some (.cells #[.int .i64 0, .slice none 0 0, .int .i64 0, .int .i64 0, .string ⟨#[]⟩, .bool false] 31 (0, 0)) := (hb2.block _ (Array.getElem?_eq_some_iff.1 hgW'.out).1).trans hgW'.out
  have hbb2 := below_then hbW hbW.size hb2
  have hsz : cs.size = 6 := by
    have h6 : (Tryz.prog.info? 31).map (·.size) = some 6 := by kernel_rfl
    rw [h6] at hcs; exact (Option.some.inj hcs).symm
  have hsz' := Lib.hid hsz
  clear hsz hcs hb2 hen heq
  go_wp2_with (refine wpList_store_row rfl 31 (.tmp 6) (.tmp 60) rfl (w.heap.size) cs rfl rfl 31 _ hg2 (by rw [hsz'.out]; kernel_rfl) (by rw [hsz'.out]; rfl) hcs1 ?_)
  exact bodyPost_ret (results_cell_tmp Tryz.results13 _ _ (w.heap.size) 31 _ (0, 0) _ rfl (setRow_heap w2 _ _ _ 31 _ hg2) Tryz.underlying31 rfl (by rw [hsz'.out]; kernel_rfl)) rfl ⟨rfl, below_setRow hbb2 (by omega)⟩
end Go.Proofs.YtaadhehcoegmhaaGreatDoor
