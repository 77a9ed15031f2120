/- Maps keyed by ints that a literal fills; what holds tells of two numbers. -/
import Derived.Test.YtaadhehcoegmhaaGreatDoorA9
namespace Go.Proofs.YtaadhehcoegmhaaGreatDoor
open Go Go.RowKit

/-- The entries of a int-keyed map, row by row: the keys, and what each value is. -/
def KeyRowsI {α : Type} (R : Value → α → Prop) : List MapEntry → List (Int × α) → Prop
  | [], [] => True
  | e :: es, r :: rs => e.key = .int .i64 r.1 ∧ R e.val r.2 ∧ KeyRowsI R es rs
  | _, _ => False

/-- What stands at a key: the first row of that key. -/
def rowAtI {α : Type} (k : Int) : List (Int × α) → Option α
  | [] => none
  | r :: rs => if k == r.1 then some r.2 else rowAtI k rs

theorem KeyRowsI.snoc {α : Type} {R : Value → α → Prop} {v : Value} {k : Int} {x : α} {c : Nat} (hx : R v x) :
    ∀ {es : List MapEntry} {rs : List (Int × α)}, KeyRowsI R es rs → KeyRowsI R (es ++ [⟨.int .i64 k, v, c⟩]) (rs ++ [(k, x)])
  | [], [], _ => ⟨rfl, hx, trivial⟩
  | [], _ :: _, h => h.elim
  | _ :: _, [], h => h.elim
  | _ :: _, _ :: _, h => ⟨h.1, h.2.1, KeyRowsI.snoc hx h.2.2⟩

theorem KeyRowsI.imp {α : Type} {R R' : Value → α → Prop} (hR : ∀ v x, R v x → R' v x) :
    ∀ {es : List MapEntry} {rs : List (Int × α)}, KeyRowsI R es rs → KeyRowsI R' es rs
  | [], [], _ => trivial
  | [], _ :: _, h => h.elim
  | _ :: _, [], h => h.elim
  | _ :: _, _ :: _, h => ⟨h.1, hR _ _ h.2.1, KeyRowsI.imp hR h.2.2⟩

theorem KeyRowsI.find {α : Type} {R : Value → α → Prop} {k : Int} :
    ∀ {es : List MapEntry} {rs : List (Int × α)} (i : Nat), KeyRowsI R es rs →
      (rowAtI k rs = none ∧ Instr.findNow (.int .i64) (.int .i64 k) es i = some none) ∨ ∃ j v x, rowAtI k rs = some x ∧ R v x ∧ Instr.findNow (.int .i64) (.int .i64 k) es i = some (some (j, v))
  | [], [], _, _ => .inl ⟨rfl, rfl⟩
  | [], _ :: _, _, h => h.elim
  | _ :: _, [], _, h => h.elim
  | e :: es, r :: rs, i, h => by
    obtain ⟨hk, hv, ht⟩ := h
    by_cases he : (k == r.1) = true
    · exact .inr ⟨i, e.val, r.2, by simp only [rowAtI, he, if_true], hv, by simp only [Instr.findNow, hk, Instr.sameNow, he, if_true]⟩
    · have he' : (k == r.1) = false := by simpa using he
      rcases KeyRowsI.find (k := k) (i + 1) ht with ⟨h1, h2⟩ | ⟨j, v, x, h1, h2, h3⟩
      · exact .inl ⟨by simp only [rowAtI, he', Bool.false_eq_true, if_false, h1], by simp only [Instr.findNow, hk, Instr.sameNow, he', if_true, h2]⟩
      · exact .inr ⟨j, v, x, by simp only [rowAtI, he', Bool.false_eq_true, if_false, h1], h2, by simp only [Instr.findNow, hk, Instr.sameNow, he', if_true, h3]⟩

section
variable {P : Program} {t kt et : TypeId}

theorem run_insert_newI {α : Type} {R : Value → α → Prop} {w : World} {m c : Nat} {es : Array MapEntry} {rs : List (Int × α)} (ht : P.underlying t = some (.map kt et)) (hkt : P.underlying kt = some (.int .i64))
    (hm : w.heap[m]? = some (.map es c)) (hR : KeyRowsI R es.toList rs) (k : Int) (hnew : rowAtI k rs = none) (v : Value) :
    (Instr.mapUpdate t (.map (some m)) (.int .i64 k) v).run P w = .ok () { w with heap := w.heap.setIfInBounds m (.map (es.push ⟨.int .i64 k, v, c⟩) (c + 1)) } := by
  have h1 : Instr.findNow (.int .i64) (.int .i64 k) es.toList 0 = some none := by
    rcases hR.find (k := k) 0 with ⟨_, h⟩ | ⟨j, u, x, h, _⟩
    · exact h
    · rw [hnew] at h; cases h
  have hik : MapKept.IsKey (.int .i64) (.int .i64 k) := rfl
  simp [Instr.mapUpdate, run_underlying ht, MapKept.run_getObj_map hm, MapKept.run_checkKey hkt hik, MapKept.run_findKey hkt h1, MapKept.run_setObj_map _ hm, Result.andThen]

theorem run_lookup_rowsI {α : Type} {R : Value → α → Prop} {w : World} {m c : Nat} {es : Array MapEntry} {rs : List (Int × α)} (ht : P.underlying t = some (.map kt et)) (hkt : P.underlying kt = some (.int .i64))
    (hm : w.heap[m]? = some (.map es c)) (hR : KeyRowsI R es.toList rs) {z : Value} (hz : (zeroValue et).run P w = .ok z w) (k : Int) (ok : Bool) :
    (rowAtI k rs = none ∧ (Instr.lookup t (.map (some m)) (.int .i64 k) ok).run P w = .ok (if ok then .tuple #[z, .bool false] else z) w) ∨
    ∃ v x, rowAtI k rs = some x ∧ R v x ∧ (Instr.lookup t (.map (some m)) (.int .i64 k) ok).run P w = .ok (if ok then .tuple #[v, .bool true] else v) w := by
  have hik : MapKept.IsKey (.int .i64) (.int .i64 k) := rfl
  rcases hR.find (k := k) 0 with ⟨h0, h1⟩ | ⟨j, v, x, h0, h2, h1⟩
  · exact .inl ⟨h0, by cases ok <;> simp [Instr.lookup, run_underlying ht, MapKept.run_getObj_map hm, MapKept.run_checkKey hkt hik, MapKept.run_findKey hkt h1, hz, Result.andThen]⟩
  · exact .inr ⟨v, x, h0, h2, by cases ok <;> simp [Instr.lookup, run_underlying ht, MapKept.run_getObj_map hm, MapKept.run_checkKey hkt hik, MapKept.run_findKey hkt h1, Result.andThen]⟩
end

/-- The map of a literal as it grows, at the operation. -/
theorem wpList_insert_newI {P : Program} {ops : Array Oper} {rest : List Oper} {o : Oper} {a : Act} {Q : Exit → Act → World → Prop} (w : World)
    {α : Type} {R : Value → α → Prop} {m c : Nat} {es : Array MapEntry} {rs : List (Int × α)} {t kt et : TypeId} (hg : o.guard = none) (mo x : Operand) (k : Int) (hop : o.op = Op.insert t mo (.const (.int .i64 k)) x)
    (ht : P.underlying t = some (.map kt et)) (hkt : P.underlying kt = some (.int .i64)) (hmo : a.eval mo = .map (some m)) (hm : w.heap[m]? = some (.map es c)) (hR : KeyRowsI R es.toList rs) (hnew : rowAtI k rs = none) (v : Value) (hv : a.eval x = v)
    (hK : ∀ w', w'.heap[m]? = some (.map (es.push ⟨.int .i64 k, v, c⟩) (c + 1)) → w.grownBy w' (some m) → wpList P ops Q rest (a.put o.dst undef) w') :
    wpList P ops Q (o :: rest) a w := by
  refine wpList_plain hg fun K hK' => ?_
  have hrun := run_insert_newI ht hkt hm hR k hnew v
  have hlt : m < w.heap.size := (Array.getElem?_eq_some_iff.1 hm).1
  unfold Oper.wp
  have hc : a.eval (.const (.int .i64 k)) = .int .i64 k := rfl
  simp [execOp, hop, hmo, hv, hc, hrun, Result.andThen]
  exact hK' _ _ (hK _ (by simp [hlt]) (grownBy_setIn _))
theorem wpList_lookup_rowsI {P : Program} {ops : Array Oper} {rest : List Oper} {o : Oper} {a : Act} {Q : Exit → Act → World → Prop} {w : World} (hg : o.guard = none)
    {α : Type} {R : Value → α → Prop} {m c : Nat} {es : Array MapEntry} {rs : List (Int × α)} {t kt et : TypeId} (mo ko : Operand) (ok : Bool) (hop : o.op = .lookup t mo ko ok)
    (ht : P.underlying t = some (.map kt et)) (hkt : P.underlying kt = some (.int .i64)) (hm : w.heap[m]? = some (.map es c)) (hR : KeyRowsI R es.toList rs) {z : Value} (hz : (zeroValue et).run P w = .ok z w)
    (k : Int) (hmo : a.eval mo = .map (some m)) (hko : a.eval ko = .int .i64 k)
    (h0 : rowAtI k rs = none → wpList P ops Q rest (a.put o.dst (if ok then .tuple #[z, .bool false] else z)) w)
    (h1 : ∀ v x, rowAtI k rs = some x → R v x → wpList P ops Q rest (a.put o.dst (if ok then .tuple #[v, .bool true] else v)) w) : wpList P ops Q (o :: rest) a w := by
  refine wpList_plain hg fun K hK' => ?_
  unfold Oper.wp execOp
  rcases run_lookup_rowsI ht hkt hm hR hz k ok with ⟨hn, hrun⟩ | ⟨v, x, hx, hv, hrun⟩
  · simp only [hop, hmo, hko, hrun, Sem.run_bind, Result.andThen_ok, Sem.run_pure]
    exact hK' _ _ (h0 hn)
  · simp only [hop, hmo, hko, hrun, Sem.run_bind, Result.andThen_ok, Sem.run_pure]
    exact hK' _ _ (h1 v x hx hv)


set_option maxRecDepth 100000 in
set_option maxHeartbeats 1000000 in
theorem holds_fin (op a b : Int) (x : Bool) (hx : rowAtI op [(3, (cmpI a b == 0)), (4, (cmpI a b != 0)), (5, decide (cmpI a b < 0)), (6, decide (cmpI a b ≤ 0)), (7, decide (cmpI a b > 0)), (8, decide (cmpI a b ≥ 0))] = some x) (w : World) :
    Calls Tryz.prog 137 #[.int .i64 op, fin a, fin b] w fun e w' => e = .returned (.bool x) ∧ Below w.heap.size w w' := by
  have HX := Lib.hid hx
  clear hx
  go_enter Tryz.func137, Tryz.ntmps137
  go_wp2_with fail
  refine Calls.mono (compare_fin a b _) ?_
  rintro e w1 ⟨rfl, hb1⟩
  dsimp only
  have hw : Below w.heap.size w w1 := below_then (((Below.refl _ _).alloc (Nat.le_refl _) _).alloc (by simp) _) (by simp; omega) hb1
  have hw' := Lib.hid hw
  clear hw hb1
  have hmm := @run_makeMap Tryz.prog
  obtain ⟨c, hc⟩ : ∃ c, c = cmpI a b := ⟨_, rfl⟩
  rw [← hc] at HX ⊢
  clear hc
  have hm0 : (w1.alloc (.map #[] 0)).heap[w1.heap.size]? = some (.map #[] 0) := (MapKept.heap_alloc w1 _).1
  have hg0 : Below w.heap.size w (w1.alloc (.map #[] 0)) := hw'.out.alloc hw'.out.size _
  have hge : w.heap.size ≤ w1.heap.size := hw'.out.size
  have HM0 := Lib.hid hm0
  have HG0 := Lib.hid hg0
  clear hm0 hg0
  go_wp2_with (first
    | (refine wpList_insert_newI (w1.alloc (.map #[] 0)) (R := fun v (x : Bool) => v = .bool x) (m := w1.heap.size) (c := 0) (es := #[]) (rs := []) rfl (.tmp 19) (.tmp 21) 3 rfl Tryz.underlying270 Tryz.underlying150 rfl HM0.out trivial rfl (.bool (c == 0)) rfl ?_
       intro w2 hm hg
       have HM1 := Lib.hid hm
       have HG1 := Lib.hid (HG0.out.grown hg HG0.out.size (fun k hk => by cases hk; exact hge))
       clear hm hg HM0)
    | (refine wpList_insert_newI w2 (R := fun v (x : Bool) => v = .bool x) (m := w1.heap.size) (c := 1) (es := #[⟨.int .i64 3, .bool (c == 0), 0⟩]) (rs := [(3, (c == 0))]) rfl (.tmp 19) (.tmp 23) 4 rfl Tryz.underlying270 Tryz.underlying150 rfl HM1.out ⟨rfl, rfl, trivial⟩ rfl (.bool (c != 0)) rfl ?_
       intro w3 hm hg
       have HM2 := Lib.hid hm
       have HG2 := Lib.hid (HG1.out.grown hg HG1.out.size (fun k hk => by cases hk; exact hge))
       clear hm hg HM1)
    | (refine wpList_insert_newI w3 (R := fun v (x : Bool) => v = .bool x) (m := w1.heap.size) (c := 2) (es := #[⟨.int .i64 3, .bool (c == 0), 0⟩, ⟨.int .i64 4, .bool (c != 0), 1⟩]) (rs := [(3, (c == 0)), (4, (c != 0))]) rfl (.tmp 19) (.tmp 25) 5 rfl Tryz.underlying270 Tryz.underlying150 rfl HM2.out ⟨rfl, rfl, rfl, rfl, trivial⟩ rfl (.bool (decide (c < 0))) rfl ?_
       intro w4 hm hg
       have HM3 := Lib.hid hm
       have HG3 := Lib.hid (HG2.out.grown hg HG2.out.size (fun k hk => by cases hk; exact hge))
       clear hm hg HM2)
    | (refine wpList_insert_newI w4 (R := fun v (x : Bool) => v = .bool x) (m := w1.heap.size) (c := 3) (es := #[⟨.int .i64 3, .bool (c == 0), 0⟩, ⟨.int .i64 4, .bool (c != 0), 1⟩, ⟨.int .i64 5, .bool (decide (c < 0)), 2⟩]) (rs := [(3, (c == 0)), (4, (c != 0)), (5, decide (c < 0))]) rfl (.tmp 19) (.tmp 27) 6 rfl Tryz.underlying270 Tryz.underlying150 rfl HM3.out ⟨rfl, rfl, rfl, rfl, rfl, rfl, trivial⟩ rfl (.bool (decide (c ≤ 0))) rfl ?_
       intro w5 hm hg
       have HM4 := Lib.hid hm
       have HG4 := Lib.hid (HG3.out.grown hg HG3.out.size (fun k hk => by cases hk; exact hge))
       clear hm hg HM3)
    | (refine wpList_insert_newI w5 (R := fun v (x : Bool) => v = .bool x) (m := w1.heap.size) (c := 4) (es := #[⟨.int .i64 3, .bool (c == 0), 0⟩, ⟨.int .i64 4, .bool (c != 0), 1⟩, ⟨.int .i64 5, .bool (decide (c < 0)), 2⟩, ⟨.int .i64 6, .bool (decide (c ≤ 0)), 3⟩]) (rs := [(3, (c == 0)), (4, (c != 0)), (5, decide (c < 0)), (6, decide (c ≤ 0))]) rfl (.tmp 19) (.tmp 29) 7 rfl Tryz.underlying270 Tryz.underlying150 rfl HM4.out ⟨rfl, rfl, rfl, rfl, rfl, rfl, rfl, rfl, trivial⟩ rfl (.bool (decide (c > 0))) rfl ?_
       intro w6 hm hg
       have HM5 := Lib.hid hm
       have HG5 := Lib.hid (HG4.out.grown hg HG4.out.size (fun k hk => by cases hk; exact hge))
       clear hm hg HM4)
    | (refine wpList_insert_newI w6 (R := fun v (x : Bool) => v = .bool x) (m := w1.heap.size) (c := 5) (es := #[⟨.int .i64 3, .bool (c == 0), 0⟩, ⟨.int .i64 4, .bool (c != 0), 1⟩, ⟨.int .i64 5, .bool (decide (c < 0)), 2⟩, ⟨.int .i64 6, .bool (decide (c ≤ 0)), 3⟩, ⟨.int .i64 7, .bool (decide (c > 0)), 4⟩]) (rs := [(3, (c == 0)), (4, (c != 0)), (5, decide (c < 0)), (6, decide (c ≤ 0)), (7, decide (c > 0))]) rfl (.tmp 19) (.tmp 31) 8 rfl Tryz.underlying270 Tryz.underlying150 rfl HM5.out ⟨rfl, rfl, rfl, rfl, rfl, rfl, rfl, rfl, rfl, rfl, trivial⟩ rfl (.bool (decide (c ≥ 0))) rfl ?_
       intro w7 hm hg
       have HM6 := Lib.hid hm
       have HG6 := Lib.hid (HG5.out.grown hg HG5.out.size (fun k hk => by cases hk; exact hge))
       clear hm hg HM5)
    | (refine wpList_lookup_rowsI (R := fun v (x : Bool) => v = .bool x) (m := w1.heap.size) (rs := [(3, (c == 0)), (4, (c != 0)), (5, decide (c < 0)), (6, decide (c ≤ 0)), (7, decide (c > 0)), (8, decide (c ≥ 0))]) rfl (.tmp 32) (.tmp 33) false rfl Tryz.underlying270 Tryz.underlying150 HM6.out ⟨rfl, rfl, rfl, rfl, rfl, rfl, rfl, rfl, rfl, rfl, rfl, rfl, trivial⟩ (Tryz.zeroValue4 _) op rfl rfl (fun h0 => by rw [HX.out] at h0; cases h0) (fun v y hy hv => ?_)
       rw [HX.out] at hy
       cases hy
       subst hv))
  go_ret
  exact ⟨rfl, HG6.out⟩
end Go.Proofs.YtaadhehcoegmhaaGreatDoor
