/- A map keyed by strings that a literal fills: its entries row by row; an insert of a new key; a lookup. -/
import Derived.WalkKit
import Derived.ChangeMaps4
namespace Go.Proofs.YtaadhehcoegmhaaGreatDoor
open Go Go.RowKit

/-- The entries of a string-keyed map, row by row: the keys, and what each value is. -/
def KeyRows {α : Type} (R : Value → α → Prop) : List MapEntry → List (ByteArray × α) → Prop
  | [], [] => True
  | e :: es, r :: rs => e.key = .string r.1 ∧ R e.val r.2 ∧ KeyRows R es rs
  | _, _ => False

/-- What stands at a key: the first row of that key. -/
def rowAt {α : Type} (k : ByteArray) : List (ByteArray × α) → Option α
  | [] => none
  | r :: rs => if k == r.1 then some r.2 else rowAt k rs

theorem KeyRows.snoc {α : Type} {R : Value → α → Prop} {v : Value} {k : ByteArray} {x : α} {c : Nat} (hx : R v x) :
    ∀ {es : List MapEntry} {rs : List (ByteArray × α)}, KeyRows R es rs → KeyRows R (es ++ [⟨.string k, v, c⟩]) (rs ++ [(k, x)])
  | [], [], _ => ⟨rfl, hx, trivial⟩
  | [], _ :: _, h => h.elim
  | _ :: _, [], h => h.elim
  | _ :: _, _ :: _, h => ⟨h.1, h.2.1, KeyRows.snoc hx h.2.2⟩

theorem KeyRows.imp {α : Type} {R R' : Value → α → Prop} (hR : ∀ v x, R v x → R' v x) :
    ∀ {es : List MapEntry} {rs : List (ByteArray × α)}, KeyRows R es rs → KeyRows R' es rs
  | [], [], _ => trivial
  | [], _ :: _, h => h.elim
  | _ :: _, [], h => h.elim
  | _ :: _, _ :: _, h => ⟨h.1, hR _ _ h.2.1, KeyRows.imp hR h.2.2⟩

theorem KeyRows.find {α : Type} {R : Value → α → Prop} {k : ByteArray} :
    ∀ {es : List MapEntry} {rs : List (ByteArray × α)} (i : Nat), KeyRows R es rs →
      (rowAt k rs = none ∧ Instr.findNow .string (.string k) es i = some none) ∨ ∃ j v x, rowAt k rs = some x ∧ R v x ∧ Instr.findNow .string (.string k) es i = some (some (j, v))
  | [], [], _, _ => .inl ⟨rfl, rfl⟩
  | [], _ :: _, _, h => h.elim
  | _ :: _, [], _, h => h.elim
  | e :: es, r :: rs, i, h => by
    obtain ⟨hk, hv, ht⟩ := h
    by_cases he : (k == r.1) = true
    · exact .inr ⟨i, e.val, r.2, by simp only [rowAt, he, if_true], hv, by simp only [Instr.findNow, hk, Instr.sameNow, he]⟩
    · have he' : (k == r.1) = false := by simpa using he
      rcases KeyRows.find (k := k) (i + 1) ht with ⟨h1, h2⟩ | ⟨j, v, x, h1, h2, h3⟩
      · exact .inl ⟨by simp only [rowAt, he', Bool.false_eq_true, if_false, h1], by simp only [Instr.findNow, hk, Instr.sameNow, he', h2]⟩
      · exact .inr ⟨j, v, x, by simp only [rowAt, he', Bool.false_eq_true, if_false, h1], h2, by simp only [Instr.findNow, hk, Instr.sameNow, he', h3]⟩

section
variable {P : Program} {t kt et : TypeId}

theorem run_insert_new {α : Type} {R : Value → α → Prop} {w : World} {m c : Nat} {es : Array MapEntry} {rs : List (ByteArray × α)} (ht : P.underlying t = some (.map kt et)) (hkt : P.underlying kt = some .string)
    (hm : w.heap[m]? = some (.map es c)) (hR : KeyRows R es.toList rs) (k : ByteArray) (hnew : rowAt k rs = none) (v : Value) :
    (Instr.mapUpdate t (.map (some m)) (.string k) v).run P w = .ok () { w with heap := w.heap.setIfInBounds m (.map (es.push ⟨.string k, v, c⟩) (c + 1)) } := by
  have h1 : Instr.findNow .string (.string k) es.toList 0 = some none := by
    rcases hR.find (k := k) 0 with ⟨_, h⟩ | ⟨j, u, x, h, _⟩
    · exact h
    · rw [hnew] at h; cases h
  have hik : MapKept.IsKey .string (.string k) := trivial
  simp [Instr.mapUpdate, run_underlying ht, MapKept.run_getObj_map hm, MapKept.run_checkKey hkt hik, MapKept.run_findKey hkt h1, MapKept.run_setObj_map _ hm, Result.andThen]

theorem run_lookup_rows {α : Type} {R : Value → α → Prop} {w : World} {m c : Nat} {es : Array MapEntry} {rs : List (ByteArray × α)} (ht : P.underlying t = some (.map kt et)) (hkt : P.underlying kt = some .string)
    (hm : w.heap[m]? = some (.map es c)) (hR : KeyRows R es.toList rs) {z : Value} (hz : (zeroValue et).run P w = .ok z w) (k : ByteArray) (ok : Bool) :
    (rowAt k rs = none ∧ (Instr.lookup t (.map (some m)) (.string k) ok).run P w = .ok (if ok then .tuple #[z, .bool false] else z) w) ∨
    ∃ v x, rowAt k rs = some x ∧ R v x ∧ (Instr.lookup t (.map (some m)) (.string k) ok).run P w = .ok (if ok then .tuple #[v, .bool true] else v) w := by
  have hik : MapKept.IsKey .string (.string k) := trivial
  rcases hR.find (k := k) 0 with ⟨h0, h1⟩ | ⟨j, v, x, h0, h2, h1⟩
  · exact .inl ⟨h0, by cases ok <;> simp [Instr.lookup, run_underlying ht, MapKept.run_getObj_map hm, MapKept.run_checkKey hkt hik, MapKept.run_findKey hkt h1, hz, Result.andThen]⟩
  · exact .inr ⟨v, x, h0, h2, by cases ok <;> simp [Instr.lookup, run_underlying ht, MapKept.run_getObj_map hm, MapKept.run_checkKey hkt hik, MapKept.run_findKey hkt h1, Result.andThen]⟩
end

/-- Block m alone is written: every other block stands. -/
theorem grownBy_setIn {w : World} {m : Nat} (o : Obj) : w.grownBy { w with heap := w.heap.setIfInBounds m o } (some m) := by
  refine ⟨rfl, rfl, rfl, by simp, fun k _ hne => ?_⟩
  simp only [Array.getElem?_setIfInBounds]
  rw [if_neg (fun h => hne (by rw [h]))]

/-- The map of a literal as it grows, at the operation. -/
theorem wpList_insert_new {P : Program} {ops : Array Oper} {rest : List Oper} {o : Oper} {a : Act} {Q : Exit → Act → World → Prop} (w : World)
    {α : Type} {R : Value → α → Prop} {m c : Nat} {es : Array MapEntry} {rs : List (ByteArray × α)} {t kt et : TypeId} (hg : o.guard = none) (mo x : Operand) (k : ByteArray) (hop : o.op = Op.insert t mo (.const (.string k)) x)
    (ht : P.underlying t = some (.map kt et)) (hkt : P.underlying kt = some .string) (hmo : a.eval mo = .map (some m)) (hm : w.heap[m]? = some (.map es c)) (hR : KeyRows R es.toList rs) (hnew : rowAt k rs = none) (v : Value) (hv : a.eval x = v)
    (hK : ∀ w', w'.heap[m]? = some (.map (es.push ⟨.string k, v, c⟩) (c + 1)) → w.grownBy w' (some m) → wpList P ops Q rest (a.put o.dst undef) w') :
    wpList P ops Q (o :: rest) a w := by
  refine wpList_plain hg fun K hK' => ?_
  have hrun := run_insert_new ht hkt hm hR k hnew v
  have hlt : m < w.heap.size := (Array.getElem?_eq_some_iff.1 hm).1
  unfold Oper.wp
  have hc : a.eval (.const (.string k)) = .string k := rfl
  simp [execOp, hop, hmo, hv, hc, hrun, Result.andThen]
  exact hK' _ _ (hK _ (by simp [hlt]) (grownBy_setIn _))
end Go.Proofs.YtaadhehcoegmhaaGreatDoor
