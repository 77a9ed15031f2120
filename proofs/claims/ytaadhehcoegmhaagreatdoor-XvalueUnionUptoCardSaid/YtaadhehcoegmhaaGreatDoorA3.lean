/- The table of functions that xvalue.functions makes: every row, and what each row's closure holds. -/
import Derived.Test.YtaadhehcoegmhaaGreatDoorA1
import Derived.Test.YtaadhehcoegmhaaGreatDoorA2
namespace Go.Proofs.YtaadhehcoegmhaaGreatDoor
open Go Go.RowKit

/-- The call answers v, and the world is then so. -/
def Gives (f : FuncId) (args : Array Value) (w : World) (R : Value → World → Prop) : Prop :=
  Calls Tryz.prog f args w fun e w' => ∃ v, e = .returned v ∧ R v w'
theorem Gives.mono {f : FuncId} {args : Array Value} {w : World} {R R' : Value → World → Prop} (h : Gives f args w R) (hR : ∀ v w', R v w' → R' v w') : Gives f args w R' :=
  Calls.mono h fun _ _ ⟨v, hv, hr⟩ => ⟨v, hv, hR v _ hr⟩

theorem wpList_call_gives {ops : Array Oper} {rest : List Oper} {o : Oper} {a : Act} {Q : Exit → Act → World → Prop} {w : World} (hg : o.guard = none) (f : FuncId) (cargs : Array Operand) (tys : Array TypeId)
    (hop : o.op = .call ⟨.value (.func f), cargs, tys⟩) (args : Array Value) (hargs : cargs.map a.eval = args) (hen : ∀ w, (callFunc f args).run Tryz.prog w = .ok (.enter f args) w)
    {R : Value → World → Prop} (hcall : Gives f args w R) (hK : ∀ v w', R v w' → wpList Tryz.prog ops Q rest (a.put o.dst v) w') : wpList Tryz.prog ops Q (o :: rest) a w := by
  refine wpList_plain hg fun K hK' => ?_
  have hev : a.eval (.func f) = .func (.func f) #[] #[] := rfl
  unfold Oper.wp execOp
  simp only [hop, resolve, hargs, hev, Deferred.ofValue, Sem.run_bind, Sem.run_pure, Result.andThen_ok, invoke, Array.empty_append, Array.append_empty, hen, Oper.upon_enter]
  exact Calls.mono hcall fun e w' ⟨v, hv, hr⟩ => by subst hv; exact hK' _ _ (hK v w' hr)

/-- What a row of the table is: none; a closure over a function; a closure over a closure over a function; a function. -/
inductive FnDesc where
  | none (l k : Int)
  | plain (l k : Int) (nodes : Bool) (g f : Nat)
  | named (f : Nat)
  | bare (l k : Int) (f : Nat)

/-- The value v is such a row; what its closures captured lies in blocks other than m. -/
def FnIs (m : Nat) (w : World) (v : Value) : FnDesc → Prop
  | .none l k => v = fnRow l k false .nilFunc
  | .plain l k nodes g f => ∃ b, v = fnRow l k nodes (.func (.func g) #[] #[.pointer (some ⟨b, 0, Option.none⟩)]) ∧ b ≠ m ∧ Captured w b (.func (.func f) #[] #[])
  | .named f => ∃ b b2, v = fnRow 0 1 true (.func (.func 124) #[] #[.pointer (some ⟨b, 0, Option.none⟩)]) ∧ b ≠ m ∧ b2 ≠ m ∧ Captured w b (.func (.func 122) #[] #[.pointer (some ⟨b2, 0, Option.none⟩)]) ∧ Captured w b2 (.func (.func f) #[] #[])
  | .bare l k f => v = fnRow l k false (.func (.func f) #[] #[])

theorem Captured.kept {w w' : World} {b m : Nat} {f : Value} (h : Captured w b f) (hg : w.grownBy w' (some m)) (hne : b ≠ m) : Captured w' b f := by
  have hlt := World.block_lt_of_cell? w _ h
  exact (World.cell?_of_block (w := w) (hg.block b hlt (fun e => hne (Option.some.inj e)))).trans h
theorem Captured.below {w w' : World} {b : Nat} {f : Value} (h : Captured w b f) (hb : Below w.heap.size w w') : Captured w' b f :=
  (hb.cell (World.block_lt_of_cell? w _ h)).trans h
theorem FnIs.kept {m : Nat} {w w' : World} {v : Value} {d : FnDesc} (h : FnIs m w v d) (hg : w.grownBy w' (some m)) : FnIs m w' v d := by
  cases d with
  | none l k => exact h
  | bare l k f => exact h
  | plain l k nodes g f => obtain ⟨b, h1, h2, h3⟩ := h; exact ⟨b, h1, h2, h3.kept hg h2⟩
  | named f => obtain ⟨b, b2, h1, h2, h3, h4, h5⟩ := h; exact ⟨b, b2, h1, h2, h3, h4.kept hg h2, h5.kept hg h3⟩
theorem FnIs.below {m : Nat} {w w' : World} {v : Value} {d : FnDesc} (h : FnIs m w v d) (hb : Below w.heap.size w w') : FnIs m w' v d :=
  h.kept ⟨hb.os, hb.tape, hb.output, hb.size, fun k hk _ => hb.block k hk⟩

/-- The map's block holds a table of such rows. -/
def TableIs (w : World) (m : Nat) (rs : List (ByteArray × FnDesc)) : Prop :=
  ∃ es : Array MapEntry, ∃ c, w.heap[m]? = some (.map es c) ∧ KeyRows (FnIs m w) es.toList rs

/-- While the table grows: the frame, the map, what was there. -/
structure FInv (w0 : World) (m : Nat) (rs : List (ByteArray × FnDesc)) (a : Act) (w : World) : Prop where
  size : a.tmps.size = 32
  map : a.tmps[1]? = some (.map (some m))
  defers : a.defers = []
  ge : w0.heap.size ≤ m
  below : Below w0.heap.size w0 w
  table : TableIs w m rs

theorem TableIs.lt {w : World} {m : Nat} {rs : List (ByteArray × FnDesc)} (h : TableIs w m rs) : m < w.heap.size := by
  obtain ⟨es, c, h1, _⟩ := h
  exact (Array.getElem?_eq_some_iff.1 h1).1

theorem TableIs.below {w w' : World} {m : Nat} {rs : List (ByteArray × FnDesc)} (h : TableIs w m rs) (hb : Below w.heap.size w w') : TableIs w' m rs := by
  have hlt := h.lt
  obtain ⟨es, c, h1, h2⟩ := h
  exact ⟨es, c, (hb.block m hlt).trans h1, h2.imp fun _ _ hf => hf.below hb⟩

theorem FInv.eval_map {w0 w : World} {m : Nat} {rs : List (ByteArray × FnDesc)} {a : Act} (h : FInv w0 m rs a w) : a.eval (.tmp 1) = .map (some m) := by
  simp [Act.eval, Array.getD_eq_getD_getElem?, h.map]

theorem FInv.put {w0 w w' : World} {m : Nat} {rs : List (ByteArray × FnDesc)} {a : Act} (h : FInv w0 m rs a w) (i : Nat) (hi : i ≠ 1) (v : Value) (hb : Below w.heap.size w w') : FInv w0 m rs (a.put (some i) v) w' where
  size := by simp [Act.put, h.size]
  map := by simp only [Act.put]; rw [Array.getElem?_setIfInBounds_ne (by omega)]; exact h.map
  defers := h.defers
  ge := h.ge
  below := h.below.trans ⟨hb.os, hb.tape, hb.output, hb.size, fun k hk => hb.block k (Nat.lt_of_lt_of_le hk h.below.size)⟩
  table := h.table.below hb

theorem eval_put {a : Act} {i : Nat} (h : i < a.tmps.size) (v : Value) : (a.put (some i) v).eval (.tmp i) = v := by
  simp [Act.eval, Act.put, Array.getD_eq_getD_getElem?, h]

section
variable {w0 w : World} {m : Nat} {rs : List (ByteArray × FnDesc)} {a : Act} {ops : Array Oper} {rest : List Oper} {Q : Exit → Act → World → Prop}

/-- One row is put in. -/
theorem step_insert (hI : FInv w0 m rs a w) (i : Nat) (k : ByteArray) (v : Value) (d : FnDesc) (hv : a.eval (.tmp i) = v) (hd : FnIs m w v d) (hnew : rowAt k rs = none) {ty : TypeId} {pos : String} {af : Array Edge}
    (hK : ∀ a' w', FInv w0 m (rs ++ [(k, d)]) a' w' → wpList Tryz.prog ops Q rest a' w') : wpList Tryz.prog ops Q (⟨none, .insert 83 (.tmp 1) (.const (.string k)) (.tmp i), ty, pos, af, none⟩ :: rest) a w := by
  obtain ⟨es, c, hm, hR⟩ := hI.table
  refine wpList_insert_new w rfl (.tmp 1) (.tmp i) k rfl Tryz.underlying83 Tryz.underlying9 hI.eval_map hm hR hnew v hv fun w' hm' hg => ?_
  exact hK _ _ { size := hI.size, map := hI.map, defers := hI.defers, ge := hI.ge, below := hI.below.grown hg hI.below.size (fun k hk => by cases hk; exact hI.ge), table := ⟨_, _, hm', by
    rw [Array.toList_push]
    exact (hR.imp fun _ _ hf => hf.kept hg).snoc (hd.kept hg)⟩ }

/-- A call makes a row, and it is put in. -/
theorem step_row (hI : FInv w0 m rs a w) (i f : Nat) (hi : i ≠ 1) (hi' : i < 32) (k : ByteArray) (cargs : Array Operand) (args : Array Value) (d : FnDesc) (hargs : ∀ a : Act, cargs.map a.eval = args)
    (hen : ∀ w, (callFunc f args).run Tryz.prog w = .ok (.enter f args) w) (hcall' : ∀ w : World, m < w.heap.size → Gives f args w fun v w' => FnIs m w' v d ∧ Below w.heap.size w w')
    (hnew : rowAt k rs = none) {tys : Array TypeId} {ty ty' : TypeId} {pos pos' : String} {af af' : Array Edge}
    (hK : ∀ a' w', FInv w0 m (rs ++ [(k, d)]) a' w' → wpList Tryz.prog ops Q rest a' w') :
    wpList Tryz.prog ops Q (⟨some i, .call ⟨.value (.func f), cargs, tys⟩, ty, pos, af, none⟩ :: ⟨none, .insert 83 (.tmp 1) (.const (.string k)) (.tmp i), ty', pos', af', none⟩ :: rest) a w := by
  refine wpList_call_gives rfl f cargs tys rfl args (hargs a) hen (hcall' w hI.table.lt) fun v w' ⟨hd, hb⟩ => ?_
  exact step_insert (hI.put i hi v hb) i k v d (eval_put (by rw [hI.size]; exact hi') v) hd hnew hK
end
end Go.Proofs.YtaadhehcoegmhaaGreatDoor
