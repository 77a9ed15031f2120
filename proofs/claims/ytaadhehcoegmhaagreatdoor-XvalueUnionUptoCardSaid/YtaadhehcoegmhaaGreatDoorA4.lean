/- xvalue.functions: the walk: it hands back a map that holds the table. -/
import Derived.Test.YtaadhehcoegmhaaGreatDoorA3
namespace Go.Proofs.YtaadhehcoegmhaaGreatDoor
open Go Go.RowKit

/-- The table of all functions: of each name its row. -/
def fnTable : List (ByteArray × FnDesc) := [
  (⟨#[108,97,115,116]⟩, .none 0 0),
  (⟨#[112,111,115,105,116,105,111,110]⟩, .none 0 0),
  (⟨#[108,97,110,103]⟩, .none 1 1),
  (⟨#[116,114,117,101]⟩, .plain 0 0 false 113 53),
  (⟨#[102,97,108,115,101]⟩, .plain 0 0 false 113 54),
  (⟨#[98,111,111,108,101,97,110]⟩, .plain 1 1 false 113 55),
  (⟨#[110,111,116]⟩, .plain 1 1 false 113 57),
  (⟨#[110,117,109,98,101,114]⟩, .plain 0 1 false 115 59),
  (⟨#[102,108,111,111,114]⟩, .plain 1 1 false 115 61),
  (⟨#[99,101,105,108,105,110,103]⟩, .plain 1 1 false 115 63),
  (⟨#[114,111,117,110,100]⟩, .plain 1 1 false 115 65),
  (⟨#[115,117,109]⟩, .plain 1 1 true 115 68),
  (⟨#[99,111,117,110,116]⟩, .plain 1 1 true 115 69),
  (⟨#[110,97,109,101]⟩, .named 72),
  (⟨#[108,111,99,97,108,45,110,97,109,101]⟩, .named 73),
  (⟨#[110,97,109,101,115,112,97,99,101,45,117,114,105]⟩, .named 74),
  (⟨#[115,116,114,105,110,103]⟩, .plain 0 1 false 124 76),
  (⟨#[110,111,114,109,97,108,105,122,101,45,115,112,97,99,101]⟩, .plain 0 1 false 124 78),
  (⟨#[115,116,114,105,110,103,45,108,101,110,103,116,104]⟩, .plain 0 1 false 115 80),
  (⟨#[99,111,110,99,97,116]⟩, .plain 2 8 false 124 81),
  (⟨#[115,116,97,114,116,115,45,119,105,116,104]⟩, .plain 2 2 false 113 82),
  (⟨#[99,111,110,116,97,105,110,115]⟩, .plain 2 2 false 113 84),
  (⟨#[115,117,98,115,116,114,105,110,103,45,98,101,102,111,114,101]⟩, .plain 2 2 false 124 86),
  (⟨#[115,117,98,115,116,114,105,110,103,45,97,102,116,101,114]⟩, .plain 2 2 false 124 88),
  (⟨#[116,114,97,110,115,108,97,116,101]⟩, .plain 3 3 false 124 89),
  (⟨#[115,117,98,115,116,114,105,110,103]⟩, .plain 2 3 false 124 90),
  (⟨#[102,111,114,109,97,116,45,110,117,109,98,101,114]⟩, .bare 2 2 91)]

theorem below_then {B : Nat} {w w1 w2 : World} (h : Below B w w1) (hB : B ≤ w1.heap.size) (k : Below w1.heap.size w1 w2) : Below B w w2 :=
  h.trans ⟨k.os, k.tape, k.output, k.size, fun i hi => k.block i (Nat.lt_of_lt_of_le hi hB)⟩

theorem heap_alloc2_old (w : World) (A B : Obj) : ((w.alloc A).alloc B).heap[w.heap.size]? = some A := by
  show ((w.heap.push A).push B)[w.heap.size]? = _
  rw [Array.getElem?_push, if_neg (by simp)]
  simp

theorem heap_setRow_ne (w : World) (g : Nat) (cs : Array Value) (k : Nat) (h : k ≠ g) : (w.setRow g cs).heap[k]? = w.heap[k]? := by
  simp only [World.setRow, Array.getElem?_modify]
  rw [if_neg (by omega)]
theorem below_setRow {B : Nat} {a w : World} (h : Below B a w) {g : Nat} {cs : Array Value} (hg : B ≤ g) : Below B a (w.setRow g cs) :=
  h.trans ⟨rfl, rfl, rfl, by simp [World.setRow], fun k hk => heap_setRow_ne _ _ _ _ (by omega)⟩
theorem Captured.setRow {w : World} {b g : Nat} {f : Value} {cs : Array Value} (h : Captured w b f) (hne : b ≠ g) : Captured (w.setRow g cs) b f :=
  (World.cell?_of_block (w := w) (heap_setRow_ne w g cs b hne)).trans h

theorem ne_of_lt' {w : World} {m : Nat} (h : m < w.heap.size) : w.heap.size ≠ m := by omega

theorem gives_truth (n : Int) (f m : Nat) (w : World) (hm : m < w.heap.size) : Gives 52 #[.int .i64 n, .func (.func f) #[] #[]] w fun v w' => FnIs m w' v (.plain n n false 113 f) ∧ Below w.heap.size w w' :=
  Calls.mono (truth_any n (.func f) #[] #[] w) fun _ _ ⟨he, hc, hb⟩ => ⟨_, he, ⟨_, rfl, ne_of_lt' hm, hc⟩, hb⟩
theorem gives_number (n : Int) (f m : Nat) (w : World) (hm : m < w.heap.size) : Gives 58 #[.int .i64 n, .func (.func f) #[] #[]] w fun v w' => FnIs m w' v (.plain n 1 false 115 f) ∧ Below w.heap.size w w' :=
  Calls.mono (number_any n (.func f) #[] #[] w) fun _ _ ⟨he, hc, hb⟩ => ⟨_, he, ⟨_, rfl, ne_of_lt' hm, hc⟩, hb⟩
theorem gives_text (l n : Int) (f m : Nat) (w : World) (hm : m < w.heap.size) : Gives 75 #[.int .i64 l, .int .i64 n, .func (.func f) #[] #[]] w fun v w' => FnIs m w' v (.plain l n false 124 f) ∧ Below w.heap.size w w' :=
  Calls.mono (text_any l n (.func f) #[] #[] w) fun _ _ ⟨he, hc, hb⟩ => ⟨_, he, ⟨_, rfl, ne_of_lt' hm, hc⟩, hb⟩

set_option maxRecDepth 100000 in
set_option maxHeartbeats 400000 in
theorem gives_named (f m : Nat) (w : World) (hm : m < w.heap.size) : Gives 71 #[.func (.func f) #[] #[]] w fun v w' => FnIs m w' v (.named f) ∧ Below w.heap.size w w' := by
  unfold Gives
  go_enter Tryz.func71, Tryz.ntmps71
  go_wp2_with fail
  refine (text_any 0 1 (.func 122) #[] #[.pointer (some ⟨w.heap.size, 0, none⟩)] _).mono ?_
  rintro e w1 ⟨rfl, hc1, hb1⟩
  simp only [fnRow]
  go_wp2_with fail
  refine (ofNodes_any 0 1 false (.func 124) #[] #[.pointer (some ⟨w.heap.size + 1 + 1, 0, none⟩)] _).mono ?_
  rintro e w2 ⟨rfl, hb2⟩
  simp only [fnRow]
  have hb := below_then hb1 hb1.size hb2
  have hg2 : w2.heap[w.heap.size + 1]? = some (.cells #[.int .i64 0, .int .i64 0, .bool false, .nilFunc] 82 (0, 0)) := (hb.block _ (by simp)).trans (heap_alloc2_new w _ _)
  have hg1 : w2.heap[w.heap.size]? = some (.cells #[.func (.func f) #[] #[]] 122 (0, 0)) := (hb.block _ (by simp; omega)).trans (heap_alloc2_old w _ _)
  refine ‹∀ a w, wpList _ _ _ _ a w → _› _ _ ?_
  refine wpList_store_row rfl 82 (.tmp 2) (.tmp 5) rfl (w.heap.size + 1) #[.int .i64 0, .int .i64 1, .bool true, .func (.func 124) #[] #[.pointer (some ⟨w.heap.size + 1 + 1, 0, none⟩)]] rfl rfl 82 _ hg2 (by kernel_rfl) rfl (by simp [Value.oneCell']) ?_
  go_wp2_with fail
  refine bodyPost_ret (results_cell_row Tryz.results71 _ _ (w.heap.size + 1) 82 _ (0, 0) _ rfl (setRow_heap w2 _ _ _ 82 _ hg2) Tryz.underlying82 rfl (by kernel_rfl)) rfl ⟨_, rfl, ⟨w.heap.size + 1 + 1, w.heap.size, rfl, by omega, by omega, ?_, ?_⟩, ?_⟩
  · have hc2 : Captured w2 (w.heap.size + 1 + 1) (.func (.func 122) #[] #[.pointer (some ⟨w.heap.size, 0, none⟩)]) := by simpa using hc1.below hb2
    exact hc2.setRow (by omega)
  · refine Captured.setRow ?_ (by omega)
    simp [Captured, World.cell?, hg1]
  · exact below_setRow (((Below.refl _ _).alloc (Nat.le_refl _) _).alloc (by simp) _ |>.trans (hb.mono (B' := w.heap.size) (by simp; omega))) (g := w.heap.size + 1) (by omega)
theorem gives_numberN (n : Int) (f m : Nat) (w : World) (_ : m < w.heap.size) {v : Value} (h : FnIs m w v (.plain n 1 false 115 f)) : Gives 67 #[v] w fun v' w' => FnIs m w' v' (.plain n 1 true 115 f) ∧ Below w.heap.size w w' := by
  obtain ⟨b, rfl, hb, hc⟩ := h
  exact Calls.mono (ofNodes_any n 1 false (.func 115) #[] #[.pointer (some ⟨b, 0, none⟩)] w) fun _ _ ⟨he, hb'⟩ => ⟨_, he, ⟨b, rfl, hb, hc.below hb'⟩, hb'⟩

section
variable {w0 w : World} {m : Nat} {rs : List (ByteArray × FnDesc)} {a : Act} {ops : Array Oper} {rest : List Oper} {Q : Exit → Act → World → Prop}
theorem step_truth (hI : FInv w0 m rs a w) (i : Nat) (hi : i ≠ 1) (hi' : i < 32) (k : ByteArray) (n : Int) (f : Nat) (hnew : rowAt k rs = none) {tys : Array TypeId} {ty ty' : TypeId} {pos pos' : String} {af af' : Array Edge}
    (hK : ∀ a' w', FInv w0 m (rs ++ [(k, .plain n n false 113 f)]) a' w' → wpList Tryz.prog ops Q rest a' w') :
    wpList Tryz.prog ops Q (⟨some i, .call ⟨.value (.func 52), #[.const (.int .i64 n), .func f], tys⟩, ty, pos, af, none⟩ :: ⟨none, .insert 83 (.tmp 1) (.const (.string k)) (.tmp i), ty', pos', af', none⟩ :: rest) a w :=
  step_row hI i 52 hi hi' k _ #[.int .i64 n, .func (.func f) #[] #[]] _ (fun a => by simp [Act.eval]) (Tryz.call52 _) (fun w hm => gives_truth n f m w hm) hnew hK
theorem step_number (hI : FInv w0 m rs a w) (i : Nat) (hi : i ≠ 1) (hi' : i < 32) (k : ByteArray) (n : Int) (f : Nat) (hnew : rowAt k rs = none) {tys : Array TypeId} {ty ty' : TypeId} {pos pos' : String} {af af' : Array Edge}
    (hK : ∀ a' w', FInv w0 m (rs ++ [(k, .plain n 1 false 115 f)]) a' w' → wpList Tryz.prog ops Q rest a' w') :
    wpList Tryz.prog ops Q (⟨some i, .call ⟨.value (.func 58), #[.const (.int .i64 n), .func f], tys⟩, ty, pos, af, none⟩ :: ⟨none, .insert 83 (.tmp 1) (.const (.string k)) (.tmp i), ty', pos', af', none⟩ :: rest) a w :=
  step_row hI i 58 hi hi' k _ #[.int .i64 n, .func (.func f) #[] #[]] _ (fun a => by simp [Act.eval]) (Tryz.call58 _) (fun w hm => gives_number n f m w hm) hnew hK
theorem step_text (hI : FInv w0 m rs a w) (i : Nat) (hi : i ≠ 1) (hi' : i < 32) (k : ByteArray) (l n : Int) (f : Nat) (hnew : rowAt k rs = none) {tys : Array TypeId} {ty ty' : TypeId} {pos pos' : String} {af af' : Array Edge}
    (hK : ∀ a' w', FInv w0 m (rs ++ [(k, .plain l n false 124 f)]) a' w' → wpList Tryz.prog ops Q rest a' w') :
    wpList Tryz.prog ops Q (⟨some i, .call ⟨.value (.func 75), #[.const (.int .i64 l), .const (.int .i64 n), .func f], tys⟩, ty, pos, af, none⟩ :: ⟨none, .insert 83 (.tmp 1) (.const (.string k)) (.tmp i), ty', pos', af', none⟩ :: rest) a w :=
  step_row hI i 75 hi hi' k _ #[.int .i64 l, .int .i64 n, .func (.func f) #[] #[]] _ (fun a => by simp [Act.eval]) (Tryz.call75 _) (fun w hm => gives_text l n f m w hm) hnew hK
theorem step_named (hI : FInv w0 m rs a w) (i : Nat) (hi : i ≠ 1) (hi' : i < 32) (k : ByteArray) (f : Nat) (hnew : rowAt k rs = none) {tys : Array TypeId} {ty ty' : TypeId} {pos pos' : String} {af af' : Array Edge}
    (hK : ∀ a' w', FInv w0 m (rs ++ [(k, .named f)]) a' w' → wpList Tryz.prog ops Q rest a' w') :
    wpList Tryz.prog ops Q (⟨some i, .call ⟨.value (.func 71), #[.func f], tys⟩, ty, pos, af, none⟩ :: ⟨none, .insert 83 (.tmp 1) (.const (.string k)) (.tmp i), ty', pos', af', none⟩ :: rest) a w :=
  step_row hI i 71 hi hi' k _ #[.func (.func f) #[] #[]] _ (fun a => by simp [Act.eval]) (Tryz.call71 _) (fun w hm => gives_named f m w hm) hnew hK
theorem step_numberN (hI : FInv w0 m rs a w) (i j : Nat) (hi : i ≠ 1) (hi' : i < 32) (hj : j ≠ 1) (hj' : j < 32) (k : ByteArray) (n : Int) (f : Nat) (hnew : rowAt k rs = none) {tys tys2 : Array TypeId} {ty ty' ty2 : TypeId} {pos pos' pos2 : String} {af af' af2 : Array Edge}
    (hK : ∀ a' w', FInv w0 m (rs ++ [(k, .plain n 1 true 115 f)]) a' w' → wpList Tryz.prog ops Q rest a' w') :
    wpList Tryz.prog ops Q (⟨some i, .call ⟨.value (.func 58), #[.const (.int .i64 n), .func f], tys⟩, ty, pos, af, none⟩ :: ⟨some j, .call ⟨.value (.func 67), #[.tmp i], tys2⟩, ty2, pos2, af2, none⟩ :: ⟨none, .insert 83 (.tmp 1) (.const (.string k)) (.tmp j), ty', pos', af', none⟩ :: rest) a w := by
  refine wpList_call_gives rfl 58 _ tys rfl #[.int .i64 n, .func (.func f) #[] #[]] (by simp [Act.eval]) (Tryz.call58 _) (gives_number n f m w hI.table.lt) fun v w1 ⟨hd, hb⟩ => ?_
  have hI1 := hI.put i hi v hb
  refine wpList_call_gives rfl 67 _ tys2 rfl #[v] (by simp [eval_put (show i < a.tmps.size by rw [hI.size]; exact hi') v]) (Tryz.call67 _) (gives_numberN n f m w1 hI1.table.lt hd) fun v2 w2 ⟨hd2, hb2⟩ => ?_
  exact step_insert (hI1.put j hj v2 hb2) j k v2 _ (eval_put (by rw [hI1.size]; exact hj') v2) hd2 hnew hK
end

theorem step_build {w0 w : World} {m : Nat} {rs : List (ByteArray × FnDesc)} {a : Act} {ops : Array Oper} {rest : List Oper} {Q : Exit → Act → World → Prop} (hI : FInv w0 m rs a w) (i : Nat) (hi : i ≠ 1) (hi' : i < 32) (k : ByteArray) (parts : Array (Nat × Operand)) (v : Value) (d : FnDesc)
    (hrun : ∀ (a : Act) (w : World), (Instr.build 82 (parts.map fun (i, x) => (i, a.eval x))).run Tryz.prog w = .ok v w) (hd : ∀ w, FnIs m w v d) (hnew : rowAt k rs = none) {ty ty' : TypeId} {pos pos' : String} {af af' : Array Edge}
    (hK : ∀ a' w', FInv w0 m (rs ++ [(k, d)]) a' w' → wpList Tryz.prog ops Q rest a' w') :
    wpList Tryz.prog ops Q (⟨some i, .build 82 parts, ty, pos, af, none⟩ :: ⟨none, .insert 83 (.tmp 1) (.const (.string k)) (.tmp i), ty', pos', af', none⟩ :: rest) a w := by
  refine wpList_plain rfl fun K hK' => ?_
  unfold Oper.wp execOp
  simp only [Sem.run_bind, hrun, Result.andThen_ok, Sem.run_pure]
  exact hK' _ _ (step_insert (hI.put i hi v (Below.refl _ _)) i k v d (eval_put (by rw [hI.size]; exact hi') v) (hd w) hnew hK)

theorem wpList_move {P : Program} {ops : Array Oper} {rest : List Oper} {o : Oper} {a : Act} {Q : Exit → Act → World → Prop} {w : World} (hg : o.guard = none) (x : Operand) (hop : o.op = .move x ∨ o.op = .assign x)
    (hK : wpList P ops Q rest (a.put o.dst (a.eval x)) w) : wpList P ops Q (o :: rest) a w := by
  refine wpList_plain hg fun K hK' => ?_
  unfold Oper.wp execOp
  rcases hop with hop | hop <;> simp only [hop, Sem.run_pure] <;> exact hK' _ _ hK

theorem step_makeMap {ops : Array Oper} {rest : List Oper} {Q : Exit → Act → World → Prop} {a : Act} {w : World} (hs : a.tmps.size = 32) (hd : a.defers = []) {ty : TypeId} {pos : String} {af : Array Edge}
    (hK : ∀ a' w', FInv w w.heap.size [] a' w' → wpList Tryz.prog ops Q rest a' w') : wpList Tryz.prog ops Q (⟨some 1, .makeMap 83 none, ty, pos, af, none⟩ :: rest) a w := by
  refine wpList_plain rfl fun K hK' => ?_
  unfold Oper.wp execOp
  have hmm := @run_makeMap Tryz.prog
  simp only [Option.map_none, hmm, Sem.run_bind, Result.andThen_ok, Sem.run_pure]
  refine hK' _ _ (hK _ _ { size := ?_, map := ?_, defers := ?_, ge := Nat.le_refl _, below := (Below.refl _ _).alloc (Nat.le_refl _) _, table := ⟨#[], 0, (MapKept.heap_alloc w _).1, trivial⟩ })
  · simp [Act.put, hs]
  · simp [Act.put, hs]
  · exact hd

set_option maxRecDepth 100000 in
set_option maxHeartbeats 1000000 in
theorem functions_any (w : World) :
    Gives 32 #[] w fun v w' => v = .map (some w.heap.size) ∧ TableIs w' w.heap.size fnTable ∧ Below w.heap.size w w' := by
  unfold Gives
  go_enter Tryz.func32, Tryz.ntmps32
  go_step
  go_step
  go_step
  go_step
  go_step
  go_step
  go_step
  go_step
  go_step
  go_step
  go_step
  refine step_makeMap rfl rfl fun a w1 h => ?_
  refine step_build h 2 (by decide) (by decide) _ _ (fnRow 0 0 false .nilFunc) (.none 0 0) (fun a w => by simp [Act.eval, go_sem, fnRow]) (fun _ => rfl) (by decide +kernel) fun a w1 h => ?_
  refine step_build h 3 (by decide) (by decide) _ _ (fnRow 0 0 false .nilFunc) (.none 0 0) (fun a w => by simp [Act.eval, go_sem, fnRow]) (fun _ => rfl) (by decide +kernel) fun a w1 h => ?_
  refine step_build h 4 (by decide) (by decide) _ _ (fnRow 1 1 false .nilFunc) (.none 1 1) (fun a w => by simp [Act.eval, go_sem, fnRow]) (fun _ => rfl) (by decide +kernel) fun a w1 h => ?_
  refine step_truth h 5 (by decide) (by decide) _ _ _ (by decide +kernel) fun a w1 h => ?_
  refine step_truth h 6 (by decide) (by decide) _ _ _ (by decide +kernel) fun a w1 h => ?_
  refine step_truth h 7 (by decide) (by decide) _ _ _ (by decide +kernel) fun a w1 h => ?_
  refine step_truth h 8 (by decide) (by decide) _ _ _ (by decide +kernel) fun a w1 h => ?_
  refine step_number h 9 (by decide) (by decide) _ _ _ (by decide +kernel) fun a w1 h => ?_
  refine step_number h 10 (by decide) (by decide) _ _ _ (by decide +kernel) fun a w1 h => ?_
  refine step_number h 11 (by decide) (by decide) _ _ _ (by decide +kernel) fun a w1 h => ?_
  refine step_number h 12 (by decide) (by decide) _ _ _ (by decide +kernel) fun a w1 h => ?_
  refine step_numberN h 13 14 (by decide) (by decide) (by decide) (by decide) _ _ _ (by decide +kernel) fun a w1 h => ?_
  refine step_numberN h 15 16 (by decide) (by decide) (by decide) (by decide) _ _ _ (by decide +kernel) fun a w1 h => ?_
  refine step_named h 17 (by decide) (by decide) _ _ (by decide +kernel) fun a w1 h => ?_
  refine step_named h 18 (by decide) (by decide) _ _ (by decide +kernel) fun a w1 h => ?_
  refine step_named h 19 (by decide) (by decide) _ _ (by decide +kernel) fun a w1 h => ?_
  refine step_text h 20 (by decide) (by decide) _ _ _ _ (by decide +kernel) fun a w1 h => ?_
  refine step_text h 21 (by decide) (by decide) _ _ _ _ (by decide +kernel) fun a w1 h => ?_
  refine step_number h 22 (by decide) (by decide) _ _ _ (by decide +kernel) fun a w1 h => ?_
  refine step_text h 23 (by decide) (by decide) _ _ _ _ (by decide +kernel) fun a w1 h => ?_
  refine step_truth h 24 (by decide) (by decide) _ _ _ (by decide +kernel) fun a w1 h => ?_
  refine step_truth h 25 (by decide) (by decide) _ _ _ (by decide +kernel) fun a w1 h => ?_
  refine step_text h 26 (by decide) (by decide) _ _ _ _ (by decide +kernel) fun a w1 h => ?_
  refine step_text h 27 (by decide) (by decide) _ _ _ _ (by decide +kernel) fun a w1 h => ?_
  refine step_text h 28 (by decide) (by decide) _ _ _ _ (by decide +kernel) fun a w1 h => ?_
  refine step_text h 29 (by decide) (by decide) _ _ _ _ (by decide +kernel) fun a w1 h => ?_
  refine step_build h 30 (by decide) (by decide) _ _ (fnRow 2 2 false (.func (.func 91) #[] #[])) (.bare 2 2 91) (fun a w => by simp [Act.eval, go_sem, fnRow]) (fun _ => rfl) (by decide +kernel) fun a w1 h => ?_
  refine wpList_move rfl _ (.inl rfl) ?_
  refine wpList_move rfl _ (.inr rfl) ?_
  refine wpList_nil ?_
  refine ‹∀ a w, Code.wp _ _ _ a w → _› _ _ (wp_ret ?_)
  have h31 : (a.put (some 31) (a.eval (.tmp 1))).eval (.tmp 31) = .map (some w.heap.size) := by rw [eval_put (by rw [h.size]; decide), h.eval_map]
  refine bodyPost_ret (v := .map (some w.heap.size)) ?_ h.defers ⟨_, rfl, rfl, h.table, h.below⟩
  rw [results_tmp Tryz.results32]
  have hs := h.size
  show Result.ok ((((a.put (some 31) (a.eval (.tmp 1))).put (some 0) ((a.put (some 31) (a.eval (.tmp 1))).eval (.tmp 31)))).eval (.tmp 0)) _ = _
  rw [eval_put (by simp [Act.put, hs]), h31]
end Go.Proofs.YtaadhehcoegmhaaGreatDoor
