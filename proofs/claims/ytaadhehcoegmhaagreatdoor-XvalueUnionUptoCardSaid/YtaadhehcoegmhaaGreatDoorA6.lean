/- The closures round a function of values: what they hand back. -/
import Derived.Test.YtaadhehcoegmhaaGreatDoorA5
namespace Go.Proofs.YtaadhehcoegmhaaGreatDoor
open Go Go.RowKit

theorem results_cell_tmp {P : Program} {fn : Func} {p r : Tmp} {ty : TypeId} (h : fn.results = #[.cell p ty, .tmp r]) (tmps : Array Value) (w : World) (g : Nat) (t : TypeId) (cs : Array Value) (fr : Nat × Nat) (d : TypeDesc)
    (hp : tmps.getD p undef = .pointer (some ⟨g, 0, none⟩)) (hg : w.heap[g]? = some (.cells cs t fr))
    (hu : P.underlying ty = some d) (hd : (match d with | .struct _ | .array _ _ => true | _ => false) = true) (hi : (P.info? ty).map (·.size) = some cs.size) :
    (results fn tmps).run P w = .ok (.tuple #[.agg cs, tmps.getD r undef]) w := by
  have hp' : tmps[p]?.getD undef = .pointer (some ⟨g, 0, none⟩) := by simpa using hp
  simp [results, h, hp', asAddr, run_loadVar_row w g t ty cs fr d hg hu hd hi]

/-- The zero value of a value. -/
def vZero : Value := .agg #[.int .i64 0, .slice none 0 0, .int .i64 0, .int .i64 0, .string ⟨#[]⟩, .bool false]
def vBool (x : Bool) : Value := .agg #[.int .i64 3, .slice none 0 0, .int .i64 0, .int .i64 0, .string ⟨#[]⟩, .bool x]

set_option maxRecDepth 100000 in
set_option maxHeartbeats 400000 in
theorem num_any (t sl : Value) (xs : List GV) (i : Nat) (k v : Int) (w : World) (h : ArgsAt w sl xs) (hi : xs[i]? = some (.num k v)) :
    Calls Tryz.prog 60 #[.agg #[t, sl], .int .i64 i] w fun e w' => e = .returned (.agg #[.int .i64 k, .int .i64 v]) ∧ Below w.heap.size w w' := by
  obtain ⟨b, cap, rfl, hl, hc⟩ := h
  have hlt : i < xs.length := (List.getElem?_eq_some_iff.1 hi).1
  have c0 := hc i _ hi 0 _ rfl
  have c1 := hc i _ hi 1 _ rfl
  have c2 := hc i _ hi 2 _ rfl
  have c3 := hc i _ hi 3 _ rfl
  have c4 := hc i _ hi 4 _ rfl
  have c5 := hc i _ hi 5 _ rfl
  rw [Nat.add_zero] at c0
  clear hc hi
  replace c0 := cell_alloc (cell_alloc c0 (.cells #[t, .slice (some ⟨b, 0, none⟩) xs.length cap] 88)) (.cells #[.int .i64 0, .int .i64 0] 29)
  replace c1 := cell_alloc (cell_alloc c1 (.cells #[t, .slice (some ⟨b, 0, none⟩) xs.length cap] 88)) (.cells #[.int .i64 0, .int .i64 0] 29)
  replace c2 := cell_alloc (cell_alloc c2 (.cells #[t, .slice (some ⟨b, 0, none⟩) xs.length cap] 88)) (.cells #[.int .i64 0, .int .i64 0] 29)
  replace c3 := cell_alloc (cell_alloc c3 (.cells #[t, .slice (some ⟨b, 0, none⟩) xs.length cap] 88)) (.cells #[.int .i64 0, .int .i64 0] 29)
  replace c4 := cell_alloc (cell_alloc c4 (.cells #[t, .slice (some ⟨b, 0, none⟩) xs.length cap] 88)) (.cells #[.int .i64 0, .int .i64 0] 29)
  replace c5 := cell_alloc (cell_alloc c5 (.cells #[t, .slice (some ⟨b, 0, none⟩) xs.length cap] 88)) (.cells #[.int .i64 0, .int .i64 0] 29)
  go_enter Tryz.func60, Tryz.ntmps60
  go_wp2_with fail
  refine wp_region_still_tail 7 (by kernel_rfl) (by kernel_rfl) ?_
  simp only [List.take_succ_cons, List.take_zero, List.drop_succ_cons, List.drop_zero]
  change wpStill _ _ (World.alloc _ _).drew _ _ _
  have i0 : (0 : Int) ≤ i := by omega
  have i1 : (i : Int) < xs.length := by omega
  repeat still_step
  refine wpStill_nil ?_
  change wpList _ _ _ _ _ (World.alloc _ _).drew
  go_wp2_with fail
  refine (number_num t k v _).mono ?_
  rintro e w1 ⟨rfl, hb⟩
  have hg : w1.heap[w.heap.size + 1]? = some (.cells #[.int .i64 0, .int .i64 0] 29 (0, 0)) := (hb.block _ (by simp)).trans (heap_alloc2_new w _ _)
  dsimp only
  refine ‹∀ a w, wpList _ _ _ _ a w → _› _ _ ?_
  refine wpList_store_row rfl 29 (.tmp 4) (.tmp 12) rfl (w.heap.size + 1) #[.int .i64 k, .int .i64 v] rfl rfl 29 _ hg (by kernel_rfl) rfl (by simp [Value.oneCell']) ?_
  go_wp2_with fail
  refine bodyPost_ret (results_cell_row Tryz.results60 _ _ (w.heap.size + 1) 29 _ (0, 0) _ rfl (setRow_heap w1 _ _ _ 29 _ hg) Tryz.underlying29 rfl (by kernel_rfl)) rfl ⟨rfl, ?_⟩
  exact below_setRow ((((Below.refl _ _).alloc (Nat.le_refl _) _).alloc (by simp) _).drew.trans (hb.mono (B' := w.heap.size) (by simp; omega))) (g := w.heap.size + 1) (by omega)

set_option maxRecDepth 100000 in
set_option maxHeartbeats 400000 in
/-- A text that isn't too long is handed back. -/
theorem text1_any (f b : Nat) (t sl : Value) (s : ByteArray) (hle : s.size ≤ 32768) (w : World) (hen : ∀ args w, (callFunc f args).run Tryz.prog w = .ok (.enter f args) w) (hcap : Captured w b (.func (.func f) #[] #[]))
    (hin : ∀ w1, Below w.heap.size w w1 → Calls Tryz.prog f #[.agg #[t, sl]] w1 fun e w' => e = .returned (.string s) ∧ Below w1.heap.size w1 w') :
    Calls Tryz.prog 124 #[.agg #[t, sl], .pointer (some ⟨b, 0, none⟩)] w fun e w' => e = .returned (.tuple #[vText s, .int .i64 0]) ∧ Below w.heap.size w w' := by
  have hc := cell_alloc (cell_alloc hcap (.cells #[t, sl] 88)) (.cells #[.int .i64 0, .slice none 0 0, .int .i64 0, .int .i64 0, .string ⟨#[]⟩, .bool false] 31)
  have Hin := Lib.hid hin
  clear hin hcap
  go_enter Tryz.func124, Tryz.ntmps124
  go_wp2_with fail
  refine (Hin.out _ (((Below.refl _ _).alloc (Nat.le_refl _) _).alloc (by simp) _)).mono ?_
  rintro e w1 ⟨rfl, hb⟩
  dsimp only
  have hg : w1.heap[w.heap.size + 1]? = some (.cells #[.int .i64 0, .slice none 0 0, .int .i64 0, .int .i64 0, .string ⟨#[]⟩, .bool false] 31 (0, 0)) := (hb.block _ (by simp)).trans (heap_alloc2_new w _ _)
  have hbb : Below w.heap.size w w1 := ((Below.refl _ _).alloc (Nat.le_refl _) _).alloc (by simp) _ |>.trans (hb.mono (B' := w.heap.size) (by simp; omega))
  clear hb hc Hin
  go_wp2_with (refine wpList_store_row rfl 31 (.tmp 3) (.tmp 14) rfl (w.heap.size + 1) #[.int .i64 2, .slice none 0 0, .int .i64 0, .int .i64 0, .string s, .bool false] rfl rfl 31 _ hg (by kernel_rfl) rfl (by simp [Value.oneCell']) ?_)
  exact bodyPost_ret (results_cell_tmp Tryz.results124 _ _ (w.heap.size + 1) 31 _ (0, 0) _ rfl (setRow_heap w1 _ _ _ 31 _ hg) Tryz.underlying31 rfl (by kernel_rfl)) rfl ⟨rfl, below_setRow hbb (by omega)⟩

set_option maxRecDepth 100000 in
set_option maxHeartbeats 400000 in
/-- A longer text is refused. -/
theorem text1_long (f b : Nat) (t sl : Value) (s : ByteArray) (hle : 32768 < s.size) (hs : s.size ≤ 9223372036854775807) (w : World) (hen : ∀ args w, (callFunc f args).run Tryz.prog w = .ok (.enter f args) w) (hcap : Captured w b (.func (.func f) #[] #[]))
    (hin : ∀ w1, Below w.heap.size w w1 → Calls Tryz.prog f #[.agg #[t, sl]] w1 fun e w' => e = .returned (.string s) ∧ Below w1.heap.size w1 w') :
    Calls Tryz.prog 124 #[.agg #[t, sl], .pointer (some ⟨b, 0, none⟩)] w fun e w' => e = .returned (.tuple #[vZero, .int .i64 6]) ∧ Below w.heap.size w w' := by
  have hc := cell_alloc (cell_alloc hcap (.cells #[t, sl] 88)) (.cells #[.int .i64 0, .slice none 0 0, .int .i64 0, .int .i64 0, .string ⟨#[]⟩, .bool false] 31)
  have Hin := Lib.hid hin
  clear hin hcap
  go_enter Tryz.func124, Tryz.ntmps124
  go_wp2_with fail
  refine (Hin.out _ (((Below.refl _ _).alloc (Nat.le_refl _) _).alloc (by simp) _)).mono ?_
  rintro e w1 ⟨rfl, hb⟩
  dsimp only
  have hg : w1.heap[w.heap.size + 1]? = some (.cells #[.int .i64 0, .slice none 0 0, .int .i64 0, .int .i64 0, .string ⟨#[]⟩, .bool false] 31 (0, 0)) := (hb.block _ (by simp)).trans (heap_alloc2_new w _ _)
  have hbb : Below w.heap.size w w1 := ((Below.refl _ _).alloc (Nat.le_refl _) _).alloc (by simp) _ |>.trans (hb.mono (B' := w.heap.size) (by simp; omega))
  clear hb hc Hin
  go_wp2_with (refine wpList_store_row rfl 31 (.tmp 3) (.tmp 12) rfl (w.heap.size + 1) #[.int .i64 0, .slice none 0 0, .int .i64 0, .int .i64 0, .string ⟨#[]⟩, .bool false] rfl rfl 31 _ hg (by kernel_rfl) rfl (by simp [Value.oneCell']) ?_)
  exact bodyPost_ret (results_cell_tmp Tryz.results124 _ _ (w.heap.size + 1) 31 _ (0, 0) _ rfl (setRow_heap w1 _ _ _ 31 _ hg) Tryz.underlying31 rfl (by kernel_rfl)) rfl ⟨rfl, below_setRow hbb (by omega)⟩

set_option maxRecDepth 100000 in
set_option maxHeartbeats 400000 in
/-- A truth. -/
theorem truth1_any (f b : Nat) (t sl : Value) (x : Bool) (w : World) (hen : ∀ args w, (callFunc f args).run Tryz.prog w = .ok (.enter f args) w) (hcap : Captured w b (.func (.func f) #[] #[]))
    (hin : ∀ w1, Below w.heap.size w w1 → Calls Tryz.prog f #[.agg #[t, sl]] w1 fun e w' => e = .returned (.bool x) ∧ Below w1.heap.size w1 w') :
    Calls Tryz.prog 113 #[.agg #[t, sl], .pointer (some ⟨b, 0, none⟩)] w fun e w' => e = .returned (.tuple #[vBool x, .int .i64 0]) ∧ Below w.heap.size w w' := by
  have hc := cell_alloc (cell_alloc hcap (.cells #[t, sl] 88)) (.cells #[.int .i64 0, .slice none 0 0, .int .i64 0, .int .i64 0, .string ⟨#[]⟩, .bool false] 31)
  have Hin := Lib.hid hin
  clear hin hcap
  go_enter Tryz.func113, Tryz.ntmps113
  go_wp2_with fail
  refine (Hin.out _ (((Below.refl _ _).alloc (Nat.le_refl _) _).alloc (by simp) _)).mono ?_
  rintro e w1 ⟨rfl, hb⟩
  dsimp only
  have hg : w1.heap[w.heap.size + 1]? = some (.cells #[.int .i64 0, .slice none 0 0, .int .i64 0, .int .i64 0, .string ⟨#[]⟩, .bool false] 31 (0, 0)) := (hb.block _ (by simp)).trans (heap_alloc2_new w _ _)
  have hbb : Below w.heap.size w w1 := ((Below.refl _ _).alloc (Nat.le_refl _) _).alloc (by simp) _ |>.trans (hb.mono (B' := w.heap.size) (by simp; omega))
  clear hb hc Hin
  go_wp2_with (refine wpList_store_row rfl 31 (.tmp 3) (.tmp 8) rfl (w.heap.size + 1) #[.int .i64 3, .slice none 0 0, .int .i64 0, .int .i64 0, .string ⟨#[]⟩, .bool x] rfl rfl 31 _ hg (by kernel_rfl) rfl (by simp [Value.oneCell']) ?_)
  exact bodyPost_ret (results_cell_tmp Tryz.results113 _ _ (w.heap.size + 1) 31 _ (0, 0) _ rfl (setRow_heap w1 _ _ _ 31 _ hg) Tryz.underlying31 rfl (by kernel_rfl)) rfl ⟨rfl, below_setRow hbb (by omega)⟩

set_option maxRecDepth 100000 in
set_option maxHeartbeats 400000 in
/-- A number. -/
theorem number1_any (f b : Nat) (t sl : Value) (k v : Int) (w : World) (hen : ∀ args w, (callFunc f args).run Tryz.prog w = .ok (.enter f args) w) (hcap : Captured w b (.func (.func f) #[] #[]))
    (hin : ∀ w1, Below w.heap.size w w1 → Calls Tryz.prog f #[.agg #[t, sl]] w1 fun e w' => e = .returned (.agg #[.int .i64 k, .int .i64 v]) ∧ Below w1.heap.size w1 w') :
    Calls Tryz.prog 115 #[.agg #[t, sl], .pointer (some ⟨b, 0, none⟩)] w fun e w' => e = .returned (.tuple #[vNum k v, .int .i64 0]) ∧ Below w.heap.size w w' := by
  have hc := cell_alloc (cell_alloc hcap (.cells #[t, sl] 88)) (.cells #[.int .i64 0, .slice none 0 0, .int .i64 0, .int .i64 0, .string ⟨#[]⟩, .bool false] 31)
  have Hin := Lib.hid hin
  clear hin hcap
  go_enter Tryz.func115, Tryz.ntmps115
  go_wp2_with fail
  refine (Hin.out _ (((Below.refl _ _).alloc (Nat.le_refl _) _).alloc (by simp) _)).mono ?_
  rintro e w1 ⟨rfl, hb⟩
  dsimp only
  have hg : w1.heap[w.heap.size + 1]? = some (.cells #[.int .i64 0, .slice none 0 0, .int .i64 0, .int .i64 0, .string ⟨#[]⟩, .bool false] 31 (0, 0)) := (hb.block _ (by simp)).trans (heap_alloc2_new w _ _)
  have hbb : Below w.heap.size w w1 := ((Below.refl _ _).alloc (Nat.le_refl _) _).alloc (by simp) _ |>.trans (hb.mono (B' := w.heap.size) (by simp; omega))
  clear hb hc Hin
  go_wp2_with (refine wpList_store_row rfl 31 (.tmp 3) (.tmp 8) rfl (w.heap.size + 1) #[.int .i64 1, .slice none 0 0, .int .i64 k, .int .i64 v, .string ⟨#[]⟩, .bool false] rfl rfl 31 _ hg (by kernel_rfl) rfl (by simp [Value.oneCell']) ?_)
  exact bodyPost_ret (results_cell_tmp Tryz.results115 _ _ (w.heap.size + 1) 31 _ (0, 0) _ rfl (setRow_heap w1 _ _ _ 31 _ hg) Tryz.underlying31 rfl (by kernel_rfl)) rfl ⟨rfl, below_setRow hbb (by omega)⟩

end Go.Proofs.YtaadhehcoegmhaaGreatDoor
