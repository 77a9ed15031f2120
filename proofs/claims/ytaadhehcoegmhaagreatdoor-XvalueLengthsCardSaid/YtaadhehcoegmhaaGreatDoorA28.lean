/- IsText, Count, string-length. -/
import Derived.Test.YtaadhehcoegmhaaGreatDoorA27
import Derived.Test.YtaadhehcoegmhaaGreatDoorA22
namespace Go.Proofs.YtaadhehcoegmhaaGreatDoor
open Go Go.RowKit

/-- It returns a truth; where it is true the text is whole. -/
def TextEnd (s : ByteArray) (e : Ending) : Prop := ∃ b, e = .returned (.bool b) ∧ (b = true → whole s s.size 0)

set_option maxRecDepth 100000 in
set_option maxHeartbeats 2000000 in
theorem isText_some (s : ByteArray) (w : World) (hE : Env w) (hs : s.size ≤ 1000000) : Calls Tryz.prog 15 #[.string s] w fun e w' => TextEnd s e ∧ Below w.heap.size w w' := by
  go_enter Tryz.func15, Tryz.ntmps15
  go_wp2_with fail
  refine Calls.mono (bad_some s _ hE hs) ?_
  rintro e w1 ⟨⟨i, c, rfl, hi1, hi2, hi3⟩, hb⟩
  dsimp only
  go_wp2_with fail
  go_ret
  exact ⟨⟨decide (i < 0), rfl, fun h => hi3 (by simpa using h)⟩, hb⟩

theorem below_iter (w : World) (s : ByteArray) (pos : Nat) : Below w.heap.size w (w.iter s pos) := (Below.refl _ _).alloc (Nat.le_refl _) _

set_option maxRecDepth 100000 in
set_option maxHeartbeats 2000000 in
theorem count_any (s : ByteArray) (w : World) (hs : s.size ≤ 1000000) : Calls Tryz.prog 16 #[.string s] w fun e w' => e = .returned (.int .i64 (Lib.runeCount s)) ∧ Below w.heap.size w w' := by
  go_enter Tryz.func16, Tryz.ntmps16
  go_wp2_with fail
  refine Calls.mono (Tryz.utf8_RuneCountInString s _ (by omega)) ?_
  rintro e w1 ⟨rfl, pos, rfl⟩
  dsimp only
  go_wp2_with fail
  go_ret
  exact ⟨rfl, below_iter _ _ _⟩
set_option maxRecDepth 100000 in
set_option maxHeartbeats 1000000 in
theorem call_plain01 (k : ByteArray) (g f : Nat) (hrow : rowAt k fnTable = some (.plain 0 1 false g f)) (t A : Option Addr) (cap : Nat) (cs : Array Value) (er : Int) (w : World)
    (hen : ∀ args w, (callFunc g args).run Tryz.prog w = .ok (.enter g args) w) (hcs : (Tryz.prog.info? 31).map (·.size) = some cs.size) (hcs1 : cs.all (·.oneCell') = true)
    (hin : ∀ w1 b, Below w.heap.size w w1 → Captured w1 b (.func (.func f) #[] #[]) → Calls Tryz.prog g #[.agg #[.pointer t, .slice A 1 cap], .pointer (some ⟨b, 0, none⟩)] w1 fun e w' => e = .returned (.tuple #[.agg cs, .int .i64 er]) ∧ Below w1.heap.size w1 w') :
    Calls Tryz.prog 13 #[.pointer t, .string k, .slice A 1 cap] w fun e w' => e = .returned (.tuple #[.agg cs, .int .i64 er]) ∧ Below w.heap.size w w' := by
  have Hin := Lib.hid hin
  have Hrow := Lib.hid hrow
  have Hen := Lib.hid hen
  clear hin hrow hen
  go_enter Tryz.func13, Tryz.ntmps13
  go_wp2_with fail
  refine Calls.mono (functions_any _) ?_
  rintro e w1 ⟨v, rfl, rfl, htab, hb1⟩
  dsimp only
  obtain ⟨es, c, hm, hR⟩ := htab
  refine ‹∀ a w, wpList _ _ _ _ a w → _› _ _ ?_
  refine wpList_move rfl _ (.inl rfl) ?_
  refine wpList_lookup_rows rfl (.tmp 9) (.tmp 10) false rfl Tryz.underlying83 Tryz.underlying9 hm hR (Tryz.zeroValue82 _) k rfl rfl ?_ ?_
  · intro h0; rw [Hrow.out] at h0; cases h0
  intro v x hx hv
  rw [Hrow.out] at hx
  cases hx
  obtain ⟨b, rfl, hbm, hcap⟩ := hv
  simp only [fnRow]
  have hg1 : w1.heap[w.heap.size]? = some (.cells #[.int .i64 0, .slice none 0 0, .int .i64 0, .int .i64 0, .string ⟨#[]⟩, .bool false] 31 (0, 0)) := (hb1.block _ (by simp)).trans (heap_alloc_new w _)
  have hbb1 : Below w.heap.size w w1 := ((Below.refl _ _).alloc (Nat.le_refl _) _).trans (hb1.mono (B' := w.heap.size) (by simp))
  have hlt1 : w.heap.size < w1.heap.size := (Array.getElem?_eq_some_iff.1 hg1).1
  clear hm hR es c hbm hb1
  obtain ⟨W, hW⟩ : ∃ W, W = w1.alloc (.cells #[.int .i64 0, .int .i64 1, .bool false, .func (.func g) #[] #[.pointer (some ⟨b, 0, none⟩)]] 82) := ⟨_, rfl⟩
  have hcapW : Captured W b (.func (.func f) #[] #[]) := by rw [hW]; exact cell_alloc hcap _
  have hgW : W.heap[w.heap.size]? = some (.cells #[.int .i64 0, .slice none 0 0, .int .i64 0, .int .i64 0, .string ⟨#[]⟩, .bool false] 31 (0, 0)) := by rw [hW]; exact (Below.heap_alloc _ _ _ hlt1).trans hg1
  have hbW : Below w.heap.size w W := by rw [hW]; exact hbb1.alloc (Nat.le_of_lt hlt1) _
  have hW' := Lib.hid hW
  have hgW' := Lib.hid hgW
  clear hW hgW hg1
  have hen := Hen.out
  have heq := fun (w : World) => run_eql_func_nil (P := Tryz.prog) Tryz.underlying80 (.func g) #[] #[.pointer (some ⟨b, 0, none⟩)] w
  go_wp2_with fail
  rw [← hW'.out]
  refine (Hin.out W b hbW hcapW).mono ?_
  rintro e w2 ⟨rfl, hb2⟩
  dsimp only
  have hg2 : w2.heap[w.heap.size]? = some (.cells #[.int .i64 0, .slice none 0 0, .int .i64 0, .int .i64 0, .string ⟨#[]⟩, .bool false] 31 (0, 0)) := (hb2.block _ (Array.getElem?_eq_some_iff.1 hgW'.out).1).trans hgW'.out
  have hbb2 := below_then hbW hbW.size hb2
  have hsz : cs.size = 6 := by
    have h6 : (Tryz.prog.info? 31).map (·.size) = some 6 := by kernel_rfl
    rw [h6] at hcs; exact (Option.some.inj hcs).symm
  have hsz' := Lib.hid hsz
  clear hsz hcs hb2 hen heq
  go_wp2_with (refine wpList_store_row rfl 31 (.tmp 6) (.tmp 60) rfl (w.heap.size) cs rfl rfl 31 _ hg2 (by rw [hsz'.out]; kernel_rfl) (by rw [hsz'.out]; rfl) hcs1 ?_)
  exact bodyPost_ret (results_cell_tmp Tryz.results13 _ _ (w.heap.size) 31 _ (0, 0) _ rfl (setRow_heap w2 _ _ _ 31 _ hg2) Tryz.underlying31 rfl (by rw [hsz'.out]; kernel_rfl)) rfl ⟨rfl, below_setRow hbb2 (by omega)⟩

set_option maxRecDepth 100000 in
set_option maxHeartbeats 1000000 in
theorem length_any (t A : Option Addr) (cap : Nat) (s : ByteArray) (w : World) (hs : s.size ≤ 1000000) (h : Has (.slice A 1 cap) [.text s] w) :
    Calls Tryz.prog 80 #[.agg #[.pointer t, .slice A 1 cap]] w fun e w' => e = .returned (fin ((Lib.runeCount s : Int) * 1000000)) ∧ Below w.heap.size w w' := by
  have hle := Lib.runeCount_le s
  go_enter Tryz.func80, Tryz.ntmps80
  go_wp2_with fail
  refine Calls.mono (Has.str (xs := [.text s]) _ 0 s rfl ((h.alloc _).alloc _)) ?_
  rintro e w1 ⟨rfl, hb1⟩
  dsimp only
  go_wp2_with fail
  refine Calls.mono (count_any s _ hs) ?_
  rintro e w2 ⟨rfl, hb2⟩
  dsimp only
  go_wp2_with fail
  refine Calls.mono (int_any _ _ (by omega) (by omega)) ?_
  rintro e w3 ⟨rfl, hb3⟩
  dsimp only
  have hz1 := hb1.size
  simp at hz1
  have hz2 := hb2.size
  have hg : w3.heap[w.heap.size + 1]? = some (.cells #[.int .i64 0, .int .i64 0] 29 (0, 0)) := (hb3.block _ (by omega)).trans ((hb2.block _ (by omega)).trans ((hb1.block _ (by simp)).trans (heap_alloc2_new w _ _)))
  have hw : Below w.heap.size w w3 := below_then (below_then (below_then (((Below.refl _ _).alloc (Nat.le_refl _) _).alloc (by simp) _) (by simp; omega) hb1) (by omega) hb2) (by omega) hb3
  obtain ⟨q, hq⟩ : ∃ q, q = (Lib.runeCount s : Int) * 1000000 := ⟨_, rfl⟩
  rw [← hq]
  have HQ := Lib.hid hq
  clear hb1 hb2 hb3 hq
  go_wp2_with (refine wpList_store_row rfl 29 (.tmp 2) (.tmp 6) rfl (w.heap.size + 1) #[.int .i64 0, .int .i64 q] rfl rfl 29 _ hg (by kernel_rfl) rfl (by simp [Value.oneCell']) ?_)
  exact bodyPost_ret (results_cell_row Tryz.results80 _ _ (w.heap.size + 1) 29 _ (0, 0) _ rfl (setRow_heap w3 _ _ _ 29 _ hg) Tryz.underlying29 rfl (by kernel_rfl)) rfl ⟨by rw [← HQ.out], below_setRow hw (by omega)⟩

theorem enters80 : Enters 80 := enters_of Tryz.func80 (by kernel_rfl) rfl

theorem call_length (A : Option Addr) (cap : Nat) (s : ByteArray) (w : World) (h : Has (.slice A 1 cap) [.text s] w) (hs : s.size ≤ 1000000) :
    Calls Tryz.prog 13 #[.pointer none, .string ⟨#[115, 116, 114, 105, 110, 103, 45, 108, 101, 110, 103, 116, 104]⟩, .slice A 1 cap] w fun e w' => e = .returned (.tuple #[vNum 0 ((Lib.runeCount s : Int) * 1000000), .int .i64 0]) ∧ Below w.heap.size w w' :=
  call_plain01 _ 115 80 (by rfl) none A cap _ 0 w enters115 (by kernel_rfl) (by simp [Value.oneCell']) fun w1 b hb hc =>
    number1_any 80 b _ _ 0 _ w1 enters80 hc fun w2 hb2 => length_any none A cap s w2 hs ((h.below hb).below hb2)

theorem call_starts (A : Option Addr) (cap : Nat) (s u : ByteArray) (w : World) (h : Has (.slice A 2 cap) [.text s, .text u] w) :
    Calls Tryz.prog 13 #[.pointer none, .string ⟨#[115, 116, 97, 114, 116, 115, 45, 119, 105, 116, 104]⟩, .slice A 2 cap] w fun e w' => e = .returned (.tuple #[vBool (Lib.hasPrefix s.data.toList u.data.toList), .int .i64 0]) ∧ Below w.heap.size w w' :=
  call_truth _ 2 2 82 (by rfl) none A 2 cap _ _ w (by decide) (by decide) (by decide) enters82 h fun w' hw => startsWith_any none A 2 cap s u w' hw
end Go.Proofs.YtaadhehcoegmhaaGreatDoor
