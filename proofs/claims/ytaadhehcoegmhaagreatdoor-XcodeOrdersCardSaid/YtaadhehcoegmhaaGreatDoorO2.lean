/- (*strings.Builder).copyCheck and WriteString of a builder that the call has made: as the shelf has them, over this translation's own body (its panic is left out). -/
import Derived.Test.YtaadhehcoegmhaaGreatDoorShelf
import Derived.WalkKit
import Derived.WalkSpells
import Derived.WalkLawsBesides
import Derived.Shelf.Strings.BuilderK
import Derived.Test.YtaadhehcoegmhaaGreatDoorO1
import Derived.Deep.RegionHeld3
import Derived.Deep.RegionWith
import Derived.StillTactics
import Derived.Deep.AppendLies
namespace Go.Proofs.YtaadhehcoegmhaaGreatDoor
open Go Go.RowKit

theorem sizeBuilder : (Tryz.prog.info? 191).map (·.size) = some 2 := by kernel_rfl

set_option maxHeartbeats 1000000 in
set_option maxRecDepth 100000 in
theorem copyCheck_used (b : Nat) (w : World) (h0 : w.cell? ⟨b, 0, none⟩ = some (.pointer (some ⟨b, 0, none⟩))) :
    Calls Tryz.prog 183 #[.pointer (some ⟨b, 0, none⟩)] w fun e w' => e = .returned (.tuple #[]) ∧ w' = w := by
  obtain ⟨j, hj, _⟩ := Option.map_eq_some_iff.1 sizeBuilder
  go_enter Tryz.func183, Tryz.ntmps183
  go_wp2
  rw [Lib.run_neq_ptr_same w _ Tryz.underlying189 hj]
  go_wp2
  go_end0
  exact ⟨rfl, rfl⟩

set_option maxHeartbeats 1000000 in
set_option maxRecDepth 100000 in
theorem copyCheck_fresh (b : Nat) (w : World) (h0 : w.cell? ⟨b, 0, none⟩ = some (.pointer none)) (hsh : w.shape? b = some (191, 2)) (hfz : w.frozen? ⟨b, 0, none⟩ = false) :
    Calls Tryz.prog 183 #[.pointer (some ⟨b, 0, none⟩)] w fun e w' => e = .returned (.tuple #[]) ∧ w' = w.setCell ⟨b, 0, none⟩ (.pointer (some ⟨b, 0, none⟩)) := by
  obtain ⟨j, hj, hjs⟩ := Option.map_eq_some_iff.1 sizeBuilder
  go_enter Tryz.func183, Tryz.ntmps183
  go_wp2
  rw [Lib.run_to_unsafe w ⟨b, 0, none⟩ Tryz.underlying189 Tryz.underlying325 hj (by rw [hjs]; decide) hsh (Nat.zero_lt_succ 1)]
  simp only [Result.andThen]
  rw [Oper.upon_value]
  go_wp2
  rw [run_callFunc_extern Tryz.func241 (by kernel_rfl) (by kernel_rfl) (by kernel_rfl) (e := Extern.AbiNoEscape.same) (by kernel_rfl)]
  rw [Lib.run_noEscape]
  simp only [Result.andThen]
  rw [Oper.upon_value]
  go_wp2
  rw [Lib.run_from_unsafe w ⟨b, 0, none⟩ Tryz.underlying325 Tryz.underlying189 hj hsh (by kernel_rfl)]
  simp only [Result.andThen]
  rw [Oper.upon_value]
  go_wp2
  go_end0
  exact ⟨rfl, rfl⟩

theorem copyCheck_k (B b : Nat) (bs : List Value) (w : World) (h : Lib.IsBuilderF 191 5 B b bs w) :
    Calls Tryz.prog 183 #[.pointer (some ⟨b, 0, none⟩)] w fun e w' => e = .returned (.tuple #[]) ∧ (Lib.BuilderAtF 191 5 B b (.pointer (some ⟨b, 0, none⟩)) bs w' ∧ Below B w w' ∧ Lib.OthersKept 5 (some b) w w') := by
  rcases h with h | h
  · refine (copyCheck_fresh b w h.cell0 h.shape h.frozen0).mono ?_
    rintro e w' ⟨rfl, rfl⟩
    exact ⟨rfl, h.used _, (Below.refl B w).setCell (p := ⟨b, 0, none⟩) h.1 _, (Lib.OthersKept.refl _ _ _).setCell ⟨b, 0, none⟩ rfl _⟩
  · refine (copyCheck_used b w h.cell0).mono ?_
    rintro e w' ⟨rfl, rfl⟩
    exact ⟨rfl, h, Below.refl B _, Lib.OthersKept.refl _ _ _⟩

set_option maxHeartbeats 2000000 in
set_option maxRecDepth 100000 in
theorem writeString_k (B b : Nat) (bs : List Value) (s : ByteArray) (w : World) (h : Lib.IsBuilderF 191 5 B b bs w) (hlen : bs.length + s.size ≤ 140737488355328) (hBw : B ≤ w.heap.size) :
    Calls Tryz.prog 135 #[.pointer (some ⟨b, 0, none⟩), .string s] w fun e w' => e = .returned (.tuple #[.int .i64 s.size, .nilIface]) ∧ (Lib.IsBuilderF 191 5 B b (bs ++ Lib.strCells s) w' ∧ Below B w w' ∧ Lib.OthersKept 5 (some b) w w') := by
  obtain ⟨i0, hi, hz0, hz1, hz2⟩ := info_parts (show (Tryz.prog.info? 5).map (fun i => (i.zero, i.size, i.bytes)) = some (some (.int .u8 0), 1, 1) by kernel_rfl)
  go_enter Tryz.func135, Tryz.ntmps135
  go_wp2_with (go_at_call 183; refine (copyCheck_k B b bs _ h).mono ?_)
  rintro e w1 ⟨rfl, h1, hb1, hk1⟩
  obtain ⟨hB, v, hbk, hown, hne⟩ := h1
  have c0 : w1.cell? ⟨b, 0, none⟩ = some (.pointer (some ⟨b, 0, none⟩)) := by rw [Lib.cell_of_heap hbk]; rfl
  have c1 : w1.cell? ⟨b, 1, none⟩ = some v := by rw [Lib.cell_of_heap hbk]; rfl
  go_wp2_with (at_builtin; refine Lib.wpList_append_own_stringF _ rfl _ _ 42 9 rfl B 5 i0 Tryz.underlying42 Tryz.underlying9 hi hz0 hz1 hz2 _ _ _ rfl hown s rfl ?c3 ?c4 ?c5 ?_)
  case c3 => unfold maxLen; omega
  case c4 => omega
  case c5 => have := hb1.size; omega
  intro v' w2 hown' hgrow _
  have hlt : b < w1.heap.size := (Array.getElem?_eq_some_iff.1 hbk).1
  have hb2 : w2.heap[b]? = some (.cells #[.pointer (some ⟨b, 0, none⟩), v] 191 (0, 0)) := by
    rw [hgrow.block b hlt (fun e => hne e.symm)]
    exact hbk
  have d0 : w2.cell? ⟨b, 0, none⟩ = some (.pointer (some ⟨b, 0, none⟩)) := by rw [Lib.cell_of_heap hb2]; rfl
  have d1 : w2.cell? ⟨b, 1, none⟩ = some v := by rw [Lib.cell_of_heap hb2]; rfl
  have f1 : w2.frozen? ⟨b, 1, none⟩ = false := Lib.frozen_of_heap hb2 1
  obtain ⟨ao, n', cap, rfl⟩ : ∃ ao n' cap, v' = .slice ao n' cap := by
    rcases hown'.2 with ⟨hv, _⟩ | ⟨g, cap, cur, fz, hv, _⟩
    · exact ⟨_, _, _, hv⟩
    · exact ⟨_, _, _, hv⟩
  go_wp2
  go_ret2
  refine ⟨rfl, .inr ?_, ?_, (hk1.grown hgrow (Lib.ownsRowF_kind hown)).setCell ⟨b, 1, none⟩ rfl _⟩
  · exact Lib.BuilderAtF.put (T := 191) (e := 5) hB hb2 (bs' := bs ++ Lib.strCells s) (by simpa [Lib.strCells_length] using hown') (by decide)
  · exact (hb1.grown hgrow (by have := hb1.size; omega) (fun k hk => (hown.lt k hk).1)).setCell (p := ⟨b, 1, none⟩) hB _
end Go.Proofs.YtaadhehcoegmhaaGreatDoor
/- Functions of texts: contains, starts-with, cut. -/
namespace Go.Proofs.YtaadhehcoegmhaaGreatDoor
open Go Go.RowKit

/-- What the library's code reads of package-level variables. -/
structure Env (w : World) : Prop where
  max : ∃ m, w.cell? ⟨2, 0, none⟩ = some (.int .i64 m)
  tabs : Lib.Utf8Tabs 0 1 w
theorem Env.below {w w' : World} (h : Env w) (hb : Below w.heap.size w w') : Env w' := by
  obtain ⟨m, hm⟩ := h.max
  exact ⟨⟨m, (hb.cell (World.block_lt_of_cell? w _ hm)).trans hm⟩, Go.Proofs.Utf8Tabs_below h.tabs hb⟩

/-- What a world that is gone on from w0 still has: the arguments, the variables. -/
def Has (sl : Value) (xs : List GV) (w' : World) : Prop := ArgsAt w' sl xs ∧ Env w'
theorem Has.below {sl : Value} {xs : List GV} {w w' : World} (h : Has sl xs w) (hb : Below w.heap.size w w') : Has sl xs w' := ⟨h.1.below hb, h.2.below hb⟩
theorem Has.drew {sl : Value} {xs : List GV} {w : World} (h : Has sl xs w) : Has sl xs w.drew := h.below ((Below.refl _ _).drew)
theorem Has.alloc {sl : Value} {xs : List GV} {w : World} (h : Has sl xs w) (o : Obj) : Has sl xs (w.alloc o) := h.below ((Below.refl _ _).alloc (Nat.le_refl _) o)
theorem Has.str {sl : Value} {xs : List GV} {w : World} (t : Value) (i : Nat) (s : ByteArray) (hi : xs[i]? = some (.text s)) (h : Has sl xs w) :
    Calls Tryz.prog 77 #[.agg #[t, sl], .int .i64 i] w fun e w' => e = .returned (.string s) ∧ Below w.heap.size w w' := str_any t sl xs i s w h.1 hi

/-- What is held while the arguments' box lies: the box, the arguments, what was there. -/
theorem held_first {t sl : Value} {xs : List GV} {w : World} (h : Has sl xs w) :
    (w.alloc (.cells #[t, sl] 88)).drew.cell? ⟨w.heap.size, 0, none⟩ = some t ∧ (w.alloc (.cells #[t, sl] 88)).drew.cell? ⟨w.heap.size, 1, none⟩ = some sl ∧ Has sl xs (w.alloc (.cells #[t, sl] 88)).drew ∧ Below w.heap.size w (w.alloc (.cells #[t, sl] 88)).drew :=
  ⟨by simp [go_sem], by simp [go_sem], (h.alloc _).drew, ((Below.refl _ _).alloc (Nat.le_refl _) _).drew⟩
theorem held_next {t sl : Value} {xs : List GV} {w w1 w2 : World} (hb : Below w1.heap.size w1 w2)
    (h : w1.cell? ⟨w.heap.size, 0, none⟩ = some t ∧ w1.cell? ⟨w.heap.size, 1, none⟩ = some sl ∧ Has sl xs w1 ∧ Below w.heap.size w w1) :
    w2.cell? ⟨w.heap.size, 0, none⟩ = some t ∧ w2.cell? ⟨w.heap.size, 1, none⟩ = some sl ∧ Has sl xs w2 ∧ Below w.heap.size w w2 :=
  ⟨(hb.cell (World.block_lt_of_cell? w1 _ h.1)).trans h.1, (hb.cell (World.block_lt_of_cell? w1 _ h.2.1)).trans h.2.1, h.2.2.1.below hb, below_then h.2.2.2 h.2.2.2.size hb⟩

theorem str_contains (s u : ByteArray) (w : World) (h : Env w) (hs : s.size < 4294967281) :
    Calls Tryz.prog 85 #[.string s, .string u] w fun e w' => e = .returned (.bool (Lib.contains s.data.toList u.data.toList)) ∧ Below w.heap.size w w' := by
  obtain ⟨m, hm⟩ := h.max
  exact Calls.mono (Tryz.strings_Contains s u m w hs hm) fun _ _ ⟨h1, h2⟩ => ⟨h1, h2 ▸ Below.refl _ _⟩

theorem str_hasPrefix (s u : ByteArray) (w : World) :
    Calls Tryz.prog 83 #[.string s, .string u] w fun e w' => e = .returned (.bool (Lib.hasPrefix s.data.toList u.data.toList)) ∧ Below w.heap.size w w' :=
  Calls.mono (Tryz.strings_HasPrefix s u w) fun _ _ ⟨h1, h2⟩ => ⟨h1, h2 ▸ Below.refl _ _⟩
theorem str_cut (s u : ByteArray) (w : World) (h : Env w) (hs : s.size < 4294967281) :
    Calls Tryz.prog 132 #[.string s, .string u] w fun e w' => e = .returned (.tuple #[.string ⟨(Lib.cut s.data.toList u.data.toList).1.toArray⟩, .string ⟨(Lib.cut s.data.toList u.data.toList).2.1.toArray⟩, .bool (Lib.cut s.data.toList u.data.toList).2.2]) ∧ Below w.heap.size w w' := by
  obtain ⟨m, hm⟩ := h.max
  refine Calls.mono (Tryz.strings_Cut s u m w hs hm) fun _ _ ⟨h1, n, h2⟩ => ⟨h1, ?_⟩
  subst h2
  exact ⟨rfl, rfl, rfl, Nat.le_refl _, fun _ _ => rfl⟩

set_option maxRecDepth 100000 in
set_option maxHeartbeats 1000000 in
theorem contains_any (t : Option Addr) (A : Option Addr) (n cap : Nat) (s u : ByteArray) (w : World) (h : Has (.slice A n cap) [.text s, .text u] w) (hs : s.size < 4294967281) :
    Calls Tryz.prog 84 #[.agg #[.pointer t, .slice A n cap]] w fun e w' => e = .returned (.bool (Lib.contains s.data.toList u.data.toList)) ∧ Below w.heap.size w w' := by
  go_enter Tryz.func84, Tryz.ntmps84
  go_wp2_with fail
  go_region_held3 (fun w' => w'.cell? ⟨w.heap.size, 0, none⟩ = some (.pointer t) ∧ w'.cell? ⟨w.heap.size, 1, none⟩ = some (.slice A n cap) ∧ Has (.slice A n cap) [.text s, .text u] w' ∧ Below w.heap.size w w')
    (first | exact held_first h | exact held_next ‹_› ‹_›)
    (first
      | (go_at_call_of 77 (Value.int IntKind.i64 0); refine Calls.mono (Has.str (xs := [.text s, .text u]) _ 0 s rfl ?_) ?_; exact (‹_ ∧ _ ∧ Has _ _ _ ∧ _›).2.2.1; rintro e w1 ⟨rfl, hb1⟩)
      | (go_at_call_of 77 (Value.int IntKind.i64 1); refine Calls.mono (Has.str (xs := [.text s, .text u]) _ 1 u rfl ?_) ?_; exact (‹_ ∧ _ ∧ Has _ _ _ ∧ _›).2.2.1; rintro e w2 ⟨rfl, hb2⟩)
      | (go_at_call 85; refine Calls.mono (str_contains s u _ ?_ hs) ?_; exact (‹_ ∧ _ ∧ Has _ _ _ ∧ _›).2.2.1.2; rintro e w3 ⟨rfl, hb3⟩))
  all_goals
    go_wp2_with fail
    go_ret
    exact ⟨rfl, (‹_ ∧ _ ∧ Has _ _ _ ∧ Below _ _ _›).2.2.2⟩

set_option maxRecDepth 100000 in
set_option maxHeartbeats 1000000 in
theorem startsWith_any (t : Option Addr) (A : Option Addr) (n cap : Nat) (s u : ByteArray) (w : World) (h : Has (.slice A n cap) [.text s, .text u] w) :
    Calls Tryz.prog 82 #[.agg #[.pointer t, .slice A n cap]] w fun e w' => e = .returned (.bool (Lib.hasPrefix s.data.toList u.data.toList)) ∧ Below w.heap.size w w' := by
  go_enter Tryz.func82, Tryz.ntmps82
  go_wp2_with fail
  go_region_held3 (fun w' => w'.cell? ⟨w.heap.size, 0, none⟩ = some (.pointer t) ∧ w'.cell? ⟨w.heap.size, 1, none⟩ = some (.slice A n cap) ∧ Has (.slice A n cap) [.text s, .text u] w' ∧ Below w.heap.size w w')
    (first | exact held_first h | exact held_next ‹_› ‹_›)
    (first
      | (go_at_call_of 77 (Value.int IntKind.i64 0); refine Calls.mono (Has.str (xs := [.text s, .text u]) _ 0 s rfl ?_) ?_; exact (‹_ ∧ _ ∧ Has _ _ _ ∧ _›).2.2.1; rintro e w1 ⟨rfl, hb1⟩)
      | (go_at_call_of 77 (Value.int IntKind.i64 1); refine Calls.mono (Has.str (xs := [.text s, .text u]) _ 1 u rfl ?_) ?_; exact (‹_ ∧ _ ∧ Has _ _ _ ∧ _›).2.2.1; rintro e w2 ⟨rfl, hb2⟩)
      | (go_at_call 83; refine Calls.mono (str_hasPrefix s u _) ?_; rintro e w3 ⟨rfl, hb3⟩))
  all_goals
    go_wp2_with fail
    go_ret
    exact ⟨rfl, (‹_ ∧ _ ∧ Has _ _ _ ∧ Below _ _ _›).2.2.2⟩

/-- What a text cut at another one is: ahead of it, or behind. -/
def cutOf (s u : ByteArray) (behind : Bool) : ByteArray :=
  if (Lib.cut s.data.toList u.data.toList).2.2 then (if behind then ⟨(Lib.cut s.data.toList u.data.toList).2.1.toArray⟩ else ⟨(Lib.cut s.data.toList u.data.toList).1.toArray⟩) else ⟨#[]⟩

set_option maxRecDepth 100000 in
set_option maxHeartbeats 1000000 in
theorem cut_any (t : Option Addr) (A : Option Addr) (n cap : Nat) (s u : ByteArray) (bh : Bool) (w : World) (h : Has (.slice A n cap) [.text s, .text u] w) (hs : s.size < 4294967281) :
    Calls Tryz.prog 87 #[.agg #[.pointer t, .slice A n cap], .bool bh] w fun e w' => e = .returned (.string (cutOf s u bh)) ∧ Below w.heap.size w w' := by
  go_enter Tryz.func87, Tryz.ntmps87
  go_wp2_with fail
  go_region_held3 (fun w' => w'.cell? ⟨w.heap.size, 0, none⟩ = some (.pointer t) ∧ w'.cell? ⟨w.heap.size, 1, none⟩ = some (.slice A n cap) ∧ Has (.slice A n cap) [.text s, .text u] w' ∧ Below w.heap.size w w')
    (first | exact held_first h | exact held_next ‹_› ‹_›)
    (first
      | (go_at_call_of 77 (Value.int IntKind.i64 0); refine Calls.mono (Has.str (xs := [.text s, .text u]) _ 0 s rfl ?_) ?_; exact (‹_ ∧ _ ∧ Has _ _ _ ∧ _›).2.2.1; rintro e w1 ⟨rfl, hb1⟩)
      | (go_at_call_of 77 (Value.int IntKind.i64 1); refine Calls.mono (Has.str (xs := [.text s, .text u]) _ 1 u rfl ?_) ?_; exact (‹_ ∧ _ ∧ Has _ _ _ ∧ _›).2.2.1; rintro e w2 ⟨rfl, hb2⟩)
      | (go_at_call 132; refine Calls.mono (str_cut s u _ ?_ hs) ?_; exact (‹_ ∧ _ ∧ Has _ _ _ ∧ _›).2.2.1.2; rintro e w3 ⟨rfl, hb3⟩))
  have hS := (‹_ ∧ _ ∧ Has _ _ _ ∧ Below _ _ _›).2.2.2
  cases hz : (Lib.cut s.data.toList u.data.toList).2.2 <;> cases bh
  all_goals
    have HZ := Lib.hid hz
    go_wp2_with fail
    go_ret
    refine ⟨?_, hS⟩
    simp [cutOf, HZ.out]

set_option maxRecDepth 100000 in
set_option maxHeartbeats 1000000 in
theorem before_any (t : Option Addr) (A : Option Addr) (n cap : Nat) (s u : ByteArray) (w : World) (h : Has (.slice A n cap) [.text s, .text u] w) (hs : s.size < 4294967281) :
    Calls Tryz.prog 86 #[.agg #[.pointer t, .slice A n cap]] w fun e w' => e = .returned (.string (cutOf s u false)) ∧ Below w.heap.size w w' := by
  go_enter Tryz.func86, Tryz.ntmps86
  go_wp2_with fail
  refine Calls.mono (cut_any t A n cap s u false _ (h.alloc _) hs) ?_
  rintro e w1 ⟨rfl, hb⟩
  dsimp only
  go_wp2_with fail
  go_ret
  exact ⟨rfl, below_then ((Below.refl _ _).alloc (Nat.le_refl _) _) (by simp) hb⟩

set_option maxRecDepth 100000 in
set_option maxHeartbeats 1000000 in
theorem after_any (t : Option Addr) (A : Option Addr) (n cap : Nat) (s u : ByteArray) (w : World) (h : Has (.slice A n cap) [.text s, .text u] w) (hs : s.size < 4294967281) :
    Calls Tryz.prog 88 #[.agg #[.pointer t, .slice A n cap]] w fun e w' => e = .returned (.string (cutOf s u true)) ∧ Below w.heap.size w w' := by
  go_enter Tryz.func88, Tryz.ntmps88
  go_wp2_with fail
  refine Calls.mono (cut_any t A n cap s u true _ (h.alloc _) hs) ?_
  rintro e w1 ⟨rfl, hb⟩
  dsimp only
  go_wp2_with fail
  go_ret
  exact ⟨rfl, below_then ((Below.refl _ _).alloc (Nat.le_refl _) _) (by simp) hb⟩
end Go.Proofs.YtaadhehcoegmhaaGreatDoor
/- Numbers: whole numbers that are finite and not below 0: Int, Round, Add, Compare, holds. -/
namespace Go.Proofs.YtaadhehcoegmhaaGreatDoor
open Go Go.RowKit

/-- A finite number of so many millionths. -/
abbrev fin (v : Int) : Value := .agg #[.int .i64 0, .int .i64 v]

set_option maxRecDepth 100000 in
set_option maxHeartbeats 1000000 in
theorem int_any (n : Int) (w : World) (h0 : 0 ≤ n) (h1 : n ≤ 1000000) :
    Calls Tryz.prog 70 #[.int .i64 n] w fun e w' => e = .returned (fin (n * 1000000)) ∧ Below w.heap.size w w' := by
  go_enter Tryz.func70, Tryz.ntmps70
  go_wp2
  exact bodyPost_ret (v := fin (n * 1000000)) (by simp [results, Tryz.results70, go_sem]) rfl ⟨rfl, (Below.refl _ _).alloc (Nat.le_refl _) _⟩

set_option maxRecDepth 100000 in
set_option maxHeartbeats 1000000 in
theorem floor_fin (v : Int) (w : World) (h0 : 0 ≤ v) (h1 : v ≤ 1000000000000) :
    Calls Tryz.prog 62 #[fin v] w fun e w' => e = .returned (fin (v - v % 1000000)) ∧ Below w.heap.size w w' := by
  go_enter Tryz.func62, Tryz.ntmps62
  go_wp2
  exact bodyPost_ret (v := fin (v - v % 1000000)) (by simp [results, Tryz.results62, go_sem]) rfl ⟨rfl, ((Below.refl _ _).alloc (Nat.le_refl _) _).alloc (by simp) _⟩

set_option maxRecDepth 100000 in
set_option maxHeartbeats 1000000 in
theorem or_any (b : Nat) (x y : Int) (w : World) (h0 : w.cell? ⟨b, 0, none⟩ = some (.int .i64 x)) (h1 : w.cell? ⟨b, 1, none⟩ = some (.int .i64 y)) :
    Calls Tryz.prog 222 #[.slice (some ⟨b, 0, none⟩) 2 2] w fun e w' => e = .returned (.int .i64 (if x = 0 then y else x)) ∧ w' = w := by
  go_enter Tryz.func222, Tryz.ntmps222
  go_wp2
  go_loop [5, 8] (fun _ i => ∃ k : Nat, k ≤ 2 ∧ i = .int .i64 k ∧ (0 < k → x = 0) ∧ (1 < k → y = 0)) (fun _ i => 2 - (intOf i).toNat)
  case atStart => exact ⟨0, by omega, rfl, by omega, by omega⟩
  case round =>
    obtain ⟨k, hk, rfl, hx, hy⟩ := hrel
    have hk' : k = 0 ∨ k = 1 ∨ k = 2 := by omega
    rcases hk' with rfl | rfl | rfl
    · clear hx hy hk
      by_cases hx : x = 0
      · subst hx
        go_wp2
        go_round
        case rel => exact ⟨1, by omega, by go_num, by simp, by simp⟩
        case measure => simp [intOf]
      · have hx' : (x != 0) = true := by simpa using hx
        go_wp2
        go_ret
        exact ⟨by first | rfl | (rw [if_neg hx]; rfl), rfl⟩
    · have hx' := hx (by omega)
      clear hx hy hk
      subst hx'
      by_cases hy : y = 0
      · subst hy
        go_wp2
        go_round
        case rel => exact ⟨2, by omega, by go_num, by simp, by simp⟩
        case measure => simp [intOf]
      · have hy' : (y != 0) = true := by simpa using hy
        go_wp2
        go_ret
        exact ⟨by first | rfl | simp, rfl⟩
    · have hx' := hx (by omega)
      have hy' := hy (by omega)
      clear hx hy hk
      subst hx' hy'
      go_wp2
      go_ret
      exact ⟨by first | rfl | simp, rfl⟩

/-- What Compare tells of two finite numbers. -/
def cmpI (a b : Int) : Int := if a < b then -1 else if b < a then 1 else 0
theorem cmpI_lt {a b : Int} (h : a < b) : cmpI a b = -1 := by simp [cmpI, h]
theorem cmpI_gt {a b : Int} (h : b < a) : cmpI a b = 1 := by simp [cmpI, h]; omega
theorem cmpI_eq {a b : Int} (h : ¬ a < b) (h' : ¬ b < a) : cmpI a b = 0 := by simp [cmpI, h, h']

set_option maxRecDepth 100000 in
set_option maxHeartbeats 1000000 in
theorem compare64_any (x y : Int) (w : World) :
    Calls Tryz.prog 193 #[.int .i64 x, .int .i64 y] w fun e w' => e = .returned (.int .i64 (cmpI x y)) ∧ w' = w := by
  by_cases hx : x < y
  · have H := Lib.hid (cmpI_lt hx)
    go_enter Tryz.func193, Tryz.ntmps193
    go_wp2
    go_ret
    exact ⟨by rw [H.out]; rfl, rfl⟩
  · by_cases hy : y < x
    · have H := Lib.hid (cmpI_gt hy)
      go_enter Tryz.func193, Tryz.ntmps193
      go_wp2
      go_ret
      exact ⟨by rw [H.out]; rfl, rfl⟩
    · have H := Lib.hid (cmpI_eq hx hy)
      go_enter Tryz.func193, Tryz.ntmps193
      go_wp2
      go_ret
      exact ⟨by rw [H.out]; rfl, rfl⟩

set_option maxRecDepth 100000 in
set_option maxHeartbeats 1000000 in
theorem place_fin (v : Int) (w : World) :
    Calls Tryz.prog 221 #[fin v] w fun e w' => e = .returned (.tuple #[.int .i64 2, .int .i64 v]) ∧ Below w.heap.size w w' := by
  go_enter Tryz.func221, Tryz.ntmps221
  go_wp2_with fail
  have hb : ∀ w, (Instr.build 364 #[(1, .int .i64 0), (3, .int .i64 1), (0, .int .i64 2), (2, .int .i64 3)]).run Tryz.prog w = .ok (.agg #[.int .i64 2, .int .i64 0, .int .i64 3, .int .i64 1]) w := fun _ => by kernel_rfl
  have hi : ∀ w, (Instr.index 364 (.agg #[.int .i64 2, .int .i64 0, .int .i64 3, .int .i64 1]) (.int .i64 (min 0 3))).run Tryz.prog w = .ok (.int .i64 2) w := fun _ => by kernel_rfl
  refine wp_region_still_lit (by kernel_rfl) (by kernel_rfl) ?_
  change wpStill _ _ (World.alloc _ _).drew _ _ _
  repeat still_step
  refine wpStill_nil ?_
  change Exit.then _ _ _ _ (World.alloc _ _).drew
  go_wp2_with fail
  go_ret2
  exact ⟨rfl, ((Below.refl _ _).alloc (Nat.le_refl _) _).drew⟩

set_option maxRecDepth 100000 in
set_option maxHeartbeats 1000000 in
theorem order_fin (a b : Int) (w : World) :
    Calls Tryz.prog 169 #[fin a, fin b] w fun e w' => e = .returned (.int .i64 (cmpI a b)) ∧ Below w.heap.size w w' := by
  go_enter Tryz.func169, Tryz.ntmps169
  go_wp2_with fail
  refine Calls.mono (place_fin a _) ?_
  rintro e w1 ⟨rfl, hb1⟩
  dsimp only
  have hw : Below w.heap.size w w1 := below_then (((Below.refl _ _).alloc (Nat.le_refl _) _).alloc (by simp) _) (by simp; omega) hb1
  have c0 : w1.cell? ⟨w.heap.size + 1, 0, none⟩ = some (.int .i64 0) := (hb1.cell (p := ⟨w.heap.size + 1, 0, none⟩) (by simp)).trans (by simp [go_sem])
  have c1 : w1.cell? ⟨w.heap.size + 1, 1, none⟩ = some (.int .i64 b) := (hb1.cell (p := ⟨w.heap.size + 1, 1, none⟩) (by simp)).trans (by simp [go_sem])
  clear hb1
  go_wp2_with fail
  refine Calls.mono (place_fin b _) ?_
  rintro e w2 ⟨rfl, hb2⟩
  dsimp only
  have hw2 := below_then hw hw.size hb2
  clear hb2 c0 c1 hw
  have h22 : Lib.compareInt 2 2 = 0 := by decide
  go_wp2_with fail
  refine Calls.mono (Tryz.cmp_Compare_int _ _ _) ?_
  rintro e w3 ⟨rfl, rfl⟩
  dsimp only
  rw [h22]
  clear h22
  go_wp2_with fail
  refine Calls.mono (compare64_any a b _) ?_
  rintro e w4 ⟨rfl, rfl⟩
  dsimp only
  go_wp2_with fail
  refine Calls.mono (or_any _ 0 (cmpI a b) _ (by simp [go_sem]) (by simp [go_sem])) ?_
  rintro e w5 ⟨rfl, rfl⟩
  dsimp only
  rw [if_pos rfl]
  go_wp2_with fail
  go_ret
  exact ⟨rfl, hw2.alloc hw2.size _⟩

set_option maxRecDepth 100000 in
set_option maxHeartbeats 1000000 in
theorem compare_fin (a b : Int) (w : World) :
    Calls Tryz.prog 114 #[fin a, fin b] w fun e w' => e = .returned (.tuple #[.int .i64 (cmpI a b), .bool true]) ∧ Below w.heap.size w w' := by
  go_enter Tryz.func114, Tryz.ntmps114
  go_wp2_with fail
  refine Calls.mono (order_fin a b _) ?_
  rintro e w1 ⟨rfl, hb1⟩
  dsimp only
  have hw : Below w.heap.size w w1 := below_then (((Below.refl _ _).alloc (Nat.le_refl _) _).alloc (by simp) _) (by simp; omega) hb1
  go_wp2_with fail
  go_ret2
  exact ⟨rfl, hw⟩
end Go.Proofs.YtaadhehcoegmhaaGreatDoor
/- Round and Add of finite numbers not below 0. -/
namespace Go.Proofs.YtaadhehcoegmhaaGreatDoor
open Go Go.RowKit

theorem heap_alloc_at (w : World) (o : Obj) (k : Nat) : (w.alloc o).heap[k]? = if k = w.heap.size then some o else w.heap[k]? := by
  show (w.heap.push o)[k]? = _
  rw [Array.getElem?_push]

set_option maxRecDepth 100000 in
set_option maxHeartbeats 1000000 in
theorem round_fin (v : Int) (w : World) (h0 : 0 ≤ v) (h1 : v ≤ 100000000000) :
    Calls Tryz.prog 66 #[fin v] w fun e w' => e = .returned (fin (v + 500000 - (v + 500000) % 1000000)) ∧ Below w.heap.size w w' := by
  go_enter Tryz.func66, Tryz.ntmps66
  go_wp2_with fail
  refine Calls.mono (floor_fin (v + 500000) _ (by omega) (by omega)) ?_
  rintro e w1 ⟨rfl, hb⟩
  dsimp only
  have hg : w1.heap[w.heap.size + 1]? = some (.cells #[.int .i64 0, .int .i64 0] 29 (0, 0)) := (hb.block _ (by simp)).trans (heap_alloc2_new w _ _)
  have hw : Below w.heap.size w w1 := below_then (((Below.refl _ _).alloc (Nat.le_refl _) _).alloc (by simp) _) (by simp; omega) hb
  obtain ⟨r, hr⟩ : ∃ r, r = v + 500000 - (v + 500000) % 1000000 := ⟨_, rfl⟩
  rw [← hr]
  have HR := Lib.hid hr
  clear hr hb
  go_wp2_with (refine wpList_store_row rfl 29 (.tmp 2) (.tmp 11) rfl (w.heap.size + 1) #[.int .i64 0, .int .i64 r] rfl rfl 29 _ hg (by kernel_rfl) rfl (by simp [Value.oneCell']) ?_)
  exact bodyPost_ret (results_cell_row Tryz.results66 _ _ (w.heap.size + 1) 29 _ (0, 0) _ rfl (setRow_heap w1 _ _ _ 29 _ hg) Tryz.underlying29 rfl (by kernel_rfl)) rfl ⟨by rw [HR.out], below_setRow hw (by omega)⟩

set_option maxRecDepth 100000 in
set_option maxHeartbeats 1000000 in
theorem parts_fin (v : Int) (w : World) (h0 : 0 ≤ v) (h1 : v ≤ 100000000000) :
    Calls Tryz.prog 142 #[fin v] w fun e w' => e = .returned (.tuple #[.int .u64 v, .bool false]) ∧ Below w.heap.size w w' := by
  go_enter Tryz.func142, Tryz.ntmps142
  go_wp2
  go_ret2
  exact ⟨rfl, (Below.refl _ _).alloc (Nat.le_refl _) _⟩

set_option maxRecDepth 100000 in
set_option maxHeartbeats 1000000 in
theorem fin_any (v : Int) (w : World) (h0 : 0 ≤ v) (h1 : v ≤ 1000000000000) :
    Calls Tryz.prog 171 #[.int .u64 v, .bool false] w fun e w' => e = .returned (fin v) ∧ Below w.heap.size w w' := by
  go_enter Tryz.func171, Tryz.ntmps171
  go_wp2
  exact bodyPost_ret (v := fin v) (by simp [results, Tryz.results171, go_sem]) rfl ⟨rfl, (Below.refl _ _).alloc (Nat.le_refl _) _⟩

set_option maxRecDepth 100000 in
set_option maxHeartbeats 1000000 in
theorem add_fin (a b : Int) (w : World) (h0 : 0 ≤ a) (h1 : a ≤ 10000000000) (h2 : 0 ≤ b) (h3 : b ≤ 10000000000) :
    Calls Tryz.prog 118 #[fin a, fin b] w fun e w' => e = .returned (fin (a + b)) ∧ Below w.heap.size w w' := by
  go_enter Tryz.func118, Tryz.ntmps118
  go_wp2_with fail
  refine Calls.mono (parts_fin (a + b) _ (by omega) (by omega)) ?_
  rintro e w1 ⟨rfl, hb⟩
  dsimp only
  have hw : Below w.heap.size w w1 := below_then (((((Below.refl _ _).alloc (Nat.le_refl _) _).alloc (by simp) _).alloc (by simp; omega) _).alloc (by simp; omega) _) (by simp; omega) hb
  have hg : w1.heap[w.heap.size + 1 + 1]? = some (.cells #[.int .i64 0, .int .i64 0] 29 (0, 0)) := (hb.block _ (by simp)).trans (by rw [heap_alloc_at, if_neg (by simp), heap_alloc_at, if_pos (by simp)])
  clear hb
  go_wp2_with fail
  refine Calls.mono (fin_any (a + b) _ (by omega) (by omega)) ?_
  rintro e w2 ⟨rfl, hb⟩
  dsimp only
  have hw2 := below_then hw hw.size hb
  have hg2 := (hb.block _ (Array.getElem?_eq_some_iff.1 hg).1).trans hg
  clear hb hw hg
  go_wp2_with (refine wpList_store_row rfl 29 (.tmp 4) (.tmp 35) rfl (w.heap.size + 1 + 1) #[.int .i64 0, .int .i64 (a + b)] rfl rfl 29 _ hg2 (by kernel_rfl) rfl (by simp [Value.oneCell']) ?_)
  exact bodyPost_ret (results_cell_row Tryz.results118 _ _ (w.heap.size + 1 + 1) 29 _ (0, 0) _ rfl (setRow_heap w2 _ _ _ 29 _ hg2) Tryz.underlying29 rfl (by kernel_rfl)) rfl ⟨rfl, below_setRow hw2 (by omega)⟩
end Go.Proofs.YtaadhehcoegmhaaGreatDoor
/- The characters of a text of ASCII. -/
namespace Go.Proofs.YtaadhehcoegmhaaGreatDoor
open Go Go.RowKit

/-- Each byte as a text. -/
def singles (l : List UInt8) : List Value := l.map fun c => .string ⟨#[c]⟩

theorem below_grown {B : Nat} {w w0 w' : World} {row : Option Nat} (h : Below B w w0) (hB : B ≤ w0.heap.size) (hr : ∀ k, row = some k → B ≤ k) (hg : w0.grownBy w' row) : Below B w w' :=
  ⟨hg.os.trans h.os, hg.tape.trans h.tape, hg.output.trans h.output, Nat.le_trans h.size hg.size, fun i hi => (hg.block i (by omega) (fun e => by have := hr i e.symm; omega)).trans (h.block i hi)⟩

theorem info9 : (Tryz.prog.info? 9).map (fun i => (i.zero, i.size, i.bytes)) = some (some (.string ⟨#[]⟩), 1, 16) := by kernel_rfl

set_option maxRecDepth 100000 in
set_option maxHeartbeats 1000000 in
theorem chars_any (l : List UInt8) (hl : ∀ c ∈ l, c < 128) (hn : l.length ≤ 100000) (w : World) :
    Calls Tryz.prog 133 #[.string ⟨l.toArray⟩] w fun e w' => ∃ v, e = .returned v ∧ w'.ownsRow w.heap.size 9 1 v l.length (singles l) ∧ Below w.heap.size w w' := by
  obtain ⟨i0, hi, hz0, hz1, hz2⟩ := info_parts info9
  go_enter Tryz.func133, Tryz.ntmps133
  go_wp2
  go_loopw [0, 3] (fun s v wr => ∃ k : Nat, k ≤ l.length ∧ s = .string ⟨(l.drop k).toArray⟩ ∧ wr.ownsRow w.heap.size 9 1 v k (singles (l.take k)) ∧ Below w.heap.size w wr)
    (fun s _ _ => match s with | .string b => b.size | _ => 0)
  case atStart => exact ⟨0, by omega, rfl, ⟨by simp [singles], .inl ⟨rfl, rfl⟩⟩, Below.refl _ _⟩
  case round =>
    obtain ⟨k, hk, rfl, hown, hbel⟩ := hrel
    by_cases hlt : k < l.length
    · obtain ⟨c, rest, hd⟩ : ∃ c rest, l.drop k = c :: rest := by
        cases h : l.drop k with
        | nil => have := List.drop_eq_nil_iff.1 h; omega
        | cons c rest => exact ⟨c, rest, rfl⟩
      have hlen : rest.length + 1 = l.length - k := by have := congrArg List.length hd; simp at this; omega
      have hd1 : l.drop (k + 1) = rest := by rw [← List.drop_drop, hd]; rfl
      have ht1 : l.take (k + 1) = l.take k ++ [c] := by
        rw [List.take_succ_eq_append_getElem hlt]
        have : l[k] = c := by have := congrArg (fun x => x[0]?) hd; simpa [hlt] using this
        rw [this]
      have hc128 : c.toNat < 128 := by
        have hm : c ∈ l := List.mem_of_mem_drop (i := k) (by rw [hd]; exact List.mem_cons_self)
        have := hl c hm
        simpa [UInt8.lt_iff_toNat_lt] using this
      rw [hd]
      have Hd := Lib.hid hd
      have Hd1 := Lib.hid hd1
      have Ht1 := Lib.hid ht1
      clear hd hd1 ht1 hl
      go_wp2_with fail
      refine Calls.mono (Tryz.utf8_DecodeRuneInString_ascii _ c _ rfl hc128) ?_
      rintro e w1 ⟨rfl, rfl⟩
      dsimp only
      go_wp2_with fail
      have hsz := hbel.size
      have hi1 : (1 : Int) ≤ ((l.length - k : Nat) : Int) := by omega
      have ex0 : (⟨(c :: rest).toArray⟩ : ByteArray).extract 0 1 = ⟨#[c]⟩ := by
        apply ByteArray.ext; simp
      have ex1 : (⟨(c :: rest).toArray⟩ : ByteArray).extract 1 (l.length - k) = ⟨rest.toArray⟩ := by
        apply ByteArray.ext; simp [← hlen]
      have E0 := Lib.hid ex0
      have E1 := Lib.hid ex1
      clear ex0 ex1
      go_region_held3 (fun w' => True)
        (trivial)
        ((refine step_append_lies _ (by rfl) _ _ _ (by rfl) w.heap.size 9 i0 _ 1 16 Tryz.underlying56 hi hz0 hz1 hz2 rfl (by omega) _ k (singles (l.take k)) (by rfl) ((hown.alloc _).drew)
            ⟨w1.heap.size, 0, none⟩ 1 1 [.string ⟨#[c]⟩] (by rfl) (by rfl) (World.news_of_block (cs := #[.string ⟨#[c]⟩]) (t := 9) (fr := (0, 0)) ((heap_alloc_new w1 _).trans (by rw [E0.out]))) (by simp [Value.oneCell'])
            (by have := hbel.size; omega) (by simp [maxLen]; omega) (by omega) (by simp; omega) (w1.heap.size + 1) (by simp) ?_; intro gg cap w2 hown1 hgrow hat hlt))
      all_goals
        rw [E1.out]
        go_wp2_with fail
        go_roundw
        case rel =>
          refine ⟨k + 1, by omega, by rw [Hd1.out], by rw [Ht1.out]; simpa [singles] using hown1, ?_⟩
          exact below_grown (((hbel.alloc (by omega) _)).drew) (by simp; omega) (fun k hk => (hown.lt k hk).1) hgrow
        case measure => simp [ByteArray.size]
    · have hd : l.drop k = [] := List.drop_eq_nil_iff.2 (by omega)
      obtain rfl : k = l.length := by omega
      rw [hd]
      rw [List.take_length] at hown
      clear hd
      go_wp2_with fail
      go_ret
      exact ⟨_, rfl, hown, hbel⟩
end Go.Proofs.YtaadhehcoegmhaaGreatDoor
/- Rows of one-character texts, and slices.Index over them. -/
namespace Go.Proofs.YtaadhehcoegmhaaGreatDoor
open Go Go.RowKit

/-- A slice of texts, one for each byte of l. -/
def Strs (w : World) (v : Value) (l : List UInt8) : Prop :=
  (v = .slice none 0 0 ∧ l = []) ∨
  ∃ g cap cur fz, v = .slice (some ⟨g, 0, none⟩) l.length cap ∧ w.heap[g]? = some (.cells cur 9 fz) ∧ cur.toList.take l.length = singles l

theorem Strs.of_row {w : World} {B : Nat} {v : Value} {l : List UInt8} (h : w.ownsRow B 9 1 v l.length (singles l)) : Strs w v l := by
  rcases h.2 with ⟨h1, h2⟩ | ⟨g, cap, cur, h1, _, h3, _, _, _, h7⟩
  · exact .inl ⟨h1, List.length_eq_zero_iff.1 h2⟩
  · exact .inr ⟨g, cap, cur, _, h1, h3, by simpa using h7⟩

theorem Strs.below {w w' : World} {v : Value} {l : List UInt8} (h : Strs w v l) (hb : Below w.heap.size w w') : Strs w' v l := by
  rcases h with h | ⟨g, cap, cur, fz, h1, h2, h3⟩
  · exact .inl h
  · exact .inr ⟨g, cap, cur, fz, h1, (hb.block _ (Array.getElem?_eq_some_iff.1 h2).1).trans h2, h3⟩

theorem Strs.others {w w' : World} {v : Value} {l : List UInt8} {B b : Nat} {bs : List Value} (h : Strs w v l) (hb : Lib.IsBuilderF 191 5 B b bs w) (ho : Lib.OthersKept 5 (some b) w w') : Strs w' v l := by
  rcases h with h | ⟨g, cap, cur, fz, h1, h2, h3⟩
  · exact .inl h
  · refine .inr ⟨g, cap, cur, fz, h1, ho g _ h2 ?_ ?_, h3⟩
    · intro e
      have e' : g = b := by simpa using e
      subst e'
      rcases hb with ⟨_, v, hv, _⟩ | ⟨_, v, hv, _⟩ <;> rw [hv] at h2 <;> simp at h2
    · intro c fz' e
      simp at e

theorem Strs.slice {w : World} {v : Value} {l : List UInt8} (h : Strs w v l) : ∃ A n cap, v = .slice A n cap ∧ n = l.length := by
  rcases h with ⟨rfl, rfl⟩ | ⟨g, cap, cur, fz, h1, _, _⟩
  · exact ⟨_, _, _, rfl, rfl⟩
  · exact ⟨_, _, _, h1, rfl⟩

/-- A cell of it. -/
theorem Strs.cell {w : World} {A : Option Addr} {n cap k : Nat} {c : UInt8} {l : List UInt8} (h : Strs w (.slice A n cap) l) (hk : l[k]? = some c) :
    ∃ g, A = some ⟨g, 0, none⟩ ∧ w.cell? ⟨g, k, none⟩ = some (.string ⟨#[c]⟩) := by
  rcases h with ⟨_, rfl⟩ | ⟨g, cap, cur, fz, h1, h2, h3⟩
  · simp at hk
  · simp at h1
    refine ⟨g, h1.1, ?_⟩
    have hlt : k < l.length := (List.getElem?_eq_some_iff.1 hk).1
    have h4 : cur.toList[k]? = some (.string ⟨#[c]⟩) := by
      rw [← List.getElem?_take_of_lt hlt, h3, singles, List.getElem?_map, hk]; rfl
    rw [Lib.cell_of_heap h2, ← Array.getElem?_toList, h4]

theorem chars_strs (l : List UInt8) (hl : ∀ c ∈ l, c < 128) (hn : l.length ≤ 100000) (w : World) :
    Calls Tryz.prog 133 #[.string ⟨l.toArray⟩] w fun e w' => ∃ A cap, e = .returned (.slice A l.length cap) ∧ Strs w' (.slice A l.length cap) l ∧ Below w.heap.size w w' := by
  refine Calls.mono (chars_any l hl hn w) ?_
  rintro e w' ⟨v, rfl, h, hb⟩
  have h2 := Strs.of_row h
  obtain ⟨A, n, cap, rfl, rfl⟩ := h2.slice
  exact ⟨A, cap, rfl, h2, hb⟩

def strsOf (l : List UInt8) : List ByteArray := l.map fun c => ⟨#[c]⟩

theorem index_strs (A : Option Addr) (n cap : Nat) (l : List UInt8) (c : UInt8) (w : World) (h : Strs w (.slice A n cap) l) (hn : n = l.length) (hb : n ≤ 100000) :
    Calls Tryz.prog 134 #[.slice A n cap, .string ⟨#[c]⟩] w fun e w' => e = .returned (.int .i64 (Lib.idxOfS (strsOf l) ⟨#[c]⟩)) ∧ w' = w := by
  subst hn
  rcases hl : l with _ | ⟨d, r⟩
  · exact Tryz.slices_Index_string_empty A cap _ w
  · obtain ⟨g, hA, _⟩ := Strs.cell (k := 0) (c := d) h (by rw [hl]; rfl)
    subst hA
    rw [← hl]
    refine Calls.mono (Tryz.slices_Index_string g 0 l.length cap (strsOf l) ⟨#[c]⟩ w (by simp [strsOf]) (by omega) ?_) ?_
    · intro j hj
      have hj2 : j < l.length := by simpa [strsOf] using hj
      obtain ⟨g', hg', hc⟩ := Strs.cell (k := j) (c := l[j]) h (by simp [hj2])
      simp only [Option.some.injEq, Addr.mk.injEq] at hg'
      obtain ⟨rfl, _⟩ := hg'
      rw [Nat.zero_add, hc]
      simp [strsOf, hj2]
    · rintro e w' ⟨rfl, rfl⟩
      refine ⟨?_, rfl⟩
      rw [List.take_of_length_le (by simp [strsOf])]
end Go.Proofs.YtaadhehcoegmhaaGreatDoor
/- translate. -/
namespace Go.Proofs.YtaadhehcoegmhaaGreatDoor
open Go Go.RowKit

/-- A character's place. -/
def ix (fr : List UInt8) (c : UInt8) : Int := Lib.idxOfS (strsOf fr) ⟨#[c]⟩

/-- What a character becomes. -/
def trc (fr tt : List UInt8) (c : UInt8) : List UInt8 :=
  if ix fr c < 0 then [c] else (tt[(ix fr c).toNat]?).toList

theorem trc_length (fr tt : List UInt8) (c : UInt8) : (trc fr tt c).length ≤ 1 := by
  unfold trc
  split
  · simp
  · cases tt[(ix fr c).toNat]? <;> simp

theorem tr_length (fr tt s : List UInt8) : (s.flatMap (trc fr tt)).length ≤ s.length := by
  induction s with
  | nil => simp
  | cons c r ih => have := trc_length fr tt c; simp only [List.flatMap_cons, List.length_append, List.length_cons]; omega

theorem tr_take (fr tt s : List UInt8) (k : Nat) (c : UInt8) (hk : s[k]? = some c) : (s.take (k + 1)).flatMap (trc fr tt) = (s.take k).flatMap (trc fr tt) ++ trc fr tt c := by
  have hlt : k < s.length := (List.getElem?_eq_some_iff.1 hk).1
  rw [List.take_succ_eq_append_getElem hlt, List.flatMap_append]
  have : s[k] = c := (List.getElem?_eq_some_iff.1 hk).2
  simp [this]

/-- What stands between two rounds. -/
def TrRel (B b : Nat) (w0 w : World) (v3 v4 v17 : Value) (fr tt s : List UInt8) (k : Nat) : Prop :=
  k ≤ s.length ∧ Lib.IsBuilderF 191 5 B b (Lib.byteCells ((s.take k).flatMap (trc fr tt))) w ∧ Strs w v3 fr ∧ Strs w v4 tt ∧ Strs w v17 s ∧ Below B w0 w

theorem builder_new {B b : Nat} {w : World} (hB : B ≤ b) (h : w.heap[b]? = some (.cells #[.pointer none, .slice none 0 0] 191 (0, 0))) : Lib.IsBuilderF 191 5 B b [] w :=
  .inl ⟨hB, .slice none 0 0, h, ⟨rfl, .inl ⟨rfl, rfl⟩⟩, by simp [Value.ownBlock]⟩

def ascii (l : List UInt8) : Prop := (∀ c ∈ l, c < 128) ∧ l.length ≤ 100000

/-- What translate's preparation holds while the arguments' box lies. -/
def HasBox (w : World) (t sl : Value) (xs : List GV) (w' : World) : Prop :=
  w'.cell? ⟨w.heap.size, 0, none⟩ = some t ∧ w'.cell? ⟨w.heap.size, 1, none⟩ = some sl ∧ Has sl xs w' ∧ Below w.heap.size w w'

set_option maxRecDepth 100000 in
set_option maxHeartbeats 1000000 in
theorem translate_any (t : Option Addr) (A : Option Addr) (n cap : Nat) (s fr tt : List UInt8) (w : World) (hs : ascii s) (hf : ascii fr) (ht : ascii tt)
    (h : Has (.slice A n cap) [.text ⟨s.toArray⟩, .text ⟨fr.toArray⟩, .text ⟨tt.toArray⟩] w) :
    Calls Tryz.prog 89 #[.agg #[.pointer t, .slice A n cap]] w fun e w' => e = .returned (.string ⟨(s.flatMap (trc fr tt)).toArray⟩) ∧ Below w.heap.size w w' := by
  go_enter Tryz.func89, Tryz.ntmps89
  go_wp2_with fail
  go_region_held3 (fun w' => w'.cell? ⟨w.heap.size, 0, none⟩ = some (.pointer t) ∧ w'.cell? ⟨w.heap.size, 1, none⟩ = some (.slice A n cap) ∧ Has (.slice A n cap) [.text ⟨s.toArray⟩, .text ⟨fr.toArray⟩, .text ⟨tt.toArray⟩] w' ∧ Below w.heap.size w w')
    (first | exact held_first h | exact held_next ‹_› ‹_›)
    (first
      | (go_at_call_of 77 (Value.int IntKind.i64 1); refine Calls.mono (Has.str (xs := [.text ⟨s.toArray⟩, .text ⟨fr.toArray⟩, .text ⟨tt.toArray⟩]) _ 1 _ rfl ?_) ?_; exact (‹_ ∧ _ ∧ Has _ _ _ ∧ _›).2.2.1; rintro e w1 ⟨rfl, hb1⟩)
      | (go_at_call_of 77 (Value.int IntKind.i64 2); refine Calls.mono (Has.str (xs := [.text ⟨s.toArray⟩, .text ⟨fr.toArray⟩, .text ⟨tt.toArray⟩]) _ 2 _ rfl ?_) ?_; exact (‹_ ∧ _ ∧ Has _ _ _ ∧ _›).2.2.1; rintro e w2 ⟨rfl, hb2⟩)
      | (go_at_call_of 133 (Value.string ⟨fr.toArray⟩); refine Calls.mono (chars_strs fr hf.1 hf.2 _) ?_; rintro e w3 ⟨A3, cap3, rfl, hfr, hb3⟩)
      | (go_at_call_of 133 (Value.string ⟨tt.toArray⟩); refine Calls.mono (chars_strs tt ht.1 ht.2 _) ?_; rintro e w4 ⟨A4, cap4, rfl, hto, hb4⟩))
  obtain ⟨hc0, hc1, hHas, hBel⟩ := (‹_ ∧ _ ∧ Has _ _ _ ∧ Below _ _ _›)
  have hfr' := (hfr.below hb2).below hb4
  clear hfr hb1 hb2 hb3 hb4
  have hd0 := cell_alloc hc0 (.cells #[.pointer none, .slice none 0 0] 191)
  have hd1 := cell_alloc hc1 (.cells #[.pointer none, .slice none 0 0] 191)
  go_wp2_with fail
  refine Calls.mono (Has.str (xs := [.text ⟨s.toArray⟩, .text ⟨fr.toArray⟩, .text ⟨tt.toArray⟩]) _ 0 _ rfl (hHas.alloc _)) ?_
  rintro e w5 ⟨rfl, hb5⟩
  dsimp only
  go_wp2_with fail
  refine Calls.mono (chars_strs s hs.1 hs.2 _) ?_
  rintro e w6 ⟨A6, cap6, rfl, hst, hb6⟩
  dsimp only
  have hf6 : Strs w6 (.slice A3 fr.length cap3) fr := ((hfr'.below ((Below.refl _ _).alloc (Nat.le_refl _) _)).below hb5).below hb6
  have ht6 : Strs w6 (.slice A4 tt.length cap4) tt := ((hto.below ((Below.refl _ _).alloc (Nat.le_refl _) _)).below hb5).below hb6
  have hz4 := hBel.size
  have hbl6 : Below w.heap.size w w6 := below_then (below_then (hBel.alloc (by omega) _) (by simp; omega) hb5) (by have := hb5.size; simp at this; omega) hb6
  have hbd : Lib.IsBuilderF 191 5 w.heap.size w4.heap.size [] w6 := builder_new hz4 ((hb6.block _ (by have := hb5.size; simp at this; omega)).trans ((hb5.block _ (by simp)).trans (heap_alloc_new w4 _)))
  have hrel0 : TrRel w.heap.size w4.heap.size w w6 (.slice A3 fr.length cap3) (.slice A4 tt.length cap4) (.slice A6 s.length cap6) fr tt s 0 := ⟨by omega, by simpa [Lib.byteCells] using hbd, hf6, ht6, hst, hbl6⟩
  obtain ⟨hlen, hlenf, hlent⟩ : s.length ≤ 100000 ∧ fr.length ≤ 100000 ∧ tt.length ≤ 100000 := ⟨hs.2, hf.2, ht.2⟩
  clear hb5 hb6 hst hf6 ht6 hbl6 hbd hd0 hd1 hc0 hc1 hHas hBel hto hfr' h hs hf ht
  go_wp2_with fail
  go_loopw [19] (fun v wr => ∃ k : Nat, v = .int .i64 k ∧ TrRel w.heap.size w4.heap.size w wr (.slice A3 fr.length cap3) (.slice A4 tt.length cap4) (.slice A6 s.length cap6) fr tt s k)
    (fun i _ => s.length - (intOf i).toNat)
  case atStart => exact ⟨0, rfl, hrel0⟩
  case round =>
    obtain ⟨k, rfl, hk, hbld, hfr, hto, hst, hbel⟩ := hrel
    clear hrel0
    by_cases hlt : k < s.length
    · obtain ⟨c, hc⟩ : ∃ c, s[k]? = some c := ⟨s[k], by simp [hlt]⟩
      obtain ⟨g, rfl, hcell⟩ := Strs.cell hst hc
      have htk := tr_take fr tt s k c hc
      have htl := tr_length fr tt (s.take k)
      rw [List.length_take] at htl
      obtain ⟨pre, hpre⟩ : ∃ pre, pre = (s.take k).flatMap (trc fr tt) := ⟨_, rfl⟩
      rw [← hpre] at hbld htk htl
      have HTK := Lib.hid htk
      have HC := Lib.hid hc
      clear htk hpre hc
      obtain ⟨i, hi⟩ : ∃ i, i = ix fr c := ⟨_, rfl⟩
      have HI := Lib.hid hi
      have hix : Calls Tryz.prog 134 #[.slice A3 fr.length cap3, .string ⟨#[c]⟩] wr fun e w' => e = .returned (.int .i64 i) ∧ w' = wr := by
        rw [hi]; exact index_strs A3 _ cap3 fr c wr hfr rfl hlenf
      clear hi
      rcases (by omega : i < 0 ∨ 0 ≤ i) with hneg | hpos
      · go_wp2_with fail
        refine Calls.mono hix ?_
        rintro e w7 ⟨rfl, rfl⟩
        dsimp only
        go_wp2_with fail
        refine Calls.mono (writeString_k _ _ _ ⟨#[c]⟩ _ hbld (by simp [Lib.byteCells_length, ByteArray.size]; omega) (by have := hbel.size; omega)) ?_
        rintro e w8 ⟨rfl, hbld8, hb8, ho8⟩
        dsimp only
        go_wp2_with fail
        go_roundw
        case rel => exact ⟨k + 1, by go_num, by omega, by rw [HTK.out]; simpa [trc, ← HI.out, hneg, Lib.byteCells_append, Lib.strCells_eq] using hbld8, hfr.others hbld ho8, hto.others hbld ho8, hst.others hbld ho8, hbel.trans hb8⟩
        case measure => simp [intOf]; omega
      · obtain ⟨m, rfl⟩ : ∃ m : Nat, i = m := ⟨i.toNat, by omega⟩
        by_cases hm : m < tt.length
        · obtain ⟨d, hd⟩ : ∃ d, tt[m]? = some d := ⟨tt[m], by simp [hm]⟩
          obtain ⟨g2, rfl, hcell2⟩ := Strs.cell hto hd
          have HD := Lib.hid hd
          clear hd
          go_wp2_with fail
          refine Calls.mono hix ?_
          rintro e w7 ⟨rfl, rfl⟩
          dsimp only
          go_wp2_with fail
          refine Calls.mono (writeString_k _ _ _ ⟨#[d]⟩ _ hbld (by simp [Lib.byteCells_length, ByteArray.size]; omega) (by have := hbel.size; omega)) ?_
          rintro e w8 ⟨rfl, hbld8, hb8, ho8⟩
          dsimp only
          go_wp2_with fail
          go_roundw
          case rel => exact ⟨k + 1, by go_num, by omega, by rw [HTK.out]; simpa [trc, ← HI.out, HD.out, if_neg (show ¬ ((m : Int) < 0) by omega), Lib.byteCells_append, Lib.strCells_eq] using hbld8, hfr.others hbld ho8, hto.others hbld ho8, hst.others hbld ho8, hbel.trans hb8⟩
          case measure => simp [intOf]; omega
        · have hd : tt[m]? = none := by simp; omega
          have HD := Lib.hid hd
          clear hd
          go_wp2_with fail
          refine Calls.mono hix ?_
          rintro e w7 ⟨rfl, rfl⟩
          dsimp only
          go_wp2_with fail
          go_roundw
          case rel => exact ⟨k + 1, by go_num, by omega, by rw [HTK.out]; simpa [trc, ← HI.out, HD.out, if_neg (show ¬ ((m : Int) < 0) by omega), Lib.byteCells_append, Lib.strCells_eq] using hbld, hfr, hto, hst, hbel⟩
          case measure => simp [intOf]; omega
    · obtain rfl : k = s.length := by omega
      rw [List.take_length] at hbld
      go_wp2_with fail
      refine Calls.mono (Tryz.Builder_String_any_k _ _ _ _ hbld (by have := hbel.size; omega)) ?_
      rintro e w7 ⟨rfl, _, hb7, _⟩
      dsimp only
      go_wp2_with fail
      go_ret
      exact ⟨rfl, hbel.trans hb7⟩
end Go.Proofs.YtaadhehcoegmhaaGreatDoor
/- Maps keyed by ints that a literal fills; what holds tells of two numbers. -/
namespace Go.Proofs.YtaadhehcoegmhaaGreatDoor
open Go Go.RowKit

/-- The entries of a int-keyed map, row by row: the keys, and what each value is. -/
def KeyRowsI {α : Type} (R : Value → α → Prop) : List MapEntry → List (Int × α) → Prop
  | [], [] => True
  | e :: es, r :: rs => e.key = .int .i64 r.1 ∧ R e.val r.2 ∧ KeyRowsI R es rs
  | _, _ => False

/-- What stands at a key: the first row of that key. -/
def rowAtI {α : Type} (k : Int) : List (Int × α) → Option α
  | [] => none
  | r :: rs => if k == r.1 then some r.2 else rowAtI k rs

theorem KeyRowsI.snoc {α : Type} {R : Value → α → Prop} {v : Value} {k : Int} {x : α} {c : Nat} (hx : R v x) :
    ∀ {es : List MapEntry} {rs : List (Int × α)}, KeyRowsI R es rs → KeyRowsI R (es ++ [⟨.int .i64 k, v, c⟩]) (rs ++ [(k, x)])
  | [], [], _ => ⟨rfl, hx, trivial⟩
  | [], _ :: _, h => h.elim
  | _ :: _, [], h => h.elim
  | _ :: _, _ :: _, h => ⟨h.1, h.2.1, KeyRowsI.snoc hx h.2.2⟩

theorem KeyRowsI.imp {α : Type} {R R' : Value → α → Prop} (hR : ∀ v x, R v x → R' v x) :
    ∀ {es : List MapEntry} {rs : List (Int × α)}, KeyRowsI R es rs → KeyRowsI R' es rs
  | [], [], _ => trivial
  | [], _ :: _, h => h.elim
  | _ :: _, [], h => h.elim
  | _ :: _, _ :: _, h => ⟨h.1, hR _ _ h.2.1, KeyRowsI.imp hR h.2.2⟩

theorem KeyRowsI.find {α : Type} {R : Value → α → Prop} {k : Int} :
    ∀ {es : List MapEntry} {rs : List (Int × α)} (i : Nat), KeyRowsI R es rs →
      (rowAtI k rs = none ∧ Instr.findNow (.int .i64) (.int .i64 k) es i = some none) ∨ ∃ j v x, rowAtI k rs = some x ∧ R v x ∧ Instr.findNow (.int .i64) (.int .i64 k) es i = some (some (j, v))
  | [], [], _, _ => .inl ⟨rfl, rfl⟩
  | [], _ :: _, _, h => h.elim
  | _ :: _, [], _, h => h.elim
  | e :: es, r :: rs, i, h => by
    obtain ⟨hk, hv, ht⟩ := h
    by_cases he : (k == r.1) = true
    · exact .inr ⟨i, e.val, r.2, by simp only [rowAtI, he, if_true], hv, by simp only [Instr.findNow, hk, Instr.sameNow, he, if_true]⟩
    · have he' : (k == r.1) = false := by simpa using he
      rcases KeyRowsI.find (k := k) (i + 1) ht with ⟨h1, h2⟩ | ⟨j, v, x, h1, h2, h3⟩
      · exact .inl ⟨by simp only [rowAtI, he', Bool.false_eq_true, if_false, h1], by simp only [Instr.findNow, hk, Instr.sameNow, he', if_true, h2]⟩
      · exact .inr ⟨j, v, x, by simp only [rowAtI, he', Bool.false_eq_true, if_false, h1], h2, by simp only [Instr.findNow, hk, Instr.sameNow, he', if_true, h3]⟩

section
variable {P : Program} {t kt et : TypeId}

theorem run_insert_newI {α : Type} {R : Value → α → Prop} {w : World} {m c : Nat} {es : Array MapEntry} {rs : List (Int × α)} (ht : P.underlying t = some (.map kt et)) (hkt : P.underlying kt = some (.int .i64))
    (hm : w.heap[m]? = some (.map es c)) (hR : KeyRowsI R es.toList rs) (k : Int) (hnew : rowAtI k rs = none) (v : Value) :
    (Instr.mapUpdate t (.map (some m)) (.int .i64 k) v).run P w = .ok () { w with heap := w.heap.setIfInBounds m (.map (es.push ⟨.int .i64 k, v, c⟩) (c + 1)) } := by
  have h1 : Instr.findNow (.int .i64) (.int .i64 k) es.toList 0 = some none := by
    rcases hR.find (k := k) 0 with ⟨_, h⟩ | ⟨j, u, x, h, _⟩
    · exact h
    · rw [hnew] at h; cases h
  have hik : MapKept.IsKey (.int .i64) (.int .i64 k) := rfl
  simp [Instr.mapUpdate, run_underlying ht, MapKept.run_getObj_map hm, MapKept.run_checkKey hkt hik, MapKept.run_findKey hkt h1, MapKept.run_setObj_map _ hm, Result.andThen]

theorem run_lookup_rowsI {α : Type} {R : Value → α → Prop} {w : World} {m c : Nat} {es : Array MapEntry} {rs : List (Int × α)} (ht : P.underlying t = some (.map kt et)) (hkt : P.underlying kt = some (.int .i64))
    (hm : w.heap[m]? = some (.map es c)) (hR : KeyRowsI R es.toList rs) {z : Value} (hz : (zeroValue et).run P w = .ok z w) (k : Int) (ok : Bool) :
    (rowAtI k rs = none ∧ (Instr.lookup t (.map (some m)) (.int .i64 k) ok).run P w = .ok (if ok then .tuple #[z, .bool false] else z) w) ∨
    ∃ v x, rowAtI k rs = some x ∧ R v x ∧ (Instr.lookup t (.map (some m)) (.int .i64 k) ok).run P w = .ok (if ok then .tuple #[v, .bool true] else v) w := by
  have hik : MapKept.IsKey (.int .i64) (.int .i64 k) := rfl
  rcases hR.find (k := k) 0 with ⟨h0, h1⟩ | ⟨j, v, x, h0, h2, h1⟩
  · exact .inl ⟨h0, by cases ok <;> simp [Instr.lookup, run_underlying ht, MapKept.run_getObj_map hm, MapKept.run_checkKey hkt hik, MapKept.run_findKey hkt h1, hz, Result.andThen]⟩
  · exact .inr ⟨v, x, h0, h2, by cases ok <;> simp [Instr.lookup, run_underlying ht, MapKept.run_getObj_map hm, MapKept.run_checkKey hkt hik, MapKept.run_findKey hkt h1, Result.andThen]⟩
end

/-- The map of a literal as it grows, at the operation. -/
theorem wpList_insert_newI {P : Program} {ops : Array Oper} {rest : List Oper} {o : Oper} {a : Act} {Q : Exit → Act → World → Prop} (w : World)
    {α : Type} {R : Value → α → Prop} {m c : Nat} {es : Array MapEntry} {rs : List (Int × α)} {t kt et : TypeId} (hg : o.guard = none) (mo x : Operand) (k : Int) (hop : o.op = Op.insert t mo (.const (.int .i64 k)) x)
    (ht : P.underlying t = some (.map kt et)) (hkt : P.underlying kt = some (.int .i64)) (hmo : a.eval mo = .map (some m)) (hm : w.heap[m]? = some (.map es c)) (hR : KeyRowsI R es.toList rs) (hnew : rowAtI k rs = none) (v : Value) (hv : a.eval x = v)
    (hK : ∀ w', w'.heap[m]? = some (.map (es.push ⟨.int .i64 k, v, c⟩) (c + 1)) → w.grownBy w' (some m) → wpList P ops Q rest (a.put o.dst undef) w') :
    wpList P ops Q (o :: rest) a w := by
  refine wpList_plain hg fun K hK' => ?_
  have hrun := run_insert_newI ht hkt hm hR k hnew v
  have hlt : m < w.heap.size := (Array.getElem?_eq_some_iff.1 hm).1
  unfold Oper.wp
  have hc : a.eval (.const (.int .i64 k)) = .int .i64 k := rfl
  simp [execOp, hop, hmo, hv, hc, hrun, Result.andThen]
  exact hK' _ _ (hK _ (by simp [hlt]) (grownBy_setIn _))
theorem wpList_lookup_rowsI {P : Program} {ops : Array Oper} {rest : List Oper} {o : Oper} {a : Act} {Q : Exit → Act → World → Prop} {w : World} (hg : o.guard = none)
    {α : Type} {R : Value → α → Prop} {m c : Nat} {es : Array MapEntry} {rs : List (Int × α)} {t kt et : TypeId} (mo ko : Operand) (ok : Bool) (hop : o.op = .lookup t mo ko ok)
    (ht : P.underlying t = some (.map kt et)) (hkt : P.underlying kt = some (.int .i64)) (hm : w.heap[m]? = some (.map es c)) (hR : KeyRowsI R es.toList rs) {z : Value} (hz : (zeroValue et).run P w = .ok z w)
    (k : Int) (hmo : a.eval mo = .map (some m)) (hko : a.eval ko = .int .i64 k)
    (h0 : rowAtI k rs = none → wpList P ops Q rest (a.put o.dst (if ok then .tuple #[z, .bool false] else z)) w)
    (h1 : ∀ v x, rowAtI k rs = some x → R v x → wpList P ops Q rest (a.put o.dst (if ok then .tuple #[v, .bool true] else v)) w) : wpList P ops Q (o :: rest) a w := by
  refine wpList_plain hg fun K hK' => ?_
  unfold Oper.wp execOp
  rcases run_lookup_rowsI ht hkt hm hR hz k ok with ⟨hn, hrun⟩ | ⟨v, x, hx, hv, hrun⟩
  · simp only [hop, hmo, hko, hrun, Sem.run_bind, Result.andThen_ok, Sem.run_pure]
    exact hK' _ _ (h0 hn)
  · simp only [hop, hmo, hko, hrun, Sem.run_bind, Result.andThen_ok, Sem.run_pure]
    exact hK' _ _ (h1 v x hx hv)


set_option maxRecDepth 100000 in
set_option maxHeartbeats 1000000 in
theorem holds_fin (op a b : Int) (x : Bool) (hx : rowAtI op [(3, (cmpI a b == 0)), (4, (cmpI a b != 0)), (5, decide (cmpI a b < 0)), (6, decide (cmpI a b ≤ 0)), (7, decide (cmpI a b > 0)), (8, decide (cmpI a b ≥ 0))] = some x) (w : World) :
    Calls Tryz.prog 137 #[.int .i64 op, fin a, fin b] w fun e w' => e = .returned (.bool x) ∧ Below w.heap.size w w' := by
  have HX := Lib.hid hx
  clear hx
  go_enter Tryz.func137, Tryz.ntmps137
  go_wp2_with fail
  refine Calls.mono (compare_fin a b _) ?_
  rintro e w1 ⟨rfl, hb1⟩
  dsimp only
  have hw : Below w.heap.size w w1 := below_then (((Below.refl _ _).alloc (Nat.le_refl _) _).alloc (by simp) _) (by simp; omega) hb1
  have hw' := Lib.hid hw
  clear hw hb1
  have hmm := @run_makeMap Tryz.prog
  obtain ⟨c, hc⟩ : ∃ c, c = cmpI a b := ⟨_, rfl⟩
  rw [← hc] at HX ⊢
  clear hc
  have hm0 : (w1.alloc (.map #[] 0)).heap[w1.heap.size]? = some (.map #[] 0) := (MapKept.heap_alloc w1 _).1
  have hg0 : Below w.heap.size w (w1.alloc (.map #[] 0)) := hw'.out.alloc hw'.out.size _
  have hge : w.heap.size ≤ w1.heap.size := hw'.out.size
  have HM0 := Lib.hid hm0
  have HG0 := Lib.hid hg0
  clear hm0 hg0
  go_wp2_with (first
    | (refine wpList_insert_newI (w1.alloc (.map #[] 0)) (R := fun v (x : Bool) => v = .bool x) (m := w1.heap.size) (c := 0) (es := #[]) (rs := []) rfl (.tmp 19) (.tmp 21) 3 rfl Tryz.underlying270 Tryz.underlying150 rfl HM0.out trivial rfl (.bool (c == 0)) rfl ?_
       intro w2 hm hg
       have HM1 := Lib.hid hm
       have HG1 := Lib.hid (HG0.out.grown hg HG0.out.size (fun k hk => by cases hk; exact hge))
       clear hm hg HM0)
    | (refine wpList_insert_newI w2 (R := fun v (x : Bool) => v = .bool x) (m := w1.heap.size) (c := 1) (es := #[⟨.int .i64 3, .bool (c == 0), 0⟩]) (rs := [(3, (c == 0))]) rfl (.tmp 19) (.tmp 23) 4 rfl Tryz.underlying270 Tryz.underlying150 rfl HM1.out ⟨rfl, rfl, trivial⟩ rfl (.bool (c != 0)) rfl ?_
       intro w3 hm hg
       have HM2 := Lib.hid hm
       have HG2 := Lib.hid (HG1.out.grown hg HG1.out.size (fun k hk => by cases hk; exact hge))
       clear hm hg HM1)
    | (refine wpList_insert_newI w3 (R := fun v (x : Bool) => v = .bool x) (m := w1.heap.size) (c := 2) (es := #[⟨.int .i64 3, .bool (c == 0), 0⟩, ⟨.int .i64 4, .bool (c != 0), 1⟩]) (rs := [(3, (c == 0)), (4, (c != 0))]) rfl (.tmp 19) (.tmp 25) 5 rfl Tryz.underlying270 Tryz.underlying150 rfl HM2.out ⟨rfl, rfl, rfl, rfl, trivial⟩ rfl (.bool (decide (c < 0))) rfl ?_
       intro w4 hm hg
       have HM3 := Lib.hid hm
       have HG3 := Lib.hid (HG2.out.grown hg HG2.out.size (fun k hk => by cases hk; exact hge))
       clear hm hg HM2)
    | (refine wpList_insert_newI w4 (R := fun v (x : Bool) => v = .bool x) (m := w1.heap.size) (c := 3) (es := #[⟨.int .i64 3, .bool (c == 0), 0⟩, ⟨.int .i64 4, .bool (c != 0), 1⟩, ⟨.int .i64 5, .bool (decide (c < 0)), 2⟩]) (rs := [(3, (c == 0)), (4, (c != 0)), (5, decide (c < 0))]) rfl (.tmp 19) (.tmp 27) 6 rfl Tryz.underlying270 Tryz.underlying150 rfl HM3.out ⟨rfl, rfl, rfl, rfl, rfl, rfl, trivial⟩ rfl (.bool (decide (c ≤ 0))) rfl ?_
       intro w5 hm hg
       have HM4 := Lib.hid hm
       have HG4 := Lib.hid (HG3.out.grown hg HG3.out.size (fun k hk => by cases hk; exact hge))
       clear hm hg HM3)
    | (refine wpList_insert_newI w5 (R := fun v (x : Bool) => v = .bool x) (m := w1.heap.size) (c := 4) (es := #[⟨.int .i64 3, .bool (c == 0), 0⟩, ⟨.int .i64 4, .bool (c != 0), 1⟩, ⟨.int .i64 5, .bool (decide (c < 0)), 2⟩, ⟨.int .i64 6, .bool (decide (c ≤ 0)), 3⟩]) (rs := [(3, (c == 0)), (4, (c != 0)), (5, decide (c < 0)), (6, decide (c ≤ 0))]) rfl (.tmp 19) (.tmp 29) 7 rfl Tryz.underlying270 Tryz.underlying150 rfl HM4.out ⟨rfl, rfl, rfl, rfl, rfl, rfl, rfl, rfl, trivial⟩ rfl (.bool (decide (c > 0))) rfl ?_
       intro w6 hm hg
       have HM5 := Lib.hid hm
       have HG5 := Lib.hid (HG4.out.grown hg HG4.out.size (fun k hk => by cases hk; exact hge))
       clear hm hg HM4)
    | (refine wpList_insert_newI w6 (R := fun v (x : Bool) => v = .bool x) (m := w1.heap.size) (c := 5) (es := #[⟨.int .i64 3, .bool (c == 0), 0⟩, ⟨.int .i64 4, .bool (c != 0), 1⟩, ⟨.int .i64 5, .bool (decide (c < 0)), 2⟩, ⟨.int .i64 6, .bool (decide (c ≤ 0)), 3⟩, ⟨.int .i64 7, .bool (decide (c > 0)), 4⟩]) (rs := [(3, (c == 0)), (4, (c != 0)), (5, decide (c < 0)), (6, decide (c ≤ 0)), (7, decide (c > 0))]) rfl (.tmp 19) (.tmp 31) 8 rfl Tryz.underlying270 Tryz.underlying150 rfl HM5.out ⟨rfl, rfl, rfl, rfl, rfl, rfl, rfl, rfl, rfl, rfl, trivial⟩ rfl (.bool (decide (c ≥ 0))) rfl ?_
       intro w7 hm hg
       have HM6 := Lib.hid hm
       have HG6 := Lib.hid (HG5.out.grown hg HG5.out.size (fun k hk => by cases hk; exact hge))
       clear hm hg HM5)
    | (refine wpList_lookup_rowsI (R := fun v (x : Bool) => v = .bool x) (m := w1.heap.size) (rs := [(3, (c == 0)), (4, (c != 0)), (5, decide (c < 0)), (6, decide (c ≤ 0)), (7, decide (c > 0)), (8, decide (c ≥ 0))]) rfl (.tmp 32) (.tmp 33) false rfl Tryz.underlying270 Tryz.underlying150 HM6.out ⟨rfl, rfl, rfl, rfl, rfl, rfl, rfl, rfl, rfl, rfl, rfl, rfl, trivial⟩ (Tryz.zeroValue4 _) op rfl rfl (fun h0 => by rw [HX.out] at h0; cases h0) (fun v y hy hv => ?_)
       rw [HX.out] at hy
       cases hy
       subst hv))
  go_ret
  exact ⟨rfl, HG6.out⟩
end Go.Proofs.YtaadhehcoegmhaaGreatDoor
/- substring of finite numbers. -/
namespace Go.Proofs.YtaadhehcoegmhaaGreatDoor
open Go Go.RowKit

theorem builderAt_on {B b : Nat} {p : Value} {bs : List Value} {w w' : World} (h : Lib.BuilderAtF 191 5 B b p bs w) (hb : Below w.heap.size w w') : Lib.BuilderAtF 191 5 B b p bs w' :=
  ⟨h.1, by
    obtain ⟨v, hv, ho, hn⟩ := h.2
    refine ⟨v, (hb.block b h.lt).trans hv, ho.kept (row := none) ⟨hb.os, hb.tape, hb.output, hb.size, fun k hk _ => hb.block k hk⟩ ?_, hn⟩
    exact Classical.em _⟩
theorem builder_on {B b : Nat} {bs : List Value} {w w' : World} (h : Lib.IsBuilderF 191 5 B b bs w) (hb : Below w.heap.size w w') : Lib.IsBuilderF 191 5 B b bs w' := by
  rcases h with h | h
  · exact .inl (builderAt_on h hb)
  · exact .inr (builderAt_on h hb)

/-- A number rounded. -/
def rnd (v : Int) : Int := v + 500000 - (v + 500000) % 1000000

/-- Whether the character at k is within. -/
def within (f tt : Int) (k : Nat) : Bool := decide (cmpI (((k : Int) + 1) * 1000000) f ≥ 0) && decide (cmpI (((k : Int) + 1) * 1000000) tt < 0)

/-- The characters within of the first k. -/
def subTo (f tt : Int) (s : List UInt8) : Nat → List UInt8
  | 0 => []
  | k + 1 => subTo f tt s k ++ (if within f tt k then s[k]?.toList else [])

theorem subTo_length (f tt : Int) (s : List UInt8) (k : Nat) : (subTo f tt s k).length ≤ k := by
  induction k with
  | zero => simp [subTo]
  | succ k ih =>
    simp only [subTo, List.length_append]
    split
    · cases s[k]? <;> simp <;> omega
    · simp; omega

/-- What stands between two rounds. -/
structure SubRel (B b3 b4 : Nat) (w0 w : World) (t sl v13 : Value) (xs : List GV) (f tt : Int) (s : List UInt8) (k : Nat) : Prop where
  le : k ≤ s.length
  bld : Lib.IsBuilderF 191 5 B b4 (Lib.byteCells (subTo f tt s k)) w
  strs : Strs w v13 s
  box : w.heap[B]? = some (.cells #[t, sl] 88 (0, 0))
  from_ : w.heap[b3]? = some (.cells #[.int .i64 0, .int .i64 f] 29 (0, 0))
  bel : Below B w0 w
  has : Has sl xs w

theorem ceil_go (v : Int) (w : World) (h0 : 0 ≤ v) (h1 : v ≤ 100000000000) :
    Calls Tryz.prog 66 #[fin v] w fun e w' => e = .returned (fin (rnd v)) ∧ Below w.heap.size w w' := round_fin v w h0 h1

theorem two0 {w : World} {b : Nat} {x y : Value} {T : TypeId} {fz : Nat × Nat} (h : w.heap[b]? = some (.cells #[x, y] T fz)) : w.cell? ⟨b, 0, none⟩ = some x := Lib.cell_of_heap h 0
theorem two1 {w : World} {b : Nat} {x y : Value} {T : TypeId} {fz : Nat × Nat} (h : w.heap[b]? = some (.cells #[x, y] T fz)) : w.cell? ⟨b, 1, none⟩ = some y := Lib.cell_of_heap h 1

/-- A new block whose cells are stored at once. -/
theorem put_new (w : World) (zs cs : Array Value) (T : TypeId) : Below w.heap.size w ((w.alloc (.cells zs T)).setRow w.heap.size cs) ∧ ((w.alloc (.cells zs T)).setRow w.heap.size cs).heap[w.heap.size]? = some (.cells cs T (0, 0)) ∧ ((w.alloc (.cells zs T)).setRow w.heap.size cs).heap.size = w.heap.size + 1 :=
  ⟨below_setRow ((Below.refl _ _).alloc (Nat.le_refl _) _) (Nat.le_refl _), setRow_heap _ _ zs cs T (0, 0) (heap_alloc_new w _), by simp [World.setRow]⟩

/-- Six cells and the arguments are held. -/
theorem held6 {sl : Value} {xs : List GV} {w0 w1 w2 : World} {a1 a2 a3 a4 a5 a6 : Addr} {v1 v2 v3 v4 v5 v6 : Value} (hb : Below w1.heap.size w1 w2)
    (h : w1.cell? a1 = some v1 ∧ w1.cell? a2 = some v2 ∧ w1.cell? a3 = some v3 ∧ w1.cell? a4 = some v4 ∧ w1.cell? a5 = some v5 ∧ w1.cell? a6 = some v6 ∧ Has sl xs w1 ∧ Below w0.heap.size w0 w1) :
    w2.cell? a1 = some v1 ∧ w2.cell? a2 = some v2 ∧ w2.cell? a3 = some v3 ∧ w2.cell? a4 = some v4 ∧ w2.cell? a5 = some v5 ∧ w2.cell? a6 = some v6 ∧ Has sl xs w2 ∧ Below w0.heap.size w0 w2 := by
  obtain ⟨h1, h2, h3, h4, h5, h6, h7, h8⟩ := h
  exact ⟨(hb.cell (World.block_lt_of_cell? w1 _ h1)).trans h1, (hb.cell (World.block_lt_of_cell? w1 _ h2)).trans h2, (hb.cell (World.block_lt_of_cell? w1 _ h3)).trans h3,
    (hb.cell (World.block_lt_of_cell? w1 _ h4)).trans h4, (hb.cell (World.block_lt_of_cell? w1 _ h5)).trans h5, (hb.cell (World.block_lt_of_cell? w1 _ h6)).trans h6, h7.below hb, below_then h8 h8.size hb⟩

theorem SubRel.on {B b3 b4 : Nat} {w0 w w' : World} {t sl v13 : Value} {xs : List GV} {f tt : Int} {s : List UInt8} {k : Nat} (h : SubRel B b3 b4 w0 w t sl v13 xs f tt s k) (hb : Below w.heap.size w w') (hB : B ≤ w.heap.size) :
    SubRel B b3 b4 w0 w' t sl v13 xs f tt s k :=
  ⟨h.le, builder_on h.bld hb, h.strs.below hb, (hb.block _ (Array.getElem?_eq_some_iff.1 h.box).1).trans h.box, (hb.block _ (Array.getElem?_eq_some_iff.1 h.from_).1).trans h.from_, below_then h.bel hB hb, h.has.below hb⟩

theorem SubRel.next {B b3 b4 : Nat} {w0 w : World} {t sl v13 : Value} {xs : List GV} {f tt : Int} {s : List UInt8} {k : Nat} (h : SubRel B b3 b4 w0 w t sl v13 xs f tt s k) (hk : k + 1 ≤ s.length)
    (hb : Lib.IsBuilderF 191 5 B b4 (Lib.byteCells (subTo f tt s (k + 1))) w) : SubRel B b3 b4 w0 w t sl v13 xs f tt s (k + 1) :=
  ⟨hk, hb, h.strs, h.box, h.from_, h.bel, h.has⟩

theorem others_two {w w' : World} {B b g : Nat} {bs : List Value} {x y : Value} {T : TypeId} {fz : Nat × Nat} (hT : T ≠ 5) (hT' : T ≠ 191) (h : w.heap[g]? = some (.cells #[x, y] T fz)) (hb : Lib.IsBuilderF 191 5 B b bs w) (ho : Lib.OthersKept 5 (some b) w w') :
    w'.heap[g]? = some (.cells #[x, y] T fz) := by
  refine ho g _ h ?_ ?_
  · intro e
    have e' : g = b := by simpa using e
    subst e'
    rcases hb with ⟨_, v, hv, _⟩ | ⟨_, v, hv, _⟩ <;> rw [hv] at h <;> simp at h <;> exact hT' h.2.1.symm
  · intro c fz' e
    simp at e
    exact hT e.2.1

set_option linter.unusedSimpArgs false in
set_option maxRecDepth 100000 in
set_option maxHeartbeats 4000000 in
theorem substring_any (t : Option Addr) (A : Option Addr) (cap : Nat) (s : List UInt8) (a b : Int) (w : World) (hs : ascii s) (ha : 0 ≤ a) (ha1 : a ≤ 1000000000) (hb0 : 0 ≤ b) (hb1 : b ≤ 1000000000)
    (h : Has (.slice A 3 cap) [.text ⟨s.toArray⟩, .num 0 a, .num 0 b] w) :
    Calls Tryz.prog 90 #[.agg #[.pointer t, .slice A 3 cap]] w fun e w' => e = .returned (.string ⟨(subTo (rnd a) (rnd a + rnd b) s s.length).toArray⟩) ∧ Below w.heap.size w w' := by
  have hr : ∀ v : Int, 0 ≤ v → v ≤ 1000000000 → 0 ≤ rnd v ∧ rnd v ≤ 10000000000 := fun v h0 h1 => by unfold rnd; omega
  obtain ⟨r, hrE⟩ : ∃ r, r = rnd a := ⟨_, rfl⟩
  obtain ⟨q, hqE⟩ : ∃ q, q = rnd b := ⟨_, rfl⟩
  have hr1 := hr a ha ha1
  have hq1 := hr b hb0 hb1
  have hRa : ∀ w : World, Calls Tryz.prog 66 #[fin a] w fun e w' => e = .returned (fin r) ∧ Below w.heap.size w w' := fun w => hrE ▸ round_fin a w ha (by omega)
  have hRb : ∀ w : World, Calls Tryz.prog 66 #[fin b] w fun e w' => e = .returned (fin q) ∧ Below w.heap.size w w' := fun w => hqE ▸ round_fin b w hb0 (by omega)
  rw [← hrE, ← hqE]
  rw [← hrE] at hr1
  rw [← hqE] at hq1
  clear hr hrE hqE
  go_enter Tryz.func90, Tryz.ntmps90
  go_wp2_with fail
  refine Calls.mono (num_any _ _ [.text ⟨s.toArray⟩, .num 0 a, .num 0 b] 1 0 a _ (h.alloc _).1 rfl) ?_
  rintro e w1 ⟨rfl, hb1⟩
  dsimp only
  go_wp2_with fail
  refine Calls.mono (hRa _) ?_
  rintro e w2 ⟨rfl, hb2⟩
  dsimp only
  have hg := heap_alloc_new w2 (.cells #[.int .i64 0, .int .i64 0] 29)
  have hz1 := hb1.size
  have hz2 := hb2.size
  simp at hz1
  have hbox2 : w2.heap[w.heap.size]? = some (.cells #[.pointer t, .slice A 3 cap] 88 (0, 0)) := (hb2.block _ (by omega)).trans ((hb1.block _ (by simp)).trans (heap_alloc_new w _))
  have hbel2 : Below w.heap.size w w2 := below_then (below_then ((Below.refl _ _).alloc (Nat.le_refl _) _) (by simp) hb1) (by omega) hb2
  obtain ⟨hp1, hp2, hp3⟩ := put_new w2 #[.int .i64 0, .int .i64 0] #[.int .i64 0, .int .i64 r] 29
  have hbox3 := (hp1.block _ (by omega)).trans hbox2
  have hbel3 := below_then hbel2 (by omega) hp1
  have hd0 := cell_alloc (two0 hbox3) (.cells #[.pointer none, .slice none 0 0] 191)
  have hd1 := cell_alloc (two1 hbox3) (.cells #[.pointer none, .slice none 0 0] 191)
  go_wp2_with (refine wpList_store_row rfl 29 (.tmp 3) (.tmp 10) rfl (w2.heap.size) #[.int .i64 0, .int .i64 r] rfl rfl 29 _ hg (by kernel_rfl) rfl (by simp [Value.oneCell']) ?_)
  have hbel4 := hbel3.alloc (by omega) (.cells #[.pointer none, .slice none 0 0] 191)
  refine Calls.mono (Has.str (xs := [.text ⟨s.toArray⟩, .num 0 a, .num 0 b]) _ 0 _ rfl (h.below hbel4)) ?_
  rintro e w5 ⟨rfl, hb5⟩
  dsimp only
  go_wp2_with fail
  refine Calls.mono (chars_strs s hs.1 hs.2 _) ?_
  rintro e w6 ⟨A6, cap6, rfl, hst, hb6⟩
  dsimp only
  have hz5 := hb5.size
  have hz6 := hb6.size
  simp [hp3] at hz5
  have hb46 := below_then hb5 (by simp [hp3]; omega) hb6
  have hbox6 := (hb46.block w.heap.size (by simp [hp3]; omega)).trans ((Below.heap_alloc _ _ _ (by simp [hp3]; omega)).trans hbox3)
  have hfrom6 := (hb46.block w2.heap.size (by simp [hp3]; omega)).trans ((Below.heap_alloc _ _ _ (by simp [hp3])).trans hp2)
  have hbld6 := (hb46.block (w2.heap.size + 1) (by simp [hp3])).trans ((congrArg _ hp3.symm).trans (heap_alloc_new _ _))
  have hbel6 := below_then hbel4 (by simp [hp3]; omega) hb46
  have hrel0 : SubRel w.heap.size w2.heap.size (w2.heap.size + 1) w w6 (.pointer t) (.slice A 3 cap) (.slice A6 s.length cap6) [.text ⟨s.toArray⟩, .num 0 a, .num 0 b] r (r + q) s 0 :=
    ⟨by omega, by simpa [Lib.byteCells, subTo] using builder_new (by omega) hbld6, hst, hbox6, hfrom6, hbel6, h.below hbel6⟩
  clear hb46 hbox6 hfrom6 hbld6 hbel6 hst hd0 hd1 hbel4 hb5 hb6 hp1 hp2 hp3 hbox3 hbel3 hbox2 hbel2 hg
  have hh0 := h
  clear h
  have hlen := hs.2
  go_wp2_with fail
  go_loopw [15] (fun v wr => ∃ k : Nat, v = .int .i64 k ∧ SubRel w.heap.size w2.heap.size (w2.heap.size + 1) w wr (.pointer t) (.slice A 3 cap) (.slice A6 s.length cap6) [.text ⟨s.toArray⟩, .num 0 a, .num 0 b] r (r + q) s k)
    (fun i _ => s.length - (intOf i).toNat)
  case atStart => exact ⟨0, rfl, hrel0⟩
  case round =>
    obtain ⟨k, rfl, hR⟩ := hrel
    clear hrel0
    have hk := hR.le
    by_cases hlt : k < s.length
    · obtain ⟨c, hc⟩ : ∃ c, s[k]? = some c := ⟨s[k], by simp [hlt]⟩
      obtain ⟨g, rfl, hcell⟩ := Strs.cell hR.strs hc
      have HC := Lib.hid hc
      clear hc
      go_wp2_with fail
      refine Calls.mono (int_any ((k : Int) + 1) _ (by omega) (by omega)) ?_
      rintro e w7 ⟨rfl, hb7⟩
      dsimp only
      have hR7 := hR.on hb7 hR.bel.size
      clear hb7 hcell
      obtain ⟨at_, hat⟩ : ∃ x, x = ((k : Int) + 1) * 1000000 := ⟨_, rfl⟩
      rw [← hat]
      obtain ⟨x, hx⟩ : ∃ x, x = decide (cmpI at_ r ≥ 0) := ⟨_, rfl⟩
      obtain ⟨y, hy⟩ : ∃ y, y = decide (cmpI at_ (r + q) < 0) := ⟨_, rfl⟩
      have hH1 : ∀ w : World, Calls Tryz.prog 137 #[.int .i64 8, fin at_, fin r] w fun e w' => e = .returned (.bool x) ∧ Below w.heap.size w w' := fun w => holds_fin 8 at_ r x (by rw [hx]; rfl) w
      have hH2 : ∀ w : World, Calls Tryz.prog 137 #[.int .i64 5, fin at_, fin (r + q)] w fun e w' => e = .returned (.bool y) ∧ Below w.heap.size w w' := fun w => holds_fin 5 at_ (r + q) y (by rw [hy]; rfl) w
      have hwi : within r (r + q) k = (x && y) := by rw [hx, hy, hat]; rfl
      have HWI := Lib.hid hwi
      clear hx hy hat hwi
      have hg := heap_alloc_new w7 (.cells #[.int .i64 0, .int .i64 0] 29)
      obtain ⟨hp1, hp2, hp3⟩ := put_new w7 #[.int .i64 0, .int .i64 0] #[.int .i64 0, .int .i64 at_] 29
      have hz7 := hR7.bel.size
      have hR8 := hR7.on hp1 hz7
      have hS0 := held6 (w0 := (w7.alloc (.cells #[.int .i64 0, .int .i64 0] 29)).setRow w7.heap.size #[.int .i64 0, .int .i64 at_]) ((Below.refl _ _).drew) ⟨two0 hp2, two1 hp2, two0 hR8.from_, two1 hR8.from_, two0 hR8.box, two1 hR8.box, hR8.has, Below.refl _ _⟩
      go_wp2_with (refine wpList_store_row rfl 29 (.tmp 7) (.tmp 22) rfl (w7.heap.size) #[.int .i64 0, .int .i64 at_] rfl rfl 29 _ hg (by kernel_rfl) rfl (by simp [Value.oneCell']) ?_)
      cases x
      · refine wp_region_held_drew (S := (fun w' => w'.cell? ⟨w7.heap.size, 0, none⟩ = some (.int .i64 0) ∧ w'.cell? ⟨w7.heap.size, 1, none⟩ = some (.int .i64 at_) ∧ w'.cell? ⟨w2.heap.size, 0, none⟩ = some (.int .i64 0) ∧ w'.cell? ⟨w2.heap.size, 1, none⟩ = some (.int .i64 r) ∧
            w'.cell? ⟨w.heap.size, 0, none⟩ = some (.pointer t) ∧ w'.cell? ⟨w.heap.size, 1, none⟩ = some (.slice A 3 cap) ∧ Has (.slice A 3 cap) [.text ⟨s.toArray⟩, .num 0 a, .num 0 b] w' ∧ Below ((w7.alloc (.cells #[.int .i64 0, .int .i64 0] 29)).setRow w7.heap.size #[.int .i64 0, .int .i64 at_]).heap.size ((w7.alloc (.cells #[.int .i64 0, .int .i64 0] 29)).setRow w7.heap.size #[.int .i64 0, .int .i64 at_]) w')) (by kernel_rfl) hS0 (fun hSd => ?_)
        refine wpAnyH_take (i := 0) (oi := ⟨some 23, _, _, _, _, _⟩) (v := fin at_) rfl (by kernel_rfl) (by kernel_rfl) (by kernel_rfl) (fun _ _ _ h => h) (Or.inl ⟨by rfl, fun w hw => by obtain ⟨g1, g2, g3, g4, g5, g6, g7, g8⟩ := hw; go_simp⟩) (by assumption) ?_
        try simp only [Act.put, List.setIfInBounds_toArray, List.set_cons_zero, List.set_cons_succ]
        refine wpAnyH_take (i := 1) (oi := ⟨some 24, _, _, _, _, _⟩) (v := fin r) rfl (by kernel_rfl) (by kernel_rfl) (by kernel_rfl) (fun _ _ _ h => h) (Or.inl ⟨by rfl, fun w hw => by obtain ⟨g1, g2, g3, g4, g5, g6, g7, g8⟩ := hw; go_simp⟩) (by assumption) ?_
        try simp only [Act.put, List.setIfInBounds_toArray, List.set_cons_zero, List.set_cons_succ]
        refine wpAnyH_ready (rs := [2]) (by kernel_rfl) (by simp) ?_
        refine AllReadyH.cons (o := ⟨some 25, _, _, _, _, _⟩) rfl (fun K hK => ?_) AllReadyH.nil
        go_simp
        refine Calls.mono (hH1 _) ?_
        rintro e w8 ⟨rfl, hb8⟩
        dsimp only
        refine hK.out _ _ (held6 hb8 hSd) (fun hHeld => ?_)
        clear hK K
        try simp only [Act.put, List.setIfInBounds_toArray, List.set_cons_zero, List.set_cons_succ]
        refine wpAnyH_take (i := 3) (oi := ⟨some 26, _, _, _, _, _⟩) (v := .bool false) rfl (by kernel_rfl) (by kernel_rfl) (by kernel_rfl) (fun _ _ _ h => h) (Or.inl ⟨by rfl, fun w hw => by go_simp⟩) (by assumption) ?_
        try simp only [Act.put, List.setIfInBounds_toArray, List.set_cons_zero, List.set_cons_succ]
        refine wpAnyH_take (i := 4) (oi := ⟨some 27, _, _, _, _, _⟩) (v := undef) rfl (by kernel_rfl) (by kernel_rfl) (by kernel_rfl) (fun _ _ _ h => h) (Or.inr ⟨by kernel_rfl, rfl⟩) (by assumption) ?_
        try simp only [Act.put, List.setIfInBounds_toArray, List.set_cons_zero, List.set_cons_succ]
        refine wpAnyH_take (i := 5) (oi := ⟨some 28, _, _, _, _, _⟩) (v := undef) rfl (by kernel_rfl) (by kernel_rfl) (by kernel_rfl) (fun _ _ _ h => h) (Or.inr ⟨by kernel_rfl, rfl⟩) (by assumption) ?_
        try simp only [Act.put, List.setIfInBounds_toArray, List.set_cons_zero, List.set_cons_succ]
        refine wpAnyH_take (i := 6) (oi := ⟨some 29, _, _, _, _, _⟩) (v := undef) rfl (by kernel_rfl) (by kernel_rfl) (by kernel_rfl) (fun _ _ _ h => h) (Or.inr ⟨by kernel_rfl, rfl⟩) (by assumption) ?_
        try simp only [Act.put, List.setIfInBounds_toArray, List.set_cons_zero, List.set_cons_succ]
        refine wpAnyH_take (i := 7) (oi := ⟨some 30, _, _, _, _, _⟩) (v := undef) rfl (by kernel_rfl) (by kernel_rfl) (by kernel_rfl) (fun _ _ _ h => h) (Or.inr ⟨by kernel_rfl, rfl⟩) (by assumption) ?_
        try simp only [Act.put, List.setIfInBounds_toArray, List.set_cons_zero, List.set_cons_succ]
        refine wpAnyH_take (i := 8) (oi := ⟨some 31, _, _, _, _, _⟩) (v := undef) rfl (by kernel_rfl) (by kernel_rfl) (by kernel_rfl) (fun _ _ _ h => h) (Or.inr ⟨by kernel_rfl, rfl⟩) (by assumption) ?_
        try simp only [Act.put, List.setIfInBounds_toArray, List.set_cons_zero, List.set_cons_succ]
        refine wpAnyH_take (i := 9) (oi := ⟨some 32, _, _, _, _, _⟩) (v := undef) rfl (by kernel_rfl) (by kernel_rfl) (by kernel_rfl) (fun _ _ _ h => h) (Or.inr ⟨by kernel_rfl, rfl⟩) (by assumption) ?_
        try simp only [Act.put, List.setIfInBounds_toArray, List.set_cons_zero, List.set_cons_succ]
        refine wpAnyH_take (i := 10) (oi := ⟨some 33, _, _, _, _, _⟩) (v := undef) rfl (by kernel_rfl) (by kernel_rfl) (by kernel_rfl) (fun _ _ _ h => h) (Or.inr ⟨by kernel_rfl, rfl⟩) (by assumption) ?_
        try simp only [Act.put, List.setIfInBounds_toArray, List.set_cons_zero, List.set_cons_succ]
        refine wpAnyH_take (i := 11) (oi := ⟨some 34, _, _, _, _, _⟩) (v := undef) rfl (by kernel_rfl) (by kernel_rfl) (by kernel_rfl) (fun _ _ _ h => h) (Or.inr ⟨by kernel_rfl, rfl⟩) (by assumption) ?_
        try simp only [Act.put, List.setIfInBounds_toArray, List.set_cons_zero, List.set_cons_succ]
        refine wpAnyH_take (i := 12) (oi := ⟨some 35, _, _, _, _, _⟩) (v := undef) rfl (by kernel_rfl) (by kernel_rfl) (by kernel_rfl) (fun _ _ _ h => h) (Or.inr ⟨by kernel_rfl, rfl⟩) (by assumption) ?_
        try simp only [Act.put, List.setIfInBounds_toArray, List.set_cons_zero, List.set_cons_succ]
        refine wpAnyH_take (i := 13) (oi := ⟨some 36, _, _, _, _, _⟩) (v := undef) rfl (by kernel_rfl) (by kernel_rfl) (by kernel_rfl) (fun _ _ _ h => h) (Or.inr ⟨by kernel_rfl, rfl⟩) (by assumption) ?_
        try simp only [Act.put, List.setIfInBounds_toArray, List.set_cons_zero, List.set_cons_succ]
        refine wpAnyH_take (i := 14) (oi := ⟨some 37, _, _, _, _, _⟩) (v := undef) rfl (by kernel_rfl) (by kernel_rfl) (by kernel_rfl) (fun _ _ _ h => h) (Or.inr ⟨by kernel_rfl, rfl⟩) (by assumption) ?_
        try simp only [Act.put, List.setIfInBounds_toArray, List.set_cons_zero, List.set_cons_succ]
        refine wpAnyH_take (i := 15) (oi := ⟨some 38, _, _, _, _, _⟩) (v := undef) rfl (by kernel_rfl) (by kernel_rfl) (by kernel_rfl) (fun _ _ _ h => h) (Or.inr ⟨by kernel_rfl, rfl⟩) (by assumption) ?_
        try simp only [Act.put, List.setIfInBounds_toArray, List.set_cons_zero, List.set_cons_succ]
        refine wpAnyH_take (i := 16) (oi := ⟨some 39, _, _, _, _, _⟩) (v := undef) rfl (by kernel_rfl) (by kernel_rfl) (by kernel_rfl) (fun _ _ _ h => h) (Or.inr ⟨by kernel_rfl, rfl⟩) (by assumption) ?_
        try simp only [Act.put, List.setIfInBounds_toArray, List.set_cons_zero, List.set_cons_succ]
        refine wpAnyH_take (i := 17) (oi := ⟨some 40, _, _, _, _, _⟩) (v := .bool false) rfl (by kernel_rfl) (by kernel_rfl) (by kernel_rfl) (fun _ _ _ h => h) (Or.inl ⟨by rfl, fun w hw => by go_simp⟩) (by assumption) ?_
        try simp only [Act.put, List.setIfInBounds_toArray, List.set_cons_zero, List.set_cons_succ]
        refine wpAnyH_done (by kernel_rfl) ?_ _
        have hR9 := hR8.on hHeld.2.2.2.2.2.2.2 (by omega)
        go_wp2_with fail
        go_roundw
        case rel => exact ⟨k + 1, by go_num, hR9.next (by omega) (by simpa [subTo, HWI.out] using hR9.bld)⟩
        case measure => simp [intOf]; omega
      · go_region_held3 (fun w' => w'.cell? ⟨w7.heap.size, 0, none⟩ = some (.int .i64 0) ∧ w'.cell? ⟨w7.heap.size, 1, none⟩ = some (.int .i64 at_) ∧ w'.cell? ⟨w2.heap.size, 0, none⟩ = some (.int .i64 0) ∧ w'.cell? ⟨w2.heap.size, 1, none⟩ = some (.int .i64 r) ∧
            w'.cell? ⟨w.heap.size, 0, none⟩ = some (.pointer t) ∧ w'.cell? ⟨w.heap.size, 1, none⟩ = some (.slice A 3 cap) ∧ Has (.slice A 3 cap) [.text ⟨s.toArray⟩, .num 0 a, .num 0 b] w' ∧ Below ((w7.alloc (.cells #[.int .i64 0, .int .i64 0] 29)).setRow w7.heap.size #[.int .i64 0, .int .i64 at_]).heap.size ((w7.alloc (.cells #[.int .i64 0, .int .i64 0] 29)).setRow w7.heap.size #[.int .i64 0, .int .i64 at_]) w')
          (first | exact hS0 | exact held6 ‹_› ‹_›)
          (first
            | (go_at_call_of 137 (Value.int IntKind.i64 8); refine Calls.mono (hH1 _) ?_; rintro e w8 ⟨rfl, hb8⟩)
            | (go_at_call 60; refine Calls.mono (num_any _ _ [.text ⟨s.toArray⟩, .num 0 a, .num 0 b] 2 0 b _ ?_ rfl) ?_; exact (‹_ ∧ _ ∧ _ ∧ _ ∧ _ ∧ _ ∧ Has _ _ _ ∧ _›).2.2.2.2.2.2.1.1; rintro e w9 ⟨rfl, hb9⟩)
            | (go_at_call 66; refine Calls.mono (hRb _) ?_; rintro e w10 ⟨rfl, hb10⟩)
            | (go_at_call 118; refine Calls.mono (add_fin r q _ hr1.1 hr1.2 hq1.1 hq1.2) ?_; rintro e w11 ⟨rfl, hb11⟩)
            | (go_at_call_of 137 (Value.int IntKind.i64 5); refine Calls.mono (hH2 _) ?_; rintro e w12 ⟨rfl, hb12⟩))
        rename_i hLast
        have hR9 := hR8.on hLast.2.2.2.2.2.2.2 (by omega)
        cases y
        · go_wp2_with fail
          go_roundw
          case rel => exact ⟨k + 1, by go_num, hR9.next (by omega) (by simpa [subTo, HWI.out] using hR9.bld)⟩
          case measure => simp [intOf]; omega
        · go_wp2_with fail
          have hl := subTo_length r (r + q) s k
          refine Calls.mono (writeString_k _ _ _ ⟨#[c]⟩ _ hR9.bld (by simp [Lib.byteCells_length, ByteArray.size]; omega) (by have := hR9.bel.size; omega)) ?_
          rintro e w13 ⟨rfl, hbld13, hb13, ho13⟩
          dsimp only
          have hbx := others_two (T := 88) (by decide) (by decide) hR9.box hR9.bld ho13
          have hfx := others_two (T := 29) (by decide) (by decide) hR9.from_ hR9.bld ho13
          have hsx := hR9.strs.others hR9.bld ho13
          have hbe := hR9.bel.trans hb13
          have hha := hh0.below hbe
          clear hR9 hR8 hR7 hR hb13 ho13 hH1 hH2 hRa hRb hh0
          go_wp2_with fail
          go_roundw
          case rel => exact ⟨k + 1, by go_num, ⟨by omega, by simpa [subTo, HWI.out, HC.out, Lib.byteCells_append, Lib.strCells_eq] using hbld13, hsx, hbx, hfx, hbe, hha⟩⟩
          case measure => simp [intOf]; omega
    · obtain rfl : k = s.length := by omega
      go_wp2_with fail
      refine Calls.mono (Tryz.Builder_String_any_k _ _ _ _ hR.bld (by have := hR.bel.size; omega)) ?_
      rintro e w7 ⟨rfl, _, hb7, _⟩
      dsimp only
      go_wp2_with fail
      go_ret
      exact ⟨rfl, hR.bel.trans hb7⟩
end Go.Proofs.YtaadhehcoegmhaaGreatDoor
/- xvalue.Call at functions of texts, of truths, of numbers. -/
namespace Go.Proofs.YtaadhehcoegmhaaGreatDoor
open Go Go.RowKit

/-- A call of g goes into g's body. -/
def Enters (g : Nat) : Prop := ∀ args w, (callFunc g args).run Tryz.prog w = .ok (.enter g args) w

theorem enters_of {g : Nat} {fn : Func} {c : Code} (hf : Tryz.prog.funcs[g]? = some fn) (hname : (fn.name == "runtime.NumGoroutine") = false) (hb : fn.body = some c) : Enters g := by
  intro args w
  have h1 : fn.name ≠ "runtime.NumGoroutine" := by simpa using hname
  simp [callFunc, hf, h1, hb]

theorem enters113 : Enters 113 := enters_of Tryz.func113 (by kernel_rfl) rfl
theorem enters115 : Enters 115 := enters_of Tryz.func115 (by kernel_rfl) rfl
theorem enters124 : Enters 124 := enters_of Tryz.func124 (by kernel_rfl) rfl

theorem GV.cells_length (x : GV) : x.cells.length = 6 := by cases x <;> rfl

theorem flat6 : ∀ (xs : List GV) (i : Nat) (x : GV) (j : Nat) (c : Value), xs[i]? = some x → x.cells[j]? = some c → (xs.flatMap GV.cells)[i * 6 + j]? = some c
  | [], i, x, j, c, h, _ => by simp at h
  | y :: ys, 0, x, j, c, h, hc => by
    have hj : j < 6 := by have := (List.getElem?_eq_some_iff.1 hc).1; rw [GV.cells_length] at this; exact this
    simp at h
    subst h
    rw [List.flatMap_cons, Nat.zero_mul, Nat.zero_add, List.getElem?_append_left (by rw [GV.cells_length]; exact hj)]
    exact hc
  | y :: ys, i + 1, x, j, c, h, hc => by
    rw [List.flatMap_cons, List.getElem?_append_right (by rw [GV.cells_length]; omega), GV.cells_length]
    have := flat6 ys i x j c (by simpa using h) hc
    rwa [show (i + 1) * 6 + j - 6 = i * 6 + j by omega]

/-- A block of values is a row of arguments. -/
theorem args_new {w : World} {b cap : Nat} {cs : Array Value} {T : TypeId} {fz : Nat × Nat} (xs : List GV) (h : w.heap[b]? = some (.cells cs T fz)) (hcs : cs.toList = xs.flatMap GV.cells) (hl : xs.length ≤ 1000) :
    ArgsAt w (.slice (some ⟨b, 0, none⟩) xs.length cap) xs := by
  refine ⟨b, cap, rfl, hl, fun i x hx j c hc => ?_⟩
  rw [Lib.cell_of_heap h, ← Array.getElem?_toList, hcs]
  exact flat6 xs i x j c hx hc

theorem call_text (k : ByteArray) (l m : Int) (f : Nat) (hrow : rowAt k fnTable = some (.plain l m false 124 f)) (t A : Option Addr) (n cap : Nat) (xs : List GV) (s : ByteArray) (w : World) (hl : 1 ≤ l) (hln : l ≤ n) (hnm : (n : Int) ≤ m)
    (hen : Enters f) (hh : Has (.slice A n cap) xs w) (hle : s.size ≤ 32768)
    (hin : ∀ w', Has (.slice A n cap) xs w' → Calls Tryz.prog f #[.agg #[.pointer t, .slice A n cap]] w' fun e w2 => e = .returned (.string s) ∧ Below w'.heap.size w' w2) :
    Calls Tryz.prog 13 #[.pointer t, .string k, .slice A n cap] w fun e w' => e = .returned (.tuple #[vText s, .int .i64 0]) ∧ Below w.heap.size w w' :=
  call_plain k l m 124 f hrow t A n cap _ 0 w hl hln hnm enters124 (by kernel_rfl) (by simp [Value.oneCell']) fun w1 b hb hc =>
    text1_any f b _ _ s hle w1 hen hc fun w2 hb2 => hin w2 ((hh.below hb).below hb2)

theorem call_text_long (k : ByteArray) (l m : Int) (f : Nat) (hrow : rowAt k fnTable = some (.plain l m false 124 f)) (t A : Option Addr) (n cap : Nat) (xs : List GV) (s : ByteArray) (w : World) (hl : 1 ≤ l) (hln : l ≤ n) (hnm : (n : Int) ≤ m)
    (hen : Enters f) (hh : Has (.slice A n cap) xs w) (hle : 32768 < s.size) (hs : s.size ≤ 9223372036854775807)
    (hin : ∀ w', Has (.slice A n cap) xs w' → Calls Tryz.prog f #[.agg #[.pointer t, .slice A n cap]] w' fun e w2 => e = .returned (.string s) ∧ Below w'.heap.size w' w2) :
    Calls Tryz.prog 13 #[.pointer t, .string k, .slice A n cap] w fun e w' => e = .returned (.tuple #[vZero, .int .i64 6]) ∧ Below w.heap.size w w' :=
  call_plain k l m 124 f hrow t A n cap _ 6 w hl hln hnm enters124 (by kernel_rfl) (by simp [Value.oneCell']) fun w1 b hb hc =>
    text1_long f b _ _ s hle hs w1 hen hc fun w2 hb2 => hin w2 ((hh.below hb).below hb2)

theorem call_truth (k : ByteArray) (l m : Int) (f : Nat) (hrow : rowAt k fnTable = some (.plain l m false 113 f)) (t A : Option Addr) (n cap : Nat) (xs : List GV) (x : Bool) (w : World) (hl : 1 ≤ l) (hln : l ≤ n) (hnm : (n : Int) ≤ m)
    (hen : Enters f) (hh : Has (.slice A n cap) xs w)
    (hin : ∀ w', Has (.slice A n cap) xs w' → Calls Tryz.prog f #[.agg #[.pointer t, .slice A n cap]] w' fun e w2 => e = .returned (.bool x) ∧ Below w'.heap.size w' w2) :
    Calls Tryz.prog 13 #[.pointer t, .string k, .slice A n cap] w fun e w' => e = .returned (.tuple #[vBool x, .int .i64 0]) ∧ Below w.heap.size w w' :=
  call_plain k l m 113 f hrow t A n cap _ 0 w hl hln hnm enters113 (by kernel_rfl) (by simp [Value.oneCell']) fun w1 b hb hc =>
    truth1_any f b _ _ x w1 hen hc fun w2 hb2 => hin w2 ((hh.below hb).below hb2)

theorem enters84 : Enters 84 := enters_of Tryz.func84 (by kernel_rfl) rfl
theorem enters82 : Enters 82 := enters_of Tryz.func82 (by kernel_rfl) rfl
theorem enters86 : Enters 86 := enters_of Tryz.func86 (by kernel_rfl) rfl
theorem enters88 : Enters 88 := enters_of Tryz.func88 (by kernel_rfl) rfl
theorem enters89 : Enters 89 := enters_of Tryz.func89 (by kernel_rfl) rfl
theorem enters90 : Enters 90 := enters_of Tryz.func90 (by kernel_rfl) rfl

theorem call_contains (A : Option Addr) (cap : Nat) (s u : ByteArray) (w : World) (h : Has (.slice A 2 cap) [.text s, .text u] w) (hs : s.size < 4294967281) :
    Calls Tryz.prog 13 #[.pointer none, .string ⟨#[99, 111, 110, 116, 97, 105, 110, 115]⟩, .slice A 2 cap] w fun e w' => e = .returned (.tuple #[vBool (Lib.contains s.data.toList u.data.toList), .int .i64 0]) ∧ Below w.heap.size w w' :=
  call_truth _ 2 2 84 (by rfl) none A 2 cap _ _ w (by decide) (by decide) (by decide) enters84 h fun w' hw => contains_any none A 2 cap s u w' hw hs

theorem call_before (A : Option Addr) (cap : Nat) (s u : ByteArray) (w : World) (h : Has (.slice A 2 cap) [.text s, .text u] w) (hs : s.size < 4294967281) (hle : (cutOf s u false).size ≤ 32768) :
    Calls Tryz.prog 13 #[.pointer none, .string ⟨#[115, 117, 98, 115, 116, 114, 105, 110, 103, 45, 98, 101, 102, 111, 114, 101]⟩, .slice A 2 cap] w fun e w' => e = .returned (.tuple #[vText (cutOf s u false), .int .i64 0]) ∧ Below w.heap.size w w' :=
  call_text _ 2 2 86 (by rfl) none A 2 cap _ _ w (by decide) (by decide) (by decide) enters86 h hle fun w' hw => before_any none A 2 cap s u w' hw hs

theorem call_after (A : Option Addr) (cap : Nat) (s u : ByteArray) (w : World) (h : Has (.slice A 2 cap) [.text s, .text u] w) (hs : s.size < 4294967281) (hle : (cutOf s u true).size ≤ 32768) :
    Calls Tryz.prog 13 #[.pointer none, .string ⟨#[115, 117, 98, 115, 116, 114, 105, 110, 103, 45, 97, 102, 116, 101, 114]⟩, .slice A 2 cap] w fun e w' => e = .returned (.tuple #[vText (cutOf s u true), .int .i64 0]) ∧ Below w.heap.size w w' :=
  call_text _ 2 2 88 (by rfl) none A 2 cap _ _ w (by decide) (by decide) (by decide) enters88 h hle fun w' hw => after_any none A 2 cap s u w' hw hs

theorem call_translate (A : Option Addr) (cap : Nat) (s fr tt : List UInt8) (w : World) (h : Has (.slice A 3 cap) [.text ⟨s.toArray⟩, .text ⟨fr.toArray⟩, .text ⟨tt.toArray⟩] w) (hs : ascii s) (hf : ascii fr) (ht : ascii tt) (hle : s.length ≤ 32768) :
    Calls Tryz.prog 13 #[.pointer none, .string ⟨#[116, 114, 97, 110, 115, 108, 97, 116, 101]⟩, .slice A 3 cap] w fun e w' => e = .returned (.tuple #[vText ⟨(s.flatMap (trc fr tt)).toArray⟩, .int .i64 0]) ∧ Below w.heap.size w w' :=
  call_text _ 3 3 89 (by rfl) none A 3 cap _ _ w (by decide) (by decide) (by decide) enters89 h (Nat.le_trans (tr_length fr tt s) hle) fun w' hw => translate_any none A 3 cap s fr tt w' hs hf ht hw

theorem call_substring (A : Option Addr) (cap : Nat) (s : List UInt8) (a b : Int) (w : World) (h : Has (.slice A 3 cap) [.text ⟨s.toArray⟩, .num 0 a, .num 0 b] w) (hs : ascii s) (hle : s.length ≤ 32768) (ha : 0 ≤ a) (ha1 : a ≤ 1000000000) (hb0 : 0 ≤ b) (hb1 : b ≤ 1000000000) :
    Calls Tryz.prog 13 #[.pointer none, .string ⟨#[115, 117, 98, 115, 116, 114, 105, 110, 103]⟩, .slice A 3 cap] w fun e w' => e = .returned (.tuple #[vText ⟨(subTo (rnd a) (rnd a + rnd b) s s.length).toArray⟩, .int .i64 0]) ∧ Below w.heap.size w w' :=
  call_text _ 2 3 90 (by rfl) none A 3 cap _ _ w (by decide) (by decide) (by decide) enters90 h (Nat.le_trans (subTo_length _ _ s s.length) hle) fun w' hw => substring_any none A cap s a b w' hs ha ha1 hb0 hb1 hw
end Go.Proofs.YtaadhehcoegmhaaGreatDoor
/- What must be whatever is asked: live answers true. -/
namespace Go.Proofs.YtaadhehcoegmhaaGreatDoor
open Go Go.RowKit

/-- A call's own slice of arguments. -/
theorem has_new {w : World} (xs : List GV) (cap : Nat) (cs : Array Value) (h : Env w) (hcs : cs.toList = xs.flatMap GV.cells) (hl : xs.length ≤ 1000) :
    Has (.slice (some ⟨w.heap.size, 0, none⟩) xs.length cap) xs (w.alloc (.cells cs 31)) :=
  ⟨args_new xs (heap_alloc_new w _) hcs hl, h.below ((Below.refl _ _).alloc (Nat.le_refl _) _)⟩

theorem tr_live : ([98, 97, 114] : List UInt8).flatMap (trc [97, 98, 99] [65, 66]) = [66, 65, 114] := by decide
theorem sub_live : subTo (rnd 1500000) (rnd 1500000 + rnd 2600000) [49, 50, 51, 52, 53] 5 = [50, 51, 52] := by decide
theorem ascii_of (l : List UInt8) (h : l.all (· < 128) = true) (hn : l.length ≤ 100000) : ascii l := ⟨fun c hc => by simpa using List.all_eq_true.1 h c hc, hn⟩

set_option maxRecDepth 100000 in
set_option maxHeartbeats 1000000 in
theorem live_any (w : World) (h : Env w) : Calls Tryz.prog 11 #[] w fun e w' => e = .returned (.bool true) ∧ Below w.heap.size w w' := by
  go_enter Tryz.func11, Tryz.ntmps11
  go_wp2_with fail
  refine Calls.mono (ofText_any _ _) ?_
  rintro e w1 ⟨rfl, hb1⟩
  dsimp only [vText]
  go_wp2_with fail
  refine Calls.mono (ofText_any _ _) ?_
  rintro e w2 ⟨rfl, hb2⟩
  dsimp only [vText]
  go_wp2_with fail
  refine Calls.mono (ofText_any _ _) ?_
  rintro e w3 ⟨rfl, hb3⟩
  dsimp only [vText]
  have hb : Below w.heap.size w w3 := below_then (below_then hb1 hb1.size hb2) (Nat.le_trans hb1.size hb2.size) hb3
  have hE3 := h.below hb
  go_wp2_with fail
  refine Calls.mono (call_translate (some ⟨w3.heap.size, 0, none⟩) 3 [98, 97, 114] [97, 98, 99] [65, 66] _ (has_new [.text ⟨#[98, 97, 114]⟩, .text ⟨#[97, 98, 99]⟩, .text ⟨#[65, 66]⟩] 3 _ hE3 rfl (by decide)) (ascii_of _ (by decide) (by decide)) (ascii_of _ (by decide) (by decide)) (ascii_of _ (by decide) (by decide)) (by decide)) ?_
  rw [tr_live]
  rintro e w4 ⟨rfl, hb4⟩
  dsimp only [vText]
  have hbel4 : Below w.heap.size w w4 := below_then (hb.alloc hb.size _) (by have := hb.size; simp; omega) hb4
  clear hb hb1 hb2 hb3 hb4 hE3
  have hg := heap_alloc_new w4 (.cells #[.int .i64 0, .slice none 0 0, .int .i64 0, .int .i64 0, .string ⟨#[]⟩, .bool false] 31)
  obtain ⟨hp1, hp2, hp3⟩ := put_new w4 #[.int .i64 0, .slice none 0 0, .int .i64 0, .int .i64 0, .string ⟨#[]⟩, .bool false] #[.int .i64 2, .slice none 0 0, .int .i64 0, .int .i64 0, .string ⟨#[66, 65, 114]⟩, .bool false] 31
  have hbel5 := below_then hbel4 hbel4.size hp1
  go_wp2_with (refine wpList_store_row rfl 31 (.tmp 1) (.tmp 11) rfl (w4.heap.size) #[.int .i64 2, .slice none 0 0, .int .i64 0, .int .i64 0, .string ⟨#[66, 65, 114]⟩, .bool false] rfl rfl 31 _ hg (by kernel_rfl) rfl (by simp [Value.oneCell']) ?_)
  refine Calls.mono (ofText_any _ _) ?_
  rintro e w6 ⟨rfl, hb6⟩
  dsimp only [vText]
  have hk6 := (hb6.block _ (by omega)).trans hp2
  have hbel6 := below_then hbel5 hbel5.size hb6
  clear hb6 hp1 hp2 hp3 hbel5 hg hbel4
  go_wp2_with fail
  refine Calls.mono (ofNum_any _ _ _) ?_
  rintro e w7 ⟨rfl, hb7⟩
  dsimp only [vNum]
  go_wp2_with fail
  refine Calls.mono (ofNum_any _ _ _) ?_
  rintro e w8 ⟨rfl, hb8⟩
  dsimp only [vNum]
  have hlt6 := (Array.getElem?_eq_some_iff.1 hk6).1
  have hk8 := (hb8.block _ (by have := hb7.size; omega)).trans ((hb7.block _ (by omega)).trans hk6)
  have hbel8 := below_then (below_then hbel6 hbel6.size hb7) (by have := hb7.size; have := hbel6.size; omega) hb8
  clear hb7 hb8 hk6 hbel6
  have hE8 := h.below hbel8
  go_wp2_with fail
  refine Calls.mono (call_substring (some ⟨w8.heap.size, 0, none⟩) 3 [49, 50, 51, 52, 53] 1500000 2600000 _ (has_new [.text ⟨#[49, 50, 51, 52, 53]⟩, .num 0 1500000, .num 0 2600000] 3 _ hE8 rfl (by decide)) (ascii_of _ (by decide) (by decide)) (by decide) (by decide) (by decide) (by decide) (by decide)) ?_
  rw [show ([49, 50, 51, 52, 53] : List UInt8).length = 5 from rfl, sub_live]
  rintro e w9 ⟨rfl, hb9⟩
  dsimp only [vText]
  have hz9 := hb9.size
  simp at hz9
  have hlt8 := (Array.getElem?_eq_some_iff.1 hk8).1
  have hk9 := (hb9.block _ (by simp; omega)).trans ((Below.heap_alloc _ _ _ (by omega)).trans hk8)
  have hbel9 := below_then (hbel8.alloc hbel8.size _) (by have := hbel8.size; simp; omega) hb9
  clear hb9 hk8 hbel8 hE8
  have hg := heap_alloc_new w9 (.cells #[.int .i64 0, .slice none 0 0, .int .i64 0, .int .i64 0, .string ⟨#[]⟩, .bool false] 31)
  obtain ⟨hp1, hp2, hp3⟩ := put_new w9 #[.int .i64 0, .slice none 0 0, .int .i64 0, .int .i64 0, .string ⟨#[]⟩, .bool false] #[.int .i64 2, .slice none 0 0, .int .i64 0, .int .i64 0, .string ⟨#[50, 51, 52]⟩, .bool false] 31
  have hk10 := (hp1.block _ (by omega)).trans hk9
  have hbel10 := below_then hbel9 hbel9.size hp1
  have hc1 := Lib.cell_of_heap hk10 4
  have hc2 := Lib.cell_of_heap hp2 4
  simp at hc1 hc2
  clear hk9 hbel9 hp1 hp3 hk10 hp2
  go_wp2_with (refine wpList_store_row rfl 31 (.tmp 3) (.tmp 21) rfl (w9.heap.size) #[.int .i64 2, .slice none 0 0, .int .i64 0, .int .i64 0, .string ⟨#[50, 51, 52]⟩, .bool false] rfl rfl 31 _ hg (by kernel_rfl) rfl (by simp [Value.oneCell']) ?_)
  go_ret
  exact ⟨rfl, hbel10⟩
end Go.Proofs.YtaadhehcoegmhaaGreatDoor
