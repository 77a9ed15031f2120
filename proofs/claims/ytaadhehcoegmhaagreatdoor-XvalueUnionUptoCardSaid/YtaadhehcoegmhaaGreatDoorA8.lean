/- Functions of texts: contains, starts-with, cut. -/
import Derived.Test.YtaadhehcoegmhaaGreatDoorA7
import Derived.Test.YtaadhehcoegmhaaGreatDoorB1
import Derived.Deep.RegionHeld3
import Derived.Deep.RegionWith
namespace Go.Proofs.YtaadhehcoegmhaaGreatDoor
open Go Go.RowKit

/-- What the library's code reads of package-level variables. -/
structure Env (w : World) : Prop where
  max : ∃ m, w.cell? ⟨2, 0, none⟩ = some (.int .i64 m)
  tabs : Lib.Utf8Tabs 0 1 w
theorem Env.below {w w' : World} (h : Env w) (hb : Below w.heap.size w w') : Env w' := by
  obtain ⟨m, hm⟩ := h.max
  exact ⟨⟨m, (hb.cell (World.block_lt_of_cell? w _ hm)).trans hm⟩, Go.Proofs.Utf8Tabs_below h.tabs hb⟩

/-- What a world that is gone on from w0 still has: the arguments, the variables. -/
def Has (sl : Value) (xs : List GV) (w' : World) : Prop := ArgsAt w' sl xs ∧ Env w'
theorem Has.below {sl : Value} {xs : List GV} {w w' : World} (h : Has sl xs w) (hb : Below w.heap.size w w') : Has sl xs w' := ⟨h.1.below hb, h.2.below hb⟩
theorem Has.drew {sl : Value} {xs : List GV} {w : World} (h : Has sl xs w) : Has sl xs w.drew := h.below ((Below.refl _ _).drew)
theorem Has.alloc {sl : Value} {xs : List GV} {w : World} (h : Has sl xs w) (o : Obj) : Has sl xs (w.alloc o) := h.below ((Below.refl _ _).alloc (Nat.le_refl _) o)
theorem Has.str {sl : Value} {xs : List GV} {w : World} (t : Value) (i : Nat) (s : ByteArray) (hi : xs[i]? = some (.text s)) (h : Has sl xs w) :
    Calls Tryz.prog 77 #[.agg #[t, sl], .int .i64 i] w fun e w' => e = .returned (.string s) ∧ Below w.heap.size w w' := str_any t sl xs i s w h.1 hi

/-- What is held while the arguments' box lies: the box, the arguments, what was there. -/
theorem held_first {t sl : Value} {xs : List GV} {w : World} (h : Has sl xs w) :
    (w.alloc (.cells #[t, sl] 88)).drew.cell? ⟨w.heap.size, 0, none⟩ = some t ∧ (w.alloc (.cells #[t, sl] 88)).drew.cell? ⟨w.heap.size, 1, none⟩ = some sl ∧ Has sl xs (w.alloc (.cells #[t, sl] 88)).drew ∧ Below w.heap.size w (w.alloc (.cells #[t, sl] 88)).drew :=
  ⟨by simp [go_sem], by simp [go_sem], (h.alloc _).drew, ((Below.refl _ _).alloc (Nat.le_refl _) _).drew⟩
theorem held_next {t sl : Value} {xs : List GV} {w w1 w2 : World} (hb : Below w1.heap.size w1 w2)
    (h : w1.cell? ⟨w.heap.size, 0, none⟩ = some t ∧ w1.cell? ⟨w.heap.size, 1, none⟩ = some sl ∧ Has sl xs w1 ∧ Below w.heap.size w w1) :
    w2.cell? ⟨w.heap.size, 0, none⟩ = some t ∧ w2.cell? ⟨w.heap.size, 1, none⟩ = some sl ∧ Has sl xs w2 ∧ Below w.heap.size w w2 :=
  ⟨(hb.cell (World.block_lt_of_cell? w1 _ h.1)).trans h.1, (hb.cell (World.block_lt_of_cell? w1 _ h.2.1)).trans h.2.1, h.2.2.1.below hb, below_then h.2.2.2 h.2.2.2.size hb⟩

theorem str_contains (s u : ByteArray) (w : World) (h : Env w) (hs : s.size < 4294967281) :
    Calls Tryz.prog 85 #[.string s, .string u] w fun e w' => e = .returned (.bool (Lib.contains s.data.toList u.data.toList)) ∧ Below w.heap.size w w' := by
  obtain ⟨m, hm⟩ := h.max
  exact Calls.mono (Tryz.strings_Contains s u m w hs hm) fun _ _ ⟨h1, h2⟩ => ⟨h1, h2 ▸ Below.refl _ _⟩

theorem str_hasPrefix (s u : ByteArray) (w : World) :
    Calls Tryz.prog 83 #[.string s, .string u] w fun e w' => e = .returned (.bool (Lib.hasPrefix s.data.toList u.data.toList)) ∧ Below w.heap.size w w' :=
  Calls.mono (Tryz.strings_HasPrefix s u w) fun _ _ ⟨h1, h2⟩ => ⟨h1, h2 ▸ Below.refl _ _⟩
theorem str_cut (s u : ByteArray) (w : World) (h : Env w) (hs : s.size < 4294967281) :
    Calls Tryz.prog 132 #[.string s, .string u] w fun e w' => e = .returned (.tuple #[.string ⟨(Lib.cut s.data.toList u.data.toList).1.toArray⟩, .string ⟨(Lib.cut s.data.toList u.data.toList).2.1.toArray⟩, .bool (Lib.cut s.data.toList u.data.toList).2.2]) ∧ Below w.heap.size w w' := by
  obtain ⟨m, hm⟩ := h.max
  refine Calls.mono (Tryz.strings_Cut s u m w hs hm) fun _ _ ⟨h1, n, h2⟩ => ⟨h1, ?_⟩
  subst h2
  exact ⟨rfl, rfl, rfl, Nat.le_refl _, fun _ _ => rfl⟩

set_option maxRecDepth 100000 in
set_option maxHeartbeats 1000000 in
theorem contains_any (t : Option Addr) (A : Option Addr) (n cap : Nat) (s u : ByteArray) (w : World) (h : Has (.slice A n cap) [.text s, .text u] w) (hs : s.size < 4294967281) :
    Calls Tryz.prog 84 #[.agg #[.pointer t, .slice A n cap]] w fun e w' => e = .returned (.bool (Lib.contains s.data.toList u.data.toList)) ∧ Below w.heap.size w w' := by
  go_enter Tryz.func84, Tryz.ntmps84
  go_wp2_with fail
  go_region_held3 (fun w' => w'.cell? ⟨w.heap.size, 0, none⟩ = some (.pointer t) ∧ w'.cell? ⟨w.heap.size, 1, none⟩ = some (.slice A n cap) ∧ Has (.slice A n cap) [.text s, .text u] w' ∧ Below w.heap.size w w')
    (first | exact held_first h | exact held_next ‹_› ‹_›)
    (first
      | (go_at_call_of 77 (Value.int IntKind.i64 0); refine Calls.mono (Has.str (xs := [.text s, .text u]) _ 0 s rfl ?_) ?_; exact (‹_ ∧ _ ∧ Has _ _ _ ∧ _›).2.2.1; rintro e w1 ⟨rfl, hb1⟩)
      | (go_at_call_of 77 (Value.int IntKind.i64 1); refine Calls.mono (Has.str (xs := [.text s, .text u]) _ 1 u rfl ?_) ?_; exact (‹_ ∧ _ ∧ Has _ _ _ ∧ _›).2.2.1; rintro e w2 ⟨rfl, hb2⟩)
      | (go_at_call 85; refine Calls.mono (str_contains s u _ ?_ hs) ?_; exact (‹_ ∧ _ ∧ Has _ _ _ ∧ _›).2.2.1.2; rintro e w3 ⟨rfl, hb3⟩))
  all_goals
    go_wp2_with fail
    go_ret
    exact ⟨rfl, (‹_ ∧ _ ∧ Has _ _ _ ∧ Below _ _ _›).2.2.2⟩

set_option maxRecDepth 100000 in
set_option maxHeartbeats 1000000 in
theorem startsWith_any (t : Option Addr) (A : Option Addr) (n cap : Nat) (s u : ByteArray) (w : World) (h : Has (.slice A n cap) [.text s, .text u] w) :
    Calls Tryz.prog 82 #[.agg #[.pointer t, .slice A n cap]] w fun e w' => e = .returned (.bool (Lib.hasPrefix s.data.toList u.data.toList)) ∧ Below w.heap.size w w' := by
  go_enter Tryz.func82, Tryz.ntmps82
  go_wp2_with fail
  go_region_held3 (fun w' => w'.cell? ⟨w.heap.size, 0, none⟩ = some (.pointer t) ∧ w'.cell? ⟨w.heap.size, 1, none⟩ = some (.slice A n cap) ∧ Has (.slice A n cap) [.text s, .text u] w' ∧ Below w.heap.size w w')
    (first | exact held_first h | exact held_next ‹_› ‹_›)
    (first
      | (go_at_call_of 77 (Value.int IntKind.i64 0); refine Calls.mono (Has.str (xs := [.text s, .text u]) _ 0 s rfl ?_) ?_; exact (‹_ ∧ _ ∧ Has _ _ _ ∧ _›).2.2.1; rintro e w1 ⟨rfl, hb1⟩)
      | (go_at_call_of 77 (Value.int IntKind.i64 1); refine Calls.mono (Has.str (xs := [.text s, .text u]) _ 1 u rfl ?_) ?_; exact (‹_ ∧ _ ∧ Has _ _ _ ∧ _›).2.2.1; rintro e w2 ⟨rfl, hb2⟩)
      | (go_at_call 83; refine Calls.mono (str_hasPrefix s u _) ?_; rintro e w3 ⟨rfl, hb3⟩))
  all_goals
    go_wp2_with fail
    go_ret
    exact ⟨rfl, (‹_ ∧ _ ∧ Has _ _ _ ∧ Below _ _ _›).2.2.2⟩

/-- What a text cut at another one is: ahead of it, or behind. -/
def cutOf (s u : ByteArray) (behind : Bool) : ByteArray :=
  if (Lib.cut s.data.toList u.data.toList).2.2 then (if behind then ⟨(Lib.cut s.data.toList u.data.toList).2.1.toArray⟩ else ⟨(Lib.cut s.data.toList u.data.toList).1.toArray⟩) else ⟨#[]⟩

set_option maxRecDepth 100000 in
set_option maxHeartbeats 1000000 in
theorem cut_any (t : Option Addr) (A : Option Addr) (n cap : Nat) (s u : ByteArray) (bh : Bool) (w : World) (h : Has (.slice A n cap) [.text s, .text u] w) (hs : s.size < 4294967281) :
    Calls Tryz.prog 87 #[.agg #[.pointer t, .slice A n cap], .bool bh] w fun e w' => e = .returned (.string (cutOf s u bh)) ∧ Below w.heap.size w w' := by
  go_enter Tryz.func87, Tryz.ntmps87
  go_wp2_with fail
  go_region_held3 (fun w' => w'.cell? ⟨w.heap.size, 0, none⟩ = some (.pointer t) ∧ w'.cell? ⟨w.heap.size, 1, none⟩ = some (.slice A n cap) ∧ Has (.slice A n cap) [.text s, .text u] w' ∧ Below w.heap.size w w')
    (first | exact held_first h | exact held_next ‹_› ‹_›)
    (first
      | (go_at_call_of 77 (Value.int IntKind.i64 0); refine Calls.mono (Has.str (xs := [.text s, .text u]) _ 0 s rfl ?_) ?_; exact (‹_ ∧ _ ∧ Has _ _ _ ∧ _›).2.2.1; rintro e w1 ⟨rfl, hb1⟩)
      | (go_at_call_of 77 (Value.int IntKind.i64 1); refine Calls.mono (Has.str (xs := [.text s, .text u]) _ 1 u rfl ?_) ?_; exact (‹_ ∧ _ ∧ Has _ _ _ ∧ _›).2.2.1; rintro e w2 ⟨rfl, hb2⟩)
      | (go_at_call 132; refine Calls.mono (str_cut s u _ ?_ hs) ?_; exact (‹_ ∧ _ ∧ Has _ _ _ ∧ _›).2.2.1.2; rintro e w3 ⟨rfl, hb3⟩))
  have hS := (‹_ ∧ _ ∧ Has _ _ _ ∧ Below _ _ _›).2.2.2
  cases hz : (Lib.cut s.data.toList u.data.toList).2.2 <;> cases bh
  all_goals
    have HZ := Lib.hid hz
    go_wp2_with fail
    go_ret
    refine ⟨?_, hS⟩
    simp [cutOf, HZ.out]

set_option maxRecDepth 100000 in
set_option maxHeartbeats 1000000 in
theorem before_any (t : Option Addr) (A : Option Addr) (n cap : Nat) (s u : ByteArray) (w : World) (h : Has (.slice A n cap) [.text s, .text u] w) (hs : s.size < 4294967281) :
    Calls Tryz.prog 86 #[.agg #[.pointer t, .slice A n cap]] w fun e w' => e = .returned (.string (cutOf s u false)) ∧ Below w.heap.size w w' := by
  go_enter Tryz.func86, Tryz.ntmps86
  go_wp2_with fail
  refine Calls.mono (cut_any t A n cap s u false _ (h.alloc _) hs) ?_
  rintro e w1 ⟨rfl, hb⟩
  dsimp only
  go_wp2_with fail
  go_ret
  exact ⟨rfl, below_then ((Below.refl _ _).alloc (Nat.le_refl _) _) (by simp) hb⟩

set_option maxRecDepth 100000 in
set_option maxHeartbeats 1000000 in
theorem after_any (t : Option Addr) (A : Option Addr) (n cap : Nat) (s u : ByteArray) (w : World) (h : Has (.slice A n cap) [.text s, .text u] w) (hs : s.size < 4294967281) :
    Calls Tryz.prog 88 #[.agg #[.pointer t, .slice A n cap]] w fun e w' => e = .returned (.string (cutOf s u true)) ∧ Below w.heap.size w w' := by
  go_enter Tryz.func88, Tryz.ntmps88
  go_wp2_with fail
  refine Calls.mono (cut_any t A n cap s u true _ (h.alloc _) hs) ?_
  rintro e w1 ⟨rfl, hb⟩
  dsimp only
  go_wp2_with fail
  go_ret
  exact ⟨rfl, below_then ((Below.refl _ _).alloc (Nat.le_refl _) _) (by simp) hb⟩
end Go.Proofs.YtaadhehcoegmhaaGreatDoor
