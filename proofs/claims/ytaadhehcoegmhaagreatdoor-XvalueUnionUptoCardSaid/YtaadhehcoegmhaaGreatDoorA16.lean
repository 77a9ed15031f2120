/- xvalue.Call at functions of texts, of truths, of numbers. -/
import Derived.Test.YtaadhehcoegmhaaGreatDoorA15
namespace Go.Proofs.YtaadhehcoegmhaaGreatDoor
open Go Go.RowKit

/-- A call of g goes into g's body. -/
def Enters (g : Nat) : Prop := ∀ args w, (callFunc g args).run Tryz.prog w = .ok (.enter g args) w

theorem enters_of {g : Nat} {fn : Func} {c : Code} (hf : Tryz.prog.funcs[g]? = some fn) (hname : (fn.name == "runtime.NumGoroutine") = false) (hb : fn.body = some c) : Enters g := by
  intro args w
  have h1 : fn.name ≠ "runtime.NumGoroutine" := by simpa using hname
  simp [callFunc, hf, h1, hb]

theorem enters113 : Enters 113 := enters_of Tryz.func113 (by kernel_rfl) rfl
theorem enters115 : Enters 115 := enters_of Tryz.func115 (by kernel_rfl) rfl
theorem enters124 : Enters 124 := enters_of Tryz.func124 (by kernel_rfl) rfl

theorem GV.cells_length (x : GV) : x.cells.length = 6 := by cases x <;> rfl

theorem flat6 : ∀ (xs : List GV) (i : Nat) (x : GV) (j : Nat) (c : Value), xs[i]? = some x → x.cells[j]? = some c → (xs.flatMap GV.cells)[i * 6 + j]? = some c
  | [], i, x, j, c, h, _ => by simp at h
  | y :: ys, 0, x, j, c, h, hc => by
    have hj : j < 6 := by have := (List.getElem?_eq_some_iff.1 hc).1; rw [GV.cells_length] at this; exact this
    simp at h
    subst h
    rw [List.flatMap_cons, Nat.zero_mul, Nat.zero_add, List.getElem?_append_left (by rw [GV.cells_length]; exact hj)]
    exact hc
  | y :: ys, i + 1, x, j, c, h, hc => by
    rw [List.flatMap_cons, List.getElem?_append_right (by rw [GV.cells_length]; omega), GV.cells_length]
    have := flat6 ys i x j c (by simpa using h) hc
    rwa [show (i + 1) * 6 + j - 6 = i * 6 + j by omega]

/-- A block of values is a row of arguments. -/
theorem args_new {w : World} {b cap : Nat} {cs : Array Value} {T : TypeId} {fz : Nat × Nat} (xs : List GV) (h : w.heap[b]? = some (.cells cs T fz)) (hcs : cs.toList = xs.flatMap GV.cells) (hl : xs.length ≤ 1000) :
    ArgsAt w (.slice (some ⟨b, 0, none⟩) xs.length cap) xs := by
  refine ⟨b, cap, rfl, hl, fun i x hx j c hc => ?_⟩
  rw [Lib.cell_of_heap h, ← Array.getElem?_toList, hcs]
  exact flat6 xs i x j c hx hc

theorem call_text (k : ByteArray) (l m : Int) (f : Nat) (hrow : rowAt k fnTable = some (.plain l m false 124 f)) (t A : Option Addr) (n cap : Nat) (xs : List GV) (s : ByteArray) (w : World) (hl : 1 ≤ l) (hln : l ≤ n) (hnm : (n : Int) ≤ m)
    (hen : Enters f) (hh : Has (.slice A n cap) xs w) (hle : s.size ≤ 32768)
    (hin : ∀ w', Has (.slice A n cap) xs w' → Calls Tryz.prog f #[.agg #[.pointer t, .slice A n cap]] w' fun e w2 => e = .returned (.string s) ∧ Below w'.heap.size w' w2) :
    Calls Tryz.prog 13 #[.pointer t, .string k, .slice A n cap] w fun e w' => e = .returned (.tuple #[vText s, .int .i64 0]) ∧ Below w.heap.size w w' :=
  call_plain k l m 124 f hrow t A n cap _ 0 w hl hln hnm enters124 (by kernel_rfl) (by simp [Value.oneCell']) fun w1 b hb hc =>
    text1_any f b _ _ s hle w1 hen hc fun w2 hb2 => hin w2 ((hh.below hb).below hb2)

theorem call_text_long (k : ByteArray) (l m : Int) (f : Nat) (hrow : rowAt k fnTable = some (.plain l m false 124 f)) (t A : Option Addr) (n cap : Nat) (xs : List GV) (s : ByteArray) (w : World) (hl : 1 ≤ l) (hln : l ≤ n) (hnm : (n : Int) ≤ m)
    (hen : Enters f) (hh : Has (.slice A n cap) xs w) (hle : 32768 < s.size) (hs : s.size ≤ 9223372036854775807)
    (hin : ∀ w', Has (.slice A n cap) xs w' → Calls Tryz.prog f #[.agg #[.pointer t, .slice A n cap]] w' fun e w2 => e = .returned (.string s) ∧ Below w'.heap.size w' w2) :
    Calls Tryz.prog 13 #[.pointer t, .string k, .slice A n cap] w fun e w' => e = .returned (.tuple #[vZero, .int .i64 6]) ∧ Below w.heap.size w w' :=
  call_plain k l m 124 f hrow t A n cap _ 6 w hl hln hnm enters124 (by kernel_rfl) (by simp [Value.oneCell']) fun w1 b hb hc =>
    text1_long f b _ _ s hle hs w1 hen hc fun w2 hb2 => hin w2 ((hh.below hb).below hb2)

theorem call_truth (k : ByteArray) (l m : Int) (f : Nat) (hrow : rowAt k fnTable = some (.plain l m false 113 f)) (t A : Option Addr) (n cap : Nat) (xs : List GV) (x : Bool) (w : World) (hl : 1 ≤ l) (hln : l ≤ n) (hnm : (n : Int) ≤ m)
    (hen : Enters f) (hh : Has (.slice A n cap) xs w)
    (hin : ∀ w', Has (.slice A n cap) xs w' → Calls Tryz.prog f #[.agg #[.pointer t, .slice A n cap]] w' fun e w2 => e = .returned (.bool x) ∧ Below w'.heap.size w' w2) :
    Calls Tryz.prog 13 #[.pointer t, .string k, .slice A n cap] w fun e w' => e = .returned (.tuple #[vBool x, .int .i64 0]) ∧ Below w.heap.size w w' :=
  call_plain k l m 113 f hrow t A n cap _ 0 w hl hln hnm enters113 (by kernel_rfl) (by simp [Value.oneCell']) fun w1 b hb hc =>
    truth1_any f b _ _ x w1 hen hc fun w2 hb2 => hin w2 ((hh.below hb).below hb2)

theorem enters84 : Enters 84 := enters_of Tryz.func84 (by kernel_rfl) rfl
theorem enters82 : Enters 82 := enters_of Tryz.func82 (by kernel_rfl) rfl
theorem enters86 : Enters 86 := enters_of Tryz.func86 (by kernel_rfl) rfl
theorem enters88 : Enters 88 := enters_of Tryz.func88 (by kernel_rfl) rfl
theorem enters89 : Enters 89 := enters_of Tryz.func89 (by kernel_rfl) rfl
theorem enters90 : Enters 90 := enters_of Tryz.func90 (by kernel_rfl) rfl

theorem call_contains (A : Option Addr) (cap : Nat) (s u : ByteArray) (w : World) (h : Has (.slice A 2 cap) [.text s, .text u] w) (hs : s.size < 4294967281) :
    Calls Tryz.prog 13 #[.pointer none, .string ⟨#[99, 111, 110, 116, 97, 105, 110, 115]⟩, .slice A 2 cap] w fun e w' => e = .returned (.tuple #[vBool (Lib.contains s.data.toList u.data.toList), .int .i64 0]) ∧ Below w.heap.size w w' :=
  call_truth _ 2 2 84 (by rfl) none A 2 cap _ _ w (by decide) (by decide) (by decide) enters84 h fun w' hw => contains_any none A 2 cap s u w' hw hs

theorem call_before (A : Option Addr) (cap : Nat) (s u : ByteArray) (w : World) (h : Has (.slice A 2 cap) [.text s, .text u] w) (hs : s.size < 4294967281) (hle : (cutOf s u false).size ≤ 32768) :
    Calls Tryz.prog 13 #[.pointer none, .string ⟨#[115, 117, 98, 115, 116, 114, 105, 110, 103, 45, 98, 101, 102, 111, 114, 101]⟩, .slice A 2 cap] w fun e w' => e = .returned (.tuple #[vText (cutOf s u false), .int .i64 0]) ∧ Below w.heap.size w w' :=
  call_text _ 2 2 86 (by rfl) none A 2 cap _ _ w (by decide) (by decide) (by decide) enters86 h hle fun w' hw => before_any none A 2 cap s u w' hw hs

theorem call_after (A : Option Addr) (cap : Nat) (s u : ByteArray) (w : World) (h : Has (.slice A 2 cap) [.text s, .text u] w) (hs : s.size < 4294967281) (hle : (cutOf s u true).size ≤ 32768) :
    Calls Tryz.prog 13 #[.pointer none, .string ⟨#[115, 117, 98, 115, 116, 114, 105, 110, 103, 45, 97, 102, 116, 101, 114]⟩, .slice A 2 cap] w fun e w' => e = .returned (.tuple #[vText (cutOf s u true), .int .i64 0]) ∧ Below w.heap.size w w' :=
  call_text _ 2 2 88 (by rfl) none A 2 cap _ _ w (by decide) (by decide) (by decide) enters88 h hle fun w' hw => after_any none A 2 cap s u w' hw hs

theorem call_translate (A : Option Addr) (cap : Nat) (s fr tt : List UInt8) (w : World) (h : Has (.slice A 3 cap) [.text ⟨s.toArray⟩, .text ⟨fr.toArray⟩, .text ⟨tt.toArray⟩] w) (hs : ascii s) (hf : ascii fr) (ht : ascii tt) (hle : s.length ≤ 32768) :
    Calls Tryz.prog 13 #[.pointer none, .string ⟨#[116, 114, 97, 110, 115, 108, 97, 116, 101]⟩, .slice A 3 cap] w fun e w' => e = .returned (.tuple #[vText ⟨(s.flatMap (trc fr tt)).toArray⟩, .int .i64 0]) ∧ Below w.heap.size w w' :=
  call_text _ 3 3 89 (by rfl) none A 3 cap _ _ w (by decide) (by decide) (by decide) enters89 h (Nat.le_trans (tr_length fr tt s) hle) fun w' hw => translate_any none A 3 cap s fr tt w' hs hf ht hw

theorem call_substring (A : Option Addr) (cap : Nat) (s : List UInt8) (a b : Int) (w : World) (h : Has (.slice A 3 cap) [.text ⟨s.toArray⟩, .num 0 a, .num 0 b] w) (hs : ascii s) (hle : s.length ≤ 32768) (ha : 0 ≤ a) (ha1 : a ≤ 1000000000) (hb0 : 0 ≤ b) (hb1 : b ≤ 1000000000) :
    Calls Tryz.prog 13 #[.pointer none, .string ⟨#[115, 117, 98, 115, 116, 114, 105, 110, 103]⟩, .slice A 3 cap] w fun e w' => e = .returned (.tuple #[vText ⟨(subTo (rnd a) (rnd a + rnd b) s s.length).toArray⟩, .int .i64 0]) ∧ Below w.heap.size w w' :=
  call_text _ 2 3 90 (by rfl) none A 3 cap _ _ w (by decide) (by decide) (by decide) enters90 h (Nat.le_trans (subTo_length _ _ s s.length) hle) fun w' hw => substring_any none A cap s a b w' hs ha ha1 hb0 hb1 hw
end Go.Proofs.YtaadhehcoegmhaaGreatDoor
