/- Contracts of the small makers: OfText, OfNum, and the makers of a function's row (text, truth, number, ofNodes, named). -/
import Derived.Test.YtaadhehcoegmhaaGreatDoorProg
import Derived.WalkKit
import Derived.WalkSpells
import Derived.WalkLawsBesides
import Derived.Laws.EntriesVeiled
namespace Go.Proofs.YtaadhehcoegmhaaGreatDoor
open Go.RowKit

/-- A text as a value. -/
def vText (s : ByteArray) : Value := .agg #[.int .i64 2, .slice none 0 0, .int .i64 0, .int .i64 0, .string s, .bool false]
/-- A number as a value. -/
def vNum (k v : Int) : Value := .agg #[.int .i64 1, .slice none 0 0, .int .i64 k, .int .i64 v, .string ⟨#[]⟩, .bool false]
/-- A function's row: how many arguments, nodes, what it does. -/
def fnRow (l m : Int) (nodes : Bool) (f : Value) : Value := .agg #[.int .i64 l, .int .i64 m, .bool nodes, f]

set_option maxHeartbeats 400000 in
theorem ofText_any (s : ByteArray) (w : World) :
    Calls Tryz.prog 14 #[.string s] w fun e w' => e = .returned (vText s) ∧ Below w.heap.size w w' := by
  go_enter Tryz.func14, Tryz.ntmps14
  go_wp2
  exact bodyPost_ret (v := vText s) (by simp [results, Tryz.results14, go_sem, vText]) rfl ⟨rfl, (Below.refl _ _).alloc (Nat.le_refl _) _⟩

set_option maxHeartbeats 400000 in
theorem ofNum_any (k v : Int) (w : World) :
    Calls Tryz.prog 31 #[.agg #[.int .i64 k, .int .i64 v]] w fun e w' => e = .returned (vNum k v) ∧ Below w.heap.size w w' := by
  go_enter Tryz.func31, Tryz.ntmps31
  go_wp2
  exact bodyPost_ret (v := vNum k v) (by simp [results, Tryz.results31, go_sem, vNum]) rfl ⟨rfl, ((Below.refl _ _).alloc (Nat.le_refl _) _).alloc (by simp) _⟩

/-- The block that a maker's closure captured holds f. -/
def Captured (w : World) (b : Nat) (f : Value) : Prop := w.cell? ⟨b, 0, none⟩ = some f

set_option maxHeartbeats 400000 in
theorem truth_any (n : Int) (fn : Fn) (xs ys : Array Value) (w : World) :
    Calls Tryz.prog 52 #[.int .i64 n, .func fn xs ys] w fun e w' => e = .returned (fnRow n n false (.func (.func 113) #[] #[.pointer (some ⟨w.heap.size, 0, none⟩)])) ∧ Captured w' w.heap.size (.func fn xs ys) ∧ Below w.heap.size w w' := by
  go_enter Tryz.func52, Tryz.ntmps52
  go_wp2
  exact bodyPost_ret (v := fnRow n n false (.func (.func 113) #[] #[.pointer (some ⟨w.heap.size, 0, none⟩)])) (by simp [results, Tryz.results52, go_sem, fnRow]) rfl ⟨rfl, by simp [Captured, go_sem], ((Below.refl _ _).alloc (Nat.le_refl _) _).alloc (by simp) _⟩

set_option maxHeartbeats 400000 in
theorem number_any (n : Int) (fn : Fn) (xs ys : Array Value) (w : World) :
    Calls Tryz.prog 58 #[.int .i64 n, .func fn xs ys] w fun e w' => e = .returned (fnRow n 1 false (.func (.func 115) #[] #[.pointer (some ⟨w.heap.size, 0, none⟩)])) ∧ Captured w' w.heap.size (.func fn xs ys) ∧ Below w.heap.size w w' := by
  go_enter Tryz.func58, Tryz.ntmps58
  go_wp2
  exact bodyPost_ret (v := fnRow n 1 false (.func (.func 115) #[] #[.pointer (some ⟨w.heap.size, 0, none⟩)])) (by simp [results, Tryz.results58, go_sem, fnRow]) rfl ⟨rfl, by simp [Captured, go_sem], ((Below.refl _ _).alloc (Nat.le_refl _) _).alloc (by simp) _⟩

set_option maxHeartbeats 400000 in
theorem text_any (l m : Int) (fn : Fn) (xs ys : Array Value) (w : World) :
    Calls Tryz.prog 75 #[.int .i64 l, .int .i64 m, .func fn xs ys] w fun e w' => e = .returned (fnRow l m false (.func (.func 124) #[] #[.pointer (some ⟨w.heap.size, 0, none⟩)])) ∧ Captured w' w.heap.size (.func fn xs ys) ∧ Below w.heap.size w w' := by
  go_enter Tryz.func75, Tryz.ntmps75
  go_wp2
  exact bodyPost_ret (v := fnRow l m false (.func (.func 124) #[] #[.pointer (some ⟨w.heap.size, 0, none⟩)])) (by simp [results, Tryz.results75, go_sem, fnRow]) rfl ⟨rfl, by simp [Captured, go_sem], ((Below.refl _ _).alloc (Nat.le_refl _) _).alloc (by simp) _⟩

set_option maxHeartbeats 400000 in
theorem ofNodes_any (l m : Int) (nodes : Bool) (fn : Fn) (xs ys : Array Value) (w : World) :
    Calls Tryz.prog 67 #[fnRow l m nodes (.func fn xs ys)] w fun e w' => e = .returned (fnRow l m true (.func fn xs ys)) ∧ Below w.heap.size w w' := by
  unfold fnRow
  go_enter Tryz.func67, Tryz.ntmps67
  go_wp2
  exact bodyPost_ret (v := fnRow l m true (.func fn xs ys)) (by simp [results, Tryz.results67, go_sem, fnRow]) rfl ⟨rfl, ((Below.refl _ _).alloc (Nat.le_refl _) _).alloc (by simp) _⟩

end Go.Proofs.YtaadhehcoegmhaaGreatDoor
