/- The plain law of rounds: whether some need each other. -/
import Derived.Laws.Bits64b
import Derived.Test.YtaadhehcoegmhaaGreatDoorProg
import Derived.WalkKit
import Derived.WalkSpells
import Derived.WalkLawsBesides
import Derived.Laws.EntriesVeiled
import Derived.ChangeMaps4
import Derived.StillTailTactics
import Derived.Lib.Hide
namespace Go.Proofs.YtaadhehcoegmhaaGreatDoor

/-- One step of one row: whatever is reached, what it needs is reached. -/
def reachStep (nd : Nat → Nat) (n : Nat) (r : Nat) : Nat := (List.range n).foldl (fun r k => if r.testBit k then r ||| nd k else r) r
def reachN (nd : Nat → Nat) (n : Nat) : Nat → Nat → Nat
  | 0, r => r
  | t + 1, r => reachN nd n t (reachStep nd n r)
theorem reachN_succ (nd : Nat → Nat) (n : Nat) : ∀ t r, reachN nd n (t + 1) r = reachStep nd n (reachN nd n t r)
  | 0, _ => rfl
  | t + 1, r => reachN_succ nd n t (reachStep nd n r)
def roundB (nd : Nat → Nat) (n : Nat) : Bool := (List.range n).any fun i => (reachN nd n n (nd i)).testBit i

theorem reachFold_mono (nd : Nat → Nat) (j : Nat) : ∀ (l : List Nat) (r : Nat), r.testBit j = true → (l.foldl (fun r k => if r.testBit k then r ||| nd k else r) r).testBit j = true
  | [], r, h => h
  | k :: l, r, h => by
    simp only [List.foldl_cons]
    refine reachFold_mono nd j l _ ?_
    split
    · simp [h]
    · exact h
theorem reachFold_step (nd : Nat → Nat) (i j : Nat) (hn : (nd i).testBit j = true) : ∀ (l : List Nat) (r : Nat), i ∈ l → r.testBit i = true → (l.foldl (fun r k => if r.testBit k then r ||| nd k else r) r).testBit j = true
  | k :: l, r, hi, h => by
    simp only [List.foldl_cons]
    rcases List.mem_cons.1 hi with rfl | hi
    · rw [if_pos h]
      refine reachFold_mono nd j l _ ?_
      simp [hn]
    · refine reachFold_step nd i j hn l _ hi ?_
      split
      · simp [h]
      · exact h
theorem reachStep_mono (nd : Nat → Nat) (n j r : Nat) (h : r.testBit j = true) : (reachStep nd n r).testBit j = true := reachFold_mono nd j _ r h
theorem reachStep_step (nd : Nat → Nat) (n i j r : Nat) (hi : i < n) (hn : (nd i).testBit j = true) (h : r.testBit i = true) : (reachStep nd n r).testBit j = true := reachFold_step nd i j hn _ r (by simpa using hi) h

/-- What is reached lies behind. -/
theorem reachFold_sound (nd : Nat → Nat) (S : Nat → Prop) (n : Nat) (hS : ∀ k, k < n → S k → ∀ j, j < n → (nd k).testBit j = true → S j) : ∀ (l : List Nat) (r : Nat), (∀ k ∈ l, k < n) → (∀ j, j < n → r.testBit j = true → S j) → ∀ j, j < n → (l.foldl (fun r k => if r.testBit k then r ||| nd k else r) r).testBit j = true → S j
  | [], r, _, h => h
  | k :: l, r, hl, h => by
    simp only [List.foldl_cons]
    refine reachFold_sound nd S n hS l _ (fun k hk => hl k (by simp [hk])) ?_
    intro j hj hb
    split at hb
    · rename_i hk
      rw [Nat.testBit_or, Bool.or_eq_true] at hb
      rcases hb with hb | hb
      · exact h j hj hb
      · exact hS k (hl k (by simp)) (h k (hl k (by simp)) hk) j hj hb
    · exact h j hj hb
theorem reachN_sound (nd : Nat → Nat) (S : Nat → Prop) (n : Nat) (hS : ∀ k, k < n → S k → ∀ j, j < n → (nd k).testBit j = true → S j) : ∀ (t r : Nat), (∀ j, j < n → r.testBit j = true → S j) → ∀ j, j < n → (reachN nd n t r).testBit j = true → S j
  | 0, _, h => h
  | t + 1, r, h => reachN_sound nd S n hS t _ (reachFold_sound nd S n hS _ r (fun k hk => by simpa using hk) h)

/-- Where each lies behind what it needs, there is no round. -/
theorem roundB_false (nd : Nat → Nat) (n : Nat) (rank : Nat → Nat) (h : ∀ i, i < n → ∀ k, k < n → (nd i).testBit k = true → rank k < rank i) : roundB nd n = false := by
  unfold roundB
  rw [List.any_eq_false]
  intro i hi hb
  have hi : i < n := by simpa using hi
  have := reachN_sound nd (fun j => rank j < rank i) n (fun k hk hki j hj hb => Nat.lt_trans (h k hk j hj hb) hki) n (nd i) (fun j hj hb => h i hi j hj hb) i hi hb
  omega

/-- The way of needs from one place. -/
def walkF (f : Nat → Nat) : Nat → Nat → Nat
  | 0, i => i
  | t + 1, i => f (walkF f t i)
theorem reach_walk (nd : Nat → Nat) (n : Nat) (f : Nat → Nat) (L : Nat → Prop) (hL : ∀ i, L i → i < n ∧ L (f i) ∧ (nd i).testBit (f i) = true) (i : Nat) (hi : L i) : ∀ t, L (walkF f t i) ∧ ∀ m, 1 ≤ m → m ≤ t + 1 → (reachN nd n t (nd i)).testBit (walkF f m i) = true
  | 0 => ⟨hi, fun m h1 h2 => by
      obtain rfl : m = 1 := by omega
      exact (hL i hi).2.2⟩
  | t + 1 => by
    obtain ⟨h1, h2⟩ := reach_walk nd n f L hL i hi t
    have h3 := hL _ h1
    refine ⟨h3.2.1, fun m hm1 hm2 => ?_⟩
    rw [reachN_succ]
    by_cases hm : m ≤ t + 1
    · exact reachStep_mono nd n _ _ (h2 m hm1 hm)
    · obtain rfl : m = t + 2 := by omega
      have h4 := hL _ h3.2.1
      exact reachStep_step nd n (walkF f (t + 1) i) _ _ h4.1 h4.2.2 (h2 (t + 1) (by omega) (by omega))

theorem walkF_add (f : Nat → Nat) (i : Nat) (a : Nat) : ∀ b, walkF f (a + b) i = walkF f b (walkF f a i)
  | 0 => rfl
  | b + 1 => by show f (walkF f (a + b) i) = f _; rw [walkF_add f i a b]

/-- Pigeons: of n + 1 values below n two are the same. -/
theorem pigeons (n : Nat) (g : Nat → Nat) (h : ∀ t, t ≤ n → g t < n) : ∃ a b, a < b ∧ b ≤ n ∧ g a = g b := by
  apply Classical.byContradiction
  intro hno
  have hnd : ((List.range (n + 1)).map g).Nodup := by
    rw [List.nodup_iff_pairwise_ne, List.pairwise_map]
    refine List.Pairwise.imp_of_mem ?_ List.pairwise_lt_range
    intro a b ha hb hab he
    exact hno ⟨a, b, hab, by simp at hb; omega, he⟩
  have hsub : ((List.range (n + 1)).map g) ⊆ List.range n := by
    intro x hx
    obtain ⟨t, ht, rfl⟩ := List.mem_map.1 hx
    simp at ht ⊢
    exact h t (by omega)
  have := List.Nodup.length_le_of_subset hnd hsub
  simp at this
  omega

/-- Where some need one another, each of them another one of them, there is a round. -/
theorem roundB_true (nd : Nat → Nat) (n : Nat) (L : Nat → Prop) (i0 : Nat) (h0 : L i0) (hL : ∀ i, L i → i < n ∧ ∃ k, L k ∧ (nd i).testBit k = true) : roundB nd n = true := by
  obtain ⟨f, hf⟩ : ∃ f : Nat → Nat, ∀ i, L i → i < n ∧ L (f i) ∧ (nd i).testBit (f i) = true := by
    have hc : ∀ i, ∃ k, L i → L k ∧ (nd i).testBit k = true := fun i => by
      by_cases h : L i
      · obtain ⟨k, hk⟩ := (hL i h).2
        exact ⟨k, fun _ => hk⟩
      · exact ⟨0, fun h' => absurd h' h⟩
    exact ⟨fun i => (hc i).choose, fun i hi => ⟨(hL i hi).1, (hc i).choose_spec hi⟩⟩
  obtain ⟨a, b, hab, hb, he⟩ := pigeons n (fun t => walkF f t i0) (fun t _ => (hf _ (reach_walk nd n f L hf i0 h0 t).1).1)
  have hLa := (reach_walk nd n f L hf i0 h0 a).1
  have hr := (reach_walk nd n f L hf _ hLa n).2 (b - a) (by omega) (by omega)
  rw [← walkF_add, show a + (b - a) = b by omega, ← he] at hr
  unfold roundB
  rw [List.any_eq_true]
  exact ⟨_, by simpa using (hf _ hLa).1, hr⟩
end Go.Proofs.YtaadhehcoegmhaaGreatDoor
/- Bytes and their bits. -/
namespace Go.Proofs.YtaadhehcoegmhaaGreatDoor
open Go

theorem wrap_u8_small (a : Nat) (h : a < 256) : IntKind.u8.wrap (a : Int) = (a : Int) := by
  simp [IntKind.wrap, IntKind.bits, IntKind.signed]
  omega
theorem bits_and_u8_nat (a b : Nat) (ha : a < 256) (hb : b < 256) : bits .and .u8 (a : Int) (b : Int) = ((a &&& b : Nat) : Int) := by
  have hx : a &&& b < 2 ^ 8 := Nat.and_lt_two_pow _ (by omega)
  have h1 : (BitVec.ofInt 8 (a : Int)).toNat = a := by
    rw [BitVec.ofInt_natCast, BitVec.toNat_ofNat]; exact Nat.mod_eq_of_lt (by omega)
  have h2 : (BitVec.ofInt 8 (b : Int)).toNat = b := by
    rw [BitVec.ofInt_natCast, BitVec.toNat_ofNat]; exact Nat.mod_eq_of_lt (by omega)
  show IntKind.u8.wrap ((BitVec.ofInt 8 (a : Int) &&& BitVec.ofInt 8 (b : Int)).toNat : Int) = _
  rw [BitVec.toNat_and, h1, h2, wrap_u8_small _ (by omega)]
theorem bits_or_u8_nat (a b : Nat) (ha : a < 256) (hb : b < 256) : bits .or .u8 (a : Int) (b : Int) = ((a ||| b : Nat) : Int) := by
  have hx : a ||| b < 2 ^ 8 := Nat.or_lt_two_pow (by omega) (by omega)
  have h1 : (BitVec.ofInt 8 (a : Int)).toNat = a := by
    rw [BitVec.ofInt_natCast, BitVec.toNat_ofNat]; exact Nat.mod_eq_of_lt (by omega)
  have h2 : (BitVec.ofInt 8 (b : Int)).toNat = b := by
    rw [BitVec.ofInt_natCast, BitVec.toNat_ofNat]; exact Nat.mod_eq_of_lt (by omega)
  show IntKind.u8.wrap ((BitVec.ofInt 8 (a : Int) ||| BitVec.ofInt 8 (b : Int)).toNat : Int) = _
  rw [BitVec.toNat_or, h1, h2, wrap_u8_small _ (by omega)]
/-- The test of one bit, as the code makes it. -/
theorem bit_test (v k : Nat) (hv : v < 256) : (bits .and .u8 ((v : Int) / 2 ^ k) 1 == 1) = v.testBit k := by
  have hc : ((v : Int) / 2 ^ k) = ((v / 2 ^ k : Nat) : Int) := by
    rw [Int.natCast_ediv]
    simp
  have hlt : v / 2 ^ k < 256 := Nat.lt_of_le_of_lt (Nat.div_le_self _ _) hv
  rw [hc, show (1 : Int) = ((1 : Nat) : Int) from rfl, bits_and_u8_nat _ 1 hlt (by omega), Nat.and_one_is_mod, Nat.testBit_eq_decide_div_mod_eq]
  have h2 : v / 2 ^ k % 2 = 0 ∨ v / 2 ^ k % 2 = 1 := by omega
  rcases h2 with h | h <;> rw [h] <;> rfl
theorem reachFold_lt (nd : Nat → Nat) : ∀ (l : List Nat) (r : Nat), r < 256 → (∀ k ∈ l, nd k < 256) → l.foldl (fun r k => if r.testBit k then r ||| nd k else r) r < 256
  | [], r, h, _ => h
  | k :: l, r, h, hn => by
    simp only [List.foldl_cons]
    refine reachFold_lt nd l _ ?_ (fun k' hk' => hn k' (by simp [hk']))
    split
    · exact Nat.or_lt_two_pow (n := 8) h (hn k (by simp))
    · exact h
theorem reachStep_lt (nd : Nat → Nat) (n r : Nat) (hr : r < 256) (hn : ∀ k, k < n → nd k < 256) : reachStep nd n r < 256 := reachFold_lt nd _ r hr (fun k hk => hn k (by simpa using hk))
theorem reachN_lt (nd : Nat → Nat) (n : Nat) (hn : ∀ k, k < n → nd k < 256) : ∀ (t r : Nat), r < 256 → reachN nd n t r < 256
  | 0, _, h => h
  | t + 1, r, h => reachN_lt nd n hn t _ (reachStep_lt nd n r h hn)
/-- A step as far as k. -/
def stepTo (nd : Nat → Nat) (k r : Nat) : Nat := (List.range k).foldl (fun r k => if r.testBit k then r ||| nd k else r) r
theorem stepTo_succ (nd : Nat → Nat) (k r : Nat) : stepTo nd (k + 1) r = if (stepTo nd k r).testBit k then stepTo nd k r ||| nd k else stepTo nd k r := by
  unfold stepTo
  rw [List.range_succ, List.foldl_append]
  rfl
theorem stepTo_all (nd : Nat → Nat) (n r : Nat) : stepTo nd n r = reachStep nd n r := rfl
theorem stepTo_lt (nd : Nat → Nat) (k r : Nat) (hr : r < 256) (hn : ∀ j, j < k → nd j < 256) : stepTo nd k r < 256 := reachFold_lt nd _ r hr (fun j hj => hn j (by simpa using hj))
end Go.Proofs.YtaadhehcoegmhaaGreatDoor
/- Contracts of the small makers: OfText, OfNum, and the makers of a function's row (text, truth, number, ofNodes, named). -/
namespace Go.Proofs.YtaadhehcoegmhaaGreatDoor
open Go.RowKit

/-- A text as a value. -/
def vText (s : ByteArray) : Value := .agg #[.int .i64 2, .slice none 0 0, .int .i64 0, .int .i64 0, .string s, .bool false]
/-- A number as a value. -/
def vNum (k v : Int) : Value := .agg #[.int .i64 1, .slice none 0 0, .int .i64 k, .int .i64 v, .string ⟨#[]⟩, .bool false]
/-- A function's row: how many arguments, nodes, what it does. -/
def fnRow (l m : Int) (nodes : Bool) (f : Value) : Value := .agg #[.int .i64 l, .int .i64 m, .bool nodes, f]

set_option maxHeartbeats 400000 in
theorem ofText_any (s : ByteArray) (w : World) :
    Calls Tryz.prog 14 #[.string s] w fun e w' => e = .returned (vText s) ∧ Below w.heap.size w w' := by
  go_enter Tryz.func14, Tryz.ntmps14
  go_wp2
  exact bodyPost_ret (v := vText s) (by simp [results, Tryz.results14, go_sem, vText]) rfl ⟨rfl, (Below.refl _ _).alloc (Nat.le_refl _) _⟩

set_option maxHeartbeats 400000 in
theorem ofNum_any (k v : Int) (w : World) :
    Calls Tryz.prog 31 #[.agg #[.int .i64 k, .int .i64 v]] w fun e w' => e = .returned (vNum k v) ∧ Below w.heap.size w w' := by
  go_enter Tryz.func31, Tryz.ntmps31
  go_wp2
  exact bodyPost_ret (v := vNum k v) (by simp [results, Tryz.results31, go_sem, vNum]) rfl ⟨rfl, ((Below.refl _ _).alloc (Nat.le_refl _) _).alloc (by simp) _⟩

/-- The block that a maker's closure captured holds f. -/
def Captured (w : World) (b : Nat) (f : Value) : Prop := w.cell? ⟨b, 0, none⟩ = some f

set_option maxHeartbeats 400000 in
theorem truth_any (n : Int) (fn : Fn) (xs ys : Array Value) (w : World) :
    Calls Tryz.prog 52 #[.int .i64 n, .func fn xs ys] w fun e w' => e = .returned (fnRow n n false (.func (.func 113) #[] #[.pointer (some ⟨w.heap.size, 0, none⟩)])) ∧ Captured w' w.heap.size (.func fn xs ys) ∧ Below w.heap.size w w' := by
  go_enter Tryz.func52, Tryz.ntmps52
  go_wp2
  exact bodyPost_ret (v := fnRow n n false (.func (.func 113) #[] #[.pointer (some ⟨w.heap.size, 0, none⟩)])) (by simp [results, Tryz.results52, go_sem, fnRow]) rfl ⟨rfl, by simp [Captured, go_sem], ((Below.refl _ _).alloc (Nat.le_refl _) _).alloc (by simp) _⟩

set_option maxHeartbeats 400000 in
theorem number_any (n : Int) (fn : Fn) (xs ys : Array Value) (w : World) :
    Calls Tryz.prog 58 #[.int .i64 n, .func fn xs ys] w fun e w' => e = .returned (fnRow n 1 false (.func (.func 115) #[] #[.pointer (some ⟨w.heap.size, 0, none⟩)])) ∧ Captured w' w.heap.size (.func fn xs ys) ∧ Below w.heap.size w w' := by
  go_enter Tryz.func58, Tryz.ntmps58
  go_wp2
  exact bodyPost_ret (v := fnRow n 1 false (.func (.func 115) #[] #[.pointer (some ⟨w.heap.size, 0, none⟩)])) (by simp [results, Tryz.results58, go_sem, fnRow]) rfl ⟨rfl, by simp [Captured, go_sem], ((Below.refl _ _).alloc (Nat.le_refl _) _).alloc (by simp) _⟩

set_option maxHeartbeats 400000 in
theorem text_any (l m : Int) (fn : Fn) (xs ys : Array Value) (w : World) :
    Calls Tryz.prog 75 #[.int .i64 l, .int .i64 m, .func fn xs ys] w fun e w' => e = .returned (fnRow l m false (.func (.func 124) #[] #[.pointer (some ⟨w.heap.size, 0, none⟩)])) ∧ Captured w' w.heap.size (.func fn xs ys) ∧ Below w.heap.size w w' := by
  go_enter Tryz.func75, Tryz.ntmps75
  go_wp2
  exact bodyPost_ret (v := fnRow l m false (.func (.func 124) #[] #[.pointer (some ⟨w.heap.size, 0, none⟩)])) (by simp [results, Tryz.results75, go_sem, fnRow]) rfl ⟨rfl, by simp [Captured, go_sem], ((Below.refl _ _).alloc (Nat.le_refl _) _).alloc (by simp) _⟩

set_option maxHeartbeats 400000 in
theorem ofNodes_any (l m : Int) (nodes : Bool) (fn : Fn) (xs ys : Array Value) (w : World) :
    Calls Tryz.prog 67 #[fnRow l m nodes (.func fn xs ys)] w fun e w' => e = .returned (fnRow l m true (.func fn xs ys)) ∧ Below w.heap.size w w' := by
  unfold fnRow
  go_enter Tryz.func67, Tryz.ntmps67
  go_wp2
  exact bodyPost_ret (v := fnRow l m true (.func fn xs ys)) (by simp [results, Tryz.results67, go_sem, fnRow]) rfl ⟨rfl, ((Below.refl _ _).alloc (Nat.le_refl _) _).alloc (by simp) _⟩

end Go.Proofs.YtaadhehcoegmhaaGreatDoor
/- A map keyed by strings that a literal fills: its entries row by row; an insert of a new key; a lookup. -/
namespace Go.Proofs.YtaadhehcoegmhaaGreatDoor
open Go Go.RowKit

/-- The entries of a string-keyed map, row by row: the keys, and what each value is. -/
def KeyRows {α : Type} (R : Value → α → Prop) : List MapEntry → List (ByteArray × α) → Prop
  | [], [] => True
  | e :: es, r :: rs => e.key = .string r.1 ∧ R e.val r.2 ∧ KeyRows R es rs
  | _, _ => False

/-- What stands at a key: the first row of that key. -/
def rowAt {α : Type} (k : ByteArray) : List (ByteArray × α) → Option α
  | [] => none
  | r :: rs => if k == r.1 then some r.2 else rowAt k rs

theorem KeyRows.snoc {α : Type} {R : Value → α → Prop} {v : Value} {k : ByteArray} {x : α} {c : Nat} (hx : R v x) :
    ∀ {es : List MapEntry} {rs : List (ByteArray × α)}, KeyRows R es rs → KeyRows R (es ++ [⟨.string k, v, c⟩]) (rs ++ [(k, x)])
  | [], [], _ => ⟨rfl, hx, trivial⟩
  | [], _ :: _, h => h.elim
  | _ :: _, [], h => h.elim
  | _ :: _, _ :: _, h => ⟨h.1, h.2.1, KeyRows.snoc hx h.2.2⟩

theorem KeyRows.imp {α : Type} {R R' : Value → α → Prop} (hR : ∀ v x, R v x → R' v x) :
    ∀ {es : List MapEntry} {rs : List (ByteArray × α)}, KeyRows R es rs → KeyRows R' es rs
  | [], [], _ => trivial
  | [], _ :: _, h => h.elim
  | _ :: _, [], h => h.elim
  | _ :: _, _ :: _, h => ⟨h.1, hR _ _ h.2.1, KeyRows.imp hR h.2.2⟩

theorem KeyRows.find {α : Type} {R : Value → α → Prop} {k : ByteArray} :
    ∀ {es : List MapEntry} {rs : List (ByteArray × α)} (i : Nat), KeyRows R es rs →
      (rowAt k rs = none ∧ Instr.findNow .string (.string k) es i = some none) ∨ ∃ j v x, rowAt k rs = some x ∧ R v x ∧ Instr.findNow .string (.string k) es i = some (some (j, v))
  | [], [], _, _ => .inl ⟨rfl, rfl⟩
  | [], _ :: _, _, h => h.elim
  | _ :: _, [], _, h => h.elim
  | e :: es, r :: rs, i, h => by
    obtain ⟨hk, hv, ht⟩ := h
    by_cases he : (k == r.1) = true
    · exact .inr ⟨i, e.val, r.2, by simp only [rowAt, he, if_true], hv, by simp only [Instr.findNow, hk, Instr.sameNow, he]⟩
    · have he' : (k == r.1) = false := by simpa using he
      rcases KeyRows.find (k := k) (i + 1) ht with ⟨h1, h2⟩ | ⟨j, v, x, h1, h2, h3⟩
      · exact .inl ⟨by simp only [rowAt, he', Bool.false_eq_true, if_false, h1], by simp only [Instr.findNow, hk, Instr.sameNow, he', h2]⟩
      · exact .inr ⟨j, v, x, by simp only [rowAt, he', Bool.false_eq_true, if_false, h1], h2, by simp only [Instr.findNow, hk, Instr.sameNow, he', h3]⟩

section
variable {P : Program} {t kt et : TypeId}

theorem run_insert_new {α : Type} {R : Value → α → Prop} {w : World} {m c : Nat} {es : Array MapEntry} {rs : List (ByteArray × α)} (ht : P.underlying t = some (.map kt et)) (hkt : P.underlying kt = some .string)
    (hm : w.heap[m]? = some (.map es c)) (hR : KeyRows R es.toList rs) (k : ByteArray) (hnew : rowAt k rs = none) (v : Value) :
    (Instr.mapUpdate t (.map (some m)) (.string k) v).run P w = .ok () { w with heap := w.heap.setIfInBounds m (.map (es.push ⟨.string k, v, c⟩) (c + 1)) } := by
  have h1 : Instr.findNow .string (.string k) es.toList 0 = some none := by
    rcases hR.find (k := k) 0 with ⟨_, h⟩ | ⟨j, u, x, h, _⟩
    · exact h
    · rw [hnew] at h; cases h
  have hik : MapKept.IsKey .string (.string k) := trivial
  simp [Instr.mapUpdate, run_underlying ht, MapKept.run_getObj_map hm, MapKept.run_checkKey hkt hik, MapKept.run_findKey hkt h1, MapKept.run_setObj_map _ hm, Result.andThen]

theorem run_lookup_rows {α : Type} {R : Value → α → Prop} {w : World} {m c : Nat} {es : Array MapEntry} {rs : List (ByteArray × α)} (ht : P.underlying t = some (.map kt et)) (hkt : P.underlying kt = some .string)
    (hm : w.heap[m]? = some (.map es c)) (hR : KeyRows R es.toList rs) {z : Value} (hz : (zeroValue et).run P w = .ok z w) (k : ByteArray) (ok : Bool) :
    (rowAt k rs = none ∧ (Instr.lookup t (.map (some m)) (.string k) ok).run P w = .ok (if ok then .tuple #[z, .bool false] else z) w) ∨
    ∃ v x, rowAt k rs = some x ∧ R v x ∧ (Instr.lookup t (.map (some m)) (.string k) ok).run P w = .ok (if ok then .tuple #[v, .bool true] else v) w := by
  have hik : MapKept.IsKey .string (.string k) := trivial
  rcases hR.find (k := k) 0 with ⟨h0, h1⟩ | ⟨j, v, x, h0, h2, h1⟩
  · exact .inl ⟨h0, by cases ok <;> simp [Instr.lookup, run_underlying ht, MapKept.run_getObj_map hm, MapKept.run_checkKey hkt hik, MapKept.run_findKey hkt h1, hz, Result.andThen]⟩
  · exact .inr ⟨v, x, h0, h2, by cases ok <;> simp [Instr.lookup, run_underlying ht, MapKept.run_getObj_map hm, MapKept.run_checkKey hkt hik, MapKept.run_findKey hkt h1, Result.andThen]⟩
end

/-- Block m alone is written: every other block stands. -/
theorem grownBy_setIn {w : World} {m : Nat} (o : Obj) : w.grownBy { w with heap := w.heap.setIfInBounds m o } (some m) := by
  refine ⟨rfl, rfl, rfl, by simp, fun k _ hne => ?_⟩
  simp only [Array.getElem?_setIfInBounds]
  rw [if_neg (fun h => hne (by rw [h]))]

/-- The map of a literal as it grows, at the operation. -/
theorem wpList_insert_new {P : Program} {ops : Array Oper} {rest : List Oper} {o : Oper} {a : Act} {Q : Exit → Act → World → Prop} (w : World)
    {α : Type} {R : Value → α → Prop} {m c : Nat} {es : Array MapEntry} {rs : List (ByteArray × α)} {t kt et : TypeId} (hg : o.guard = none) (mo x : Operand) (k : ByteArray) (hop : o.op = Op.insert t mo (.const (.string k)) x)
    (ht : P.underlying t = some (.map kt et)) (hkt : P.underlying kt = some .string) (hmo : a.eval mo = .map (some m)) (hm : w.heap[m]? = some (.map es c)) (hR : KeyRows R es.toList rs) (hnew : rowAt k rs = none) (v : Value) (hv : a.eval x = v)
    (hK : ∀ w', w'.heap[m]? = some (.map (es.push ⟨.string k, v, c⟩) (c + 1)) → w.grownBy w' (some m) → wpList P ops Q rest (a.put o.dst undef) w') :
    wpList P ops Q (o :: rest) a w := by
  refine wpList_plain hg fun K hK' => ?_
  have hrun := run_insert_new ht hkt hm hR k hnew v
  have hlt : m < w.heap.size := (Array.getElem?_eq_some_iff.1 hm).1
  unfold Oper.wp
  have hc : a.eval (.const (.string k)) = .string k := rfl
  simp [execOp, hop, hmo, hv, hc, hrun, Result.andThen]
  exact hK' _ _ (hK _ (by simp [hlt]) (grownBy_setIn _))
end Go.Proofs.YtaadhehcoegmhaaGreatDoor
/- The table of functions that xvalue.functions makes: every row, and what each row's closure holds. -/
namespace Go.Proofs.YtaadhehcoegmhaaGreatDoor
open Go Go.RowKit

/-- The call answers v, and the world is then so. -/
def Gives (f : FuncId) (args : Array Value) (w : World) (R : Value → World → Prop) : Prop :=
  Calls Tryz.prog f args w fun e w' => ∃ v, e = .returned v ∧ R v w'
theorem Gives.mono {f : FuncId} {args : Array Value} {w : World} {R R' : Value → World → Prop} (h : Gives f args w R) (hR : ∀ v w', R v w' → R' v w') : Gives f args w R' :=
  Calls.mono h fun _ _ ⟨v, hv, hr⟩ => ⟨v, hv, hR v _ hr⟩

theorem wpList_call_gives {ops : Array Oper} {rest : List Oper} {o : Oper} {a : Act} {Q : Exit → Act → World → Prop} {w : World} (hg : o.guard = none) (f : FuncId) (cargs : Array Operand) (tys : Array TypeId)
    (hop : o.op = .call ⟨.value (.func f), cargs, tys⟩) (args : Array Value) (hargs : cargs.map a.eval = args) (hen : ∀ w, (callFunc f args).run Tryz.prog w = .ok (.enter f args) w)
    {R : Value → World → Prop} (hcall : Gives f args w R) (hK : ∀ v w', R v w' → wpList Tryz.prog ops Q rest (a.put o.dst v) w') : wpList Tryz.prog ops Q (o :: rest) a w := by
  refine wpList_plain hg fun K hK' => ?_
  have hev : a.eval (.func f) = .func (.func f) #[] #[] := rfl
  unfold Oper.wp execOp
  simp only [hop, resolve, hargs, hev, Deferred.ofValue, Sem.run_bind, Sem.run_pure, Result.andThen_ok, invoke, Array.empty_append, Array.append_empty, hen, Oper.upon_enter]
  exact Calls.mono hcall fun e w' ⟨v, hv, hr⟩ => by subst hv; exact hK' _ _ (hK v w' hr)

/-- What a row of the table is: none; a closure over a function; a closure over a closure over a function; a function. -/
inductive FnDesc where
  | none (l k : Int)
  | plain (l k : Int) (nodes : Bool) (g f : Nat)
  | named (f : Nat)
  | bare (l k : Int) (f : Nat)

/-- The value v is such a row; what its closures captured lies in blocks other than m. -/
def FnIs (m : Nat) (w : World) (v : Value) : FnDesc → Prop
  | .none l k => v = fnRow l k false .nilFunc
  | .plain l k nodes g f => ∃ b, v = fnRow l k nodes (.func (.func g) #[] #[.pointer (some ⟨b, 0, Option.none⟩)]) ∧ b ≠ m ∧ Captured w b (.func (.func f) #[] #[])
  | .named f => ∃ b b2, v = fnRow 0 1 true (.func (.func 124) #[] #[.pointer (some ⟨b, 0, Option.none⟩)]) ∧ b ≠ m ∧ b2 ≠ m ∧ Captured w b (.func (.func 122) #[] #[.pointer (some ⟨b2, 0, Option.none⟩)]) ∧ Captured w b2 (.func (.func f) #[] #[])
  | .bare l k f => v = fnRow l k false (.func (.func f) #[] #[])

theorem Captured.kept {w w' : World} {b m : Nat} {f : Value} (h : Captured w b f) (hg : w.grownBy w' (some m)) (hne : b ≠ m) : Captured w' b f := by
  have hlt := World.block_lt_of_cell? w _ h
  exact (World.cell?_of_block (w := w) (hg.block b hlt (fun e => hne (Option.some.inj e)))).trans h
theorem Captured.below {w w' : World} {b : Nat} {f : Value} (h : Captured w b f) (hb : Below w.heap.size w w') : Captured w' b f :=
  (hb.cell (World.block_lt_of_cell? w _ h)).trans h
theorem FnIs.kept {m : Nat} {w w' : World} {v : Value} {d : FnDesc} (h : FnIs m w v d) (hg : w.grownBy w' (some m)) : FnIs m w' v d := by
  cases d with
  | none l k => exact h
  | bare l k f => exact h
  | plain l k nodes g f => obtain ⟨b, h1, h2, h3⟩ := h; exact ⟨b, h1, h2, h3.kept hg h2⟩
  | named f => obtain ⟨b, b2, h1, h2, h3, h4, h5⟩ := h; exact ⟨b, b2, h1, h2, h3, h4.kept hg h2, h5.kept hg h3⟩
theorem FnIs.below {m : Nat} {w w' : World} {v : Value} {d : FnDesc} (h : FnIs m w v d) (hb : Below w.heap.size w w') : FnIs m w' v d :=
  h.kept ⟨hb.os, hb.tape, hb.output, hb.size, fun k hk _ => hb.block k hk⟩

/-- The map's block holds a table of such rows. -/
def TableIs (w : World) (m : Nat) (rs : List (ByteArray × FnDesc)) : Prop :=
  ∃ es : Array MapEntry, ∃ c, w.heap[m]? = some (.map es c) ∧ KeyRows (FnIs m w) es.toList rs

/-- While the table grows: the frame, the map, what was there. -/
structure FInv (w0 : World) (m : Nat) (rs : List (ByteArray × FnDesc)) (a : Act) (w : World) : Prop where
  size : a.tmps.size = 32
  map : a.tmps[1]? = some (.map (some m))
  defers : a.defers = []
  ge : w0.heap.size ≤ m
  below : Below w0.heap.size w0 w
  table : TableIs w m rs

theorem TableIs.lt {w : World} {m : Nat} {rs : List (ByteArray × FnDesc)} (h : TableIs w m rs) : m < w.heap.size := by
  obtain ⟨es, c, h1, _⟩ := h
  exact (Array.getElem?_eq_some_iff.1 h1).1

theorem TableIs.below {w w' : World} {m : Nat} {rs : List (ByteArray × FnDesc)} (h : TableIs w m rs) (hb : Below w.heap.size w w') : TableIs w' m rs := by
  have hlt := h.lt
  obtain ⟨es, c, h1, h2⟩ := h
  exact ⟨es, c, (hb.block m hlt).trans h1, h2.imp fun _ _ hf => hf.below hb⟩

theorem FInv.eval_map {w0 w : World} {m : Nat} {rs : List (ByteArray × FnDesc)} {a : Act} (h : FInv w0 m rs a w) : a.eval (.tmp 1) = .map (some m) := by
  simp [Act.eval, Array.getD_eq_getD_getElem?, h.map]

theorem FInv.put {w0 w w' : World} {m : Nat} {rs : List (ByteArray × FnDesc)} {a : Act} (h : FInv w0 m rs a w) (i : Nat) (hi : i ≠ 1) (v : Value) (hb : Below w.heap.size w w') : FInv w0 m rs (a.put (some i) v) w' where
  size := by simp [Act.put, h.size]
  map := by simp only [Act.put]; rw [Array.getElem?_setIfInBounds_ne (by omega)]; exact h.map
  defers := h.defers
  ge := h.ge
  below := h.below.trans ⟨hb.os, hb.tape, hb.output, hb.size, fun k hk => hb.block k (Nat.lt_of_lt_of_le hk h.below.size)⟩
  table := h.table.below hb

theorem eval_put {a : Act} {i : Nat} (h : i < a.tmps.size) (v : Value) : (a.put (some i) v).eval (.tmp i) = v := by
  simp [Act.eval, Act.put, Array.getD_eq_getD_getElem?, h]

section
variable {w0 w : World} {m : Nat} {rs : List (ByteArray × FnDesc)} {a : Act} {ops : Array Oper} {rest : List Oper} {Q : Exit → Act → World → Prop}

/-- One row is put in. -/
theorem step_insert (hI : FInv w0 m rs a w) (i : Nat) (k : ByteArray) (v : Value) (d : FnDesc) (hv : a.eval (.tmp i) = v) (hd : FnIs m w v d) (hnew : rowAt k rs = none) {ty : TypeId} {pos : String} {af : Array Edge}
    (hK : ∀ a' w', FInv w0 m (rs ++ [(k, d)]) a' w' → wpList Tryz.prog ops Q rest a' w') : wpList Tryz.prog ops Q (⟨none, .insert 83 (.tmp 1) (.const (.string k)) (.tmp i), ty, pos, af, none⟩ :: rest) a w := by
  obtain ⟨es, c, hm, hR⟩ := hI.table
  refine wpList_insert_new w rfl (.tmp 1) (.tmp i) k rfl Tryz.underlying83 Tryz.underlying9 hI.eval_map hm hR hnew v hv fun w' hm' hg => ?_
  exact hK _ _ { size := hI.size, map := hI.map, defers := hI.defers, ge := hI.ge, below := hI.below.grown hg hI.below.size (fun k hk => by cases hk; exact hI.ge), table := ⟨_, _, hm', by
    rw [Array.toList_push]
    exact (hR.imp fun _ _ hf => hf.kept hg).snoc (hd.kept hg)⟩ }

/-- A call makes a row, and it is put in. -/
theorem step_row (hI : FInv w0 m rs a w) (i f : Nat) (hi : i ≠ 1) (hi' : i < 32) (k : ByteArray) (cargs : Array Operand) (args : Array Value) (d : FnDesc) (hargs : ∀ a : Act, cargs.map a.eval = args)
    (hen : ∀ w, (callFunc f args).run Tryz.prog w = .ok (.enter f args) w) (hcall' : ∀ w : World, m < w.heap.size → Gives f args w fun v w' => FnIs m w' v d ∧ Below w.heap.size w w')
    (hnew : rowAt k rs = none) {tys : Array TypeId} {ty ty' : TypeId} {pos pos' : String} {af af' : Array Edge}
    (hK : ∀ a' w', FInv w0 m (rs ++ [(k, d)]) a' w' → wpList Tryz.prog ops Q rest a' w') :
    wpList Tryz.prog ops Q (⟨some i, .call ⟨.value (.func f), cargs, tys⟩, ty, pos, af, none⟩ :: ⟨none, .insert 83 (.tmp 1) (.const (.string k)) (.tmp i), ty', pos', af', none⟩ :: rest) a w := by
  refine wpList_call_gives rfl f cargs tys rfl args (hargs a) hen (hcall' w hI.table.lt) fun v w' ⟨hd, hb⟩ => ?_
  exact step_insert (hI.put i hi v hb) i k v d (eval_put (by rw [hI.size]; exact hi') v) hd hnew hK
end
end Go.Proofs.YtaadhehcoegmhaaGreatDoor
/- xvalue.functions: the walk: it hands back a map that holds the table. -/
namespace Go.Proofs.YtaadhehcoegmhaaGreatDoor
open Go Go.RowKit

/-- The table of all functions: of each name its row. -/
def fnTable : List (ByteArray × FnDesc) := [
  (⟨#[108,97,115,116]⟩, .none 0 0),
  (⟨#[112,111,115,105,116,105,111,110]⟩, .none 0 0),
  (⟨#[108,97,110,103]⟩, .none 1 1),
  (⟨#[116,114,117,101]⟩, .plain 0 0 false 113 53),
  (⟨#[102,97,108,115,101]⟩, .plain 0 0 false 113 54),
  (⟨#[98,111,111,108,101,97,110]⟩, .plain 1 1 false 113 55),
  (⟨#[110,111,116]⟩, .plain 1 1 false 113 57),
  (⟨#[110,117,109,98,101,114]⟩, .plain 0 1 false 115 59),
  (⟨#[102,108,111,111,114]⟩, .plain 1 1 false 115 61),
  (⟨#[99,101,105,108,105,110,103]⟩, .plain 1 1 false 115 63),
  (⟨#[114,111,117,110,100]⟩, .plain 1 1 false 115 65),
  (⟨#[115,117,109]⟩, .plain 1 1 true 115 68),
  (⟨#[99,111,117,110,116]⟩, .plain 1 1 true 115 69),
  (⟨#[110,97,109,101]⟩, .named 72),
  (⟨#[108,111,99,97,108,45,110,97,109,101]⟩, .named 73),
  (⟨#[110,97,109,101,115,112,97,99,101,45,117,114,105]⟩, .named 74),
  (⟨#[115,116,114,105,110,103]⟩, .plain 0 1 false 124 76),
  (⟨#[110,111,114,109,97,108,105,122,101,45,115,112,97,99,101]⟩, .plain 0 1 false 124 78),
  (⟨#[115,116,114,105,110,103,45,108,101,110,103,116,104]⟩, .plain 0 1 false 115 80),
  (⟨#[99,111,110,99,97,116]⟩, .plain 2 8 false 124 81),
  (⟨#[115,116,97,114,116,115,45,119,105,116,104]⟩, .plain 2 2 false 113 82),
  (⟨#[99,111,110,116,97,105,110,115]⟩, .plain 2 2 false 113 84),
  (⟨#[115,117,98,115,116,114,105,110,103,45,98,101,102,111,114,101]⟩, .plain 2 2 false 124 86),
  (⟨#[115,117,98,115,116,114,105,110,103,45,97,102,116,101,114]⟩, .plain 2 2 false 124 88),
  (⟨#[116,114,97,110,115,108,97,116,101]⟩, .plain 3 3 false 124 89),
  (⟨#[115,117,98,115,116,114,105,110,103]⟩, .plain 2 3 false 124 90),
  (⟨#[102,111,114,109,97,116,45,110,117,109,98,101,114]⟩, .bare 2 2 91)]

theorem below_then {B : Nat} {w w1 w2 : World} (h : Below B w w1) (hB : B ≤ w1.heap.size) (k : Below w1.heap.size w1 w2) : Below B w w2 :=
  h.trans ⟨k.os, k.tape, k.output, k.size, fun i hi => k.block i (Nat.lt_of_lt_of_le hi hB)⟩

theorem heap_alloc2_old (w : World) (A B : Obj) : ((w.alloc A).alloc B).heap[w.heap.size]? = some A := by
  show ((w.heap.push A).push B)[w.heap.size]? = _
  rw [Array.getElem?_push, if_neg (by simp)]
  simp

theorem heap_setRow_ne (w : World) (g : Nat) (cs : Array Value) (k : Nat) (h : k ≠ g) : (w.setRow g cs).heap[k]? = w.heap[k]? := by
  simp only [World.setRow, Array.getElem?_modify]
  rw [if_neg (by omega)]
theorem below_setRow {B : Nat} {a w : World} (h : Below B a w) {g : Nat} {cs : Array Value} (hg : B ≤ g) : Below B a (w.setRow g cs) :=
  h.trans ⟨rfl, rfl, rfl, by simp [World.setRow], fun k hk => heap_setRow_ne _ _ _ _ (by omega)⟩
theorem Captured.setRow {w : World} {b g : Nat} {f : Value} {cs : Array Value} (h : Captured w b f) (hne : b ≠ g) : Captured (w.setRow g cs) b f :=
  (World.cell?_of_block (w := w) (heap_setRow_ne w g cs b hne)).trans h

theorem ne_of_lt' {w : World} {m : Nat} (h : m < w.heap.size) : w.heap.size ≠ m := by omega

theorem gives_truth (n : Int) (f m : Nat) (w : World) (hm : m < w.heap.size) : Gives 52 #[.int .i64 n, .func (.func f) #[] #[]] w fun v w' => FnIs m w' v (.plain n n false 113 f) ∧ Below w.heap.size w w' :=
  Calls.mono (truth_any n (.func f) #[] #[] w) fun _ _ ⟨he, hc, hb⟩ => ⟨_, he, ⟨_, rfl, ne_of_lt' hm, hc⟩, hb⟩
theorem gives_number (n : Int) (f m : Nat) (w : World) (hm : m < w.heap.size) : Gives 58 #[.int .i64 n, .func (.func f) #[] #[]] w fun v w' => FnIs m w' v (.plain n 1 false 115 f) ∧ Below w.heap.size w w' :=
  Calls.mono (number_any n (.func f) #[] #[] w) fun _ _ ⟨he, hc, hb⟩ => ⟨_, he, ⟨_, rfl, ne_of_lt' hm, hc⟩, hb⟩
theorem gives_text (l n : Int) (f m : Nat) (w : World) (hm : m < w.heap.size) : Gives 75 #[.int .i64 l, .int .i64 n, .func (.func f) #[] #[]] w fun v w' => FnIs m w' v (.plain l n false 124 f) ∧ Below w.heap.size w w' :=
  Calls.mono (text_any l n (.func f) #[] #[] w) fun _ _ ⟨he, hc, hb⟩ => ⟨_, he, ⟨_, rfl, ne_of_lt' hm, hc⟩, hb⟩

set_option maxRecDepth 100000 in
set_option maxHeartbeats 400000 in
theorem gives_named (f m : Nat) (w : World) (hm : m < w.heap.size) : Gives 71 #[.func (.func f) #[] #[]] w fun v w' => FnIs m w' v (.named f) ∧ Below w.heap.size w w' := by
  unfold Gives
  go_enter Tryz.func71, Tryz.ntmps71
  go_wp2_with fail
  refine (text_any 0 1 (.func 122) #[] #[.pointer (some ⟨w.heap.size, 0, none⟩)] _).mono ?_
  rintro e w1 ⟨rfl, hc1, hb1⟩
  simp only [fnRow]
  go_wp2_with fail
  refine (ofNodes_any 0 1 false (.func 124) #[] #[.pointer (some ⟨w.heap.size + 1 + 1, 0, none⟩)] _).mono ?_
  rintro e w2 ⟨rfl, hb2⟩
  simp only [fnRow]
  have hb := below_then hb1 hb1.size hb2
  have hg2 : w2.heap[w.heap.size + 1]? = some (.cells #[.int .i64 0, .int .i64 0, .bool false, .nilFunc] 82 (0, 0)) := (hb.block _ (by simp)).trans (heap_alloc2_new w _ _)
  have hg1 : w2.heap[w.heap.size]? = some (.cells #[.func (.func f) #[] #[]] 122 (0, 0)) := (hb.block _ (by simp; omega)).trans (heap_alloc2_old w _ _)
  refine ‹∀ a w, wpList _ _ _ _ a w → _› _ _ ?_
  refine wpList_store_row rfl 82 (.tmp 2) (.tmp 5) rfl (w.heap.size + 1) #[.int .i64 0, .int .i64 1, .bool true, .func (.func 124) #[] #[.pointer (some ⟨w.heap.size + 1 + 1, 0, none⟩)]] rfl rfl 82 _ hg2 (by kernel_rfl) rfl (by simp [Value.oneCell']) ?_
  go_wp2_with fail
  refine bodyPost_ret (results_cell_row Tryz.results71 _ _ (w.heap.size + 1) 82 _ (0, 0) _ rfl (setRow_heap w2 _ _ _ 82 _ hg2) Tryz.underlying82 rfl (by kernel_rfl)) rfl ⟨_, rfl, ⟨w.heap.size + 1 + 1, w.heap.size, rfl, by omega, by omega, ?_, ?_⟩, ?_⟩
  · have hc2 : Captured w2 (w.heap.size + 1 + 1) (.func (.func 122) #[] #[.pointer (some ⟨w.heap.size, 0, none⟩)]) := by simpa using hc1.below hb2
    exact hc2.setRow (by omega)
  · refine Captured.setRow ?_ (by omega)
    simp [Captured, World.cell?, hg1]
  · exact below_setRow (((Below.refl _ _).alloc (Nat.le_refl _) _).alloc (by simp) _ |>.trans (hb.mono (B' := w.heap.size) (by simp; omega))) (g := w.heap.size + 1) (by omega)
theorem gives_numberN (n : Int) (f m : Nat) (w : World) (_ : m < w.heap.size) {v : Value} (h : FnIs m w v (.plain n 1 false 115 f)) : Gives 67 #[v] w fun v' w' => FnIs m w' v' (.plain n 1 true 115 f) ∧ Below w.heap.size w w' := by
  obtain ⟨b, rfl, hb, hc⟩ := h
  exact Calls.mono (ofNodes_any n 1 false (.func 115) #[] #[.pointer (some ⟨b, 0, none⟩)] w) fun _ _ ⟨he, hb'⟩ => ⟨_, he, ⟨b, rfl, hb, hc.below hb'⟩, hb'⟩

section
variable {w0 w : World} {m : Nat} {rs : List (ByteArray × FnDesc)} {a : Act} {ops : Array Oper} {rest : List Oper} {Q : Exit → Act → World → Prop}
theorem step_truth (hI : FInv w0 m rs a w) (i : Nat) (hi : i ≠ 1) (hi' : i < 32) (k : ByteArray) (n : Int) (f : Nat) (hnew : rowAt k rs = none) {tys : Array TypeId} {ty ty' : TypeId} {pos pos' : String} {af af' : Array Edge}
    (hK : ∀ a' w', FInv w0 m (rs ++ [(k, .plain n n false 113 f)]) a' w' → wpList Tryz.prog ops Q rest a' w') :
    wpList Tryz.prog ops Q (⟨some i, .call ⟨.value (.func 52), #[.const (.int .i64 n), .func f], tys⟩, ty, pos, af, none⟩ :: ⟨none, .insert 83 (.tmp 1) (.const (.string k)) (.tmp i), ty', pos', af', none⟩ :: rest) a w :=
  step_row hI i 52 hi hi' k _ #[.int .i64 n, .func (.func f) #[] #[]] _ (fun a => by simp [Act.eval]) (Tryz.call52 _) (fun w hm => gives_truth n f m w hm) hnew hK
theorem step_number (hI : FInv w0 m rs a w) (i : Nat) (hi : i ≠ 1) (hi' : i < 32) (k : ByteArray) (n : Int) (f : Nat) (hnew : rowAt k rs = none) {tys : Array TypeId} {ty ty' : TypeId} {pos pos' : String} {af af' : Array Edge}
    (hK : ∀ a' w', FInv w0 m (rs ++ [(k, .plain n 1 false 115 f)]) a' w' → wpList Tryz.prog ops Q rest a' w') :
    wpList Tryz.prog ops Q (⟨some i, .call ⟨.value (.func 58), #[.const (.int .i64 n), .func f], tys⟩, ty, pos, af, none⟩ :: ⟨none, .insert 83 (.tmp 1) (.const (.string k)) (.tmp i), ty', pos', af', none⟩ :: rest) a w :=
  step_row hI i 58 hi hi' k _ #[.int .i64 n, .func (.func f) #[] #[]] _ (fun a => by simp [Act.eval]) (Tryz.call58 _) (fun w hm => gives_number n f m w hm) hnew hK
theorem step_text (hI : FInv w0 m rs a w) (i : Nat) (hi : i ≠ 1) (hi' : i < 32) (k : ByteArray) (l n : Int) (f : Nat) (hnew : rowAt k rs = none) {tys : Array TypeId} {ty ty' : TypeId} {pos pos' : String} {af af' : Array Edge}
    (hK : ∀ a' w', FInv w0 m (rs ++ [(k, .plain l n false 124 f)]) a' w' → wpList Tryz.prog ops Q rest a' w') :
    wpList Tryz.prog ops Q (⟨some i, .call ⟨.value (.func 75), #[.const (.int .i64 l), .const (.int .i64 n), .func f], tys⟩, ty, pos, af, none⟩ :: ⟨none, .insert 83 (.tmp 1) (.const (.string k)) (.tmp i), ty', pos', af', none⟩ :: rest) a w :=
  step_row hI i 75 hi hi' k _ #[.int .i64 l, .int .i64 n, .func (.func f) #[] #[]] _ (fun a => by simp [Act.eval]) (Tryz.call75 _) (fun w hm => gives_text l n f m w hm) hnew hK
theorem step_named (hI : FInv w0 m rs a w) (i : Nat) (hi : i ≠ 1) (hi' : i < 32) (k : ByteArray) (f : Nat) (hnew : rowAt k rs = none) {tys : Array TypeId} {ty ty' : TypeId} {pos pos' : String} {af af' : Array Edge}
    (hK : ∀ a' w', FInv w0 m (rs ++ [(k, .named f)]) a' w' → wpList Tryz.prog ops Q rest a' w') :
    wpList Tryz.prog ops Q (⟨some i, .call ⟨.value (.func 71), #[.func f], tys⟩, ty, pos, af, none⟩ :: ⟨none, .insert 83 (.tmp 1) (.const (.string k)) (.tmp i), ty', pos', af', none⟩ :: rest) a w :=
  step_row hI i 71 hi hi' k _ #[.func (.func f) #[] #[]] _ (fun a => by simp [Act.eval]) (Tryz.call71 _) (fun w hm => gives_named f m w hm) hnew hK
theorem step_numberN (hI : FInv w0 m rs a w) (i j : Nat) (hi : i ≠ 1) (hi' : i < 32) (hj : j ≠ 1) (hj' : j < 32) (k : ByteArray) (n : Int) (f : Nat) (hnew : rowAt k rs = none) {tys tys2 : Array TypeId} {ty ty' ty2 : TypeId} {pos pos' pos2 : String} {af af' af2 : Array Edge}
    (hK : ∀ a' w', FInv w0 m (rs ++ [(k, .plain n 1 true 115 f)]) a' w' → wpList Tryz.prog ops Q rest a' w') :
    wpList Tryz.prog ops Q (⟨some i, .call ⟨.value (.func 58), #[.const (.int .i64 n), .func f], tys⟩, ty, pos, af, none⟩ :: ⟨some j, .call ⟨.value (.func 67), #[.tmp i], tys2⟩, ty2, pos2, af2, none⟩ :: ⟨none, .insert 83 (.tmp 1) (.const (.string k)) (.tmp j), ty', pos', af', none⟩ :: rest) a w := by
  refine wpList_call_gives rfl 58 _ tys rfl #[.int .i64 n, .func (.func f) #[] #[]] (by simp [Act.eval]) (Tryz.call58 _) (gives_number n f m w hI.table.lt) fun v w1 ⟨hd, hb⟩ => ?_
  have hI1 := hI.put i hi v hb
  refine wpList_call_gives rfl 67 _ tys2 rfl #[v] (by simp [eval_put (show i < a.tmps.size by rw [hI.size]; exact hi') v]) (Tryz.call67 _) (gives_numberN n f m w1 hI1.table.lt hd) fun v2 w2 ⟨hd2, hb2⟩ => ?_
  exact step_insert (hI1.put j hj v2 hb2) j k v2 _ (eval_put (by rw [hI1.size]; exact hj') v2) hd2 hnew hK
end

theorem step_build {w0 w : World} {m : Nat} {rs : List (ByteArray × FnDesc)} {a : Act} {ops : Array Oper} {rest : List Oper} {Q : Exit → Act → World → Prop} (hI : FInv w0 m rs a w) (i : Nat) (hi : i ≠ 1) (hi' : i < 32) (k : ByteArray) (parts : Array (Nat × Operand)) (v : Value) (d : FnDesc)
    (hrun : ∀ (a : Act) (w : World), (Instr.build 82 (parts.map fun (i, x) => (i, a.eval x))).run Tryz.prog w = .ok v w) (hd : ∀ w, FnIs m w v d) (hnew : rowAt k rs = none) {ty ty' : TypeId} {pos pos' : String} {af af' : Array Edge}
    (hK : ∀ a' w', FInv w0 m (rs ++ [(k, d)]) a' w' → wpList Tryz.prog ops Q rest a' w') :
    wpList Tryz.prog ops Q (⟨some i, .build 82 parts, ty, pos, af, none⟩ :: ⟨none, .insert 83 (.tmp 1) (.const (.string k)) (.tmp i), ty', pos', af', none⟩ :: rest) a w := by
  refine wpList_plain rfl fun K hK' => ?_
  unfold Oper.wp execOp
  simp only [Sem.run_bind, hrun, Result.andThen_ok, Sem.run_pure]
  exact hK' _ _ (step_insert (hI.put i hi v (Below.refl _ _)) i k v d (eval_put (by rw [hI.size]; exact hi') v) (hd w) hnew hK)

theorem wpList_move {P : Program} {ops : Array Oper} {rest : List Oper} {o : Oper} {a : Act} {Q : Exit → Act → World → Prop} {w : World} (hg : o.guard = none) (x : Operand) (hop : o.op = .move x ∨ o.op = .assign x)
    (hK : wpList P ops Q rest (a.put o.dst (a.eval x)) w) : wpList P ops Q (o :: rest) a w := by
  refine wpList_plain hg fun K hK' => ?_
  unfold Oper.wp execOp
  rcases hop with hop | hop <;> simp only [hop, Sem.run_pure] <;> exact hK' _ _ hK

theorem step_makeMap {ops : Array Oper} {rest : List Oper} {Q : Exit → Act → World → Prop} {a : Act} {w : World} (hs : a.tmps.size = 32) (hd : a.defers = []) {ty : TypeId} {pos : String} {af : Array Edge}
    (hK : ∀ a' w', FInv w w.heap.size [] a' w' → wpList Tryz.prog ops Q rest a' w') : wpList Tryz.prog ops Q (⟨some 1, .makeMap 83 none, ty, pos, af, none⟩ :: rest) a w := by
  refine wpList_plain rfl fun K hK' => ?_
  unfold Oper.wp execOp
  have hmm := @run_makeMap Tryz.prog
  simp only [Option.map_none, hmm, Sem.run_bind, Result.andThen_ok, Sem.run_pure]
  refine hK' _ _ (hK _ _ { size := ?_, map := ?_, defers := ?_, ge := Nat.le_refl _, below := (Below.refl _ _).alloc (Nat.le_refl _) _, table := ⟨#[], 0, (MapKept.heap_alloc w _).1, trivial⟩ })
  · simp [Act.put, hs]
  · simp [Act.put, hs]
  · exact hd

set_option maxRecDepth 100000 in
set_option maxHeartbeats 1000000 in
theorem functions_any (w : World) :
    Gives 32 #[] w fun v w' => v = .map (some w.heap.size) ∧ TableIs w' w.heap.size fnTable ∧ Below w.heap.size w w' := by
  unfold Gives
  go_enter Tryz.func32, Tryz.ntmps32
  go_step
  go_step
  go_step
  go_step
  go_step
  go_step
  go_step
  go_step
  go_step
  go_step
  go_step
  refine step_makeMap rfl rfl fun a w1 h => ?_
  refine step_build h 2 (by decide) (by decide) _ _ (fnRow 0 0 false .nilFunc) (.none 0 0) (fun a w => by simp [Act.eval, go_sem, fnRow]) (fun _ => rfl) (by decide +kernel) fun a w1 h => ?_
  refine step_build h 3 (by decide) (by decide) _ _ (fnRow 0 0 false .nilFunc) (.none 0 0) (fun a w => by simp [Act.eval, go_sem, fnRow]) (fun _ => rfl) (by decide +kernel) fun a w1 h => ?_
  refine step_build h 4 (by decide) (by decide) _ _ (fnRow 1 1 false .nilFunc) (.none 1 1) (fun a w => by simp [Act.eval, go_sem, fnRow]) (fun _ => rfl) (by decide +kernel) fun a w1 h => ?_
  refine step_truth h 5 (by decide) (by decide) _ _ _ (by decide +kernel) fun a w1 h => ?_
  refine step_truth h 6 (by decide) (by decide) _ _ _ (by decide +kernel) fun a w1 h => ?_
  refine step_truth h 7 (by decide) (by decide) _ _ _ (by decide +kernel) fun a w1 h => ?_
  refine step_truth h 8 (by decide) (by decide) _ _ _ (by decide +kernel) fun a w1 h => ?_
  refine step_number h 9 (by decide) (by decide) _ _ _ (by decide +kernel) fun a w1 h => ?_
  refine step_number h 10 (by decide) (by decide) _ _ _ (by decide +kernel) fun a w1 h => ?_
  refine step_number h 11 (by decide) (by decide) _ _ _ (by decide +kernel) fun a w1 h => ?_
  refine step_number h 12 (by decide) (by decide) _ _ _ (by decide +kernel) fun a w1 h => ?_
  refine step_numberN h 13 14 (by decide) (by decide) (by decide) (by decide) _ _ _ (by decide +kernel) fun a w1 h => ?_
  refine step_numberN h 15 16 (by decide) (by decide) (by decide) (by decide) _ _ _ (by decide +kernel) fun a w1 h => ?_
  refine step_named h 17 (by decide) (by decide) _ _ (by decide +kernel) fun a w1 h => ?_
  refine step_named h 18 (by decide) (by decide) _ _ (by decide +kernel) fun a w1 h => ?_
  refine step_named h 19 (by decide) (by decide) _ _ (by decide +kernel) fun a w1 h => ?_
  refine step_text h 20 (by decide) (by decide) _ _ _ _ (by decide +kernel) fun a w1 h => ?_
  refine step_text h 21 (by decide) (by decide) _ _ _ _ (by decide +kernel) fun a w1 h => ?_
  refine step_number h 22 (by decide) (by decide) _ _ _ (by decide +kernel) fun a w1 h => ?_
  refine step_text h 23 (by decide) (by decide) _ _ _ _ (by decide +kernel) fun a w1 h => ?_
  refine step_truth h 24 (by decide) (by decide) _ _ _ (by decide +kernel) fun a w1 h => ?_
  refine step_truth h 25 (by decide) (by decide) _ _ _ (by decide +kernel) fun a w1 h => ?_
  refine step_text h 26 (by decide) (by decide) _ _ _ _ (by decide +kernel) fun a w1 h => ?_
  refine step_text h 27 (by decide) (by decide) _ _ _ _ (by decide +kernel) fun a w1 h => ?_
  refine step_text h 28 (by decide) (by decide) _ _ _ _ (by decide +kernel) fun a w1 h => ?_
  refine step_text h 29 (by decide) (by decide) _ _ _ _ (by decide +kernel) fun a w1 h => ?_
  refine step_build h 30 (by decide) (by decide) _ _ (fnRow 2 2 false (.func (.func 91) #[] #[])) (.bare 2 2 91) (fun a w => by simp [Act.eval, go_sem, fnRow]) (fun _ => rfl) (by decide +kernel) fun a w1 h => ?_
  refine wpList_move rfl _ (.inl rfl) ?_
  refine wpList_move rfl _ (.inr rfl) ?_
  refine wpList_nil ?_
  refine ‹∀ a w, Code.wp _ _ _ a w → _› _ _ (wp_ret ?_)
  have h31 : (a.put (some 31) (a.eval (.tmp 1))).eval (.tmp 31) = .map (some w.heap.size) := by rw [eval_put (by rw [h.size]; decide), h.eval_map]
  refine bodyPost_ret (v := .map (some w.heap.size)) ?_ h.defers ⟨_, rfl, rfl, h.table, h.below⟩
  rw [results_tmp Tryz.results32]
  have hs := h.size
  show Result.ok ((((a.put (some 31) (a.eval (.tmp 1))).put (some 0) ((a.put (some 31) (a.eval (.tmp 1))).eval (.tmp 31)))).eval (.tmp 0)) _ = _
  rw [eval_put (by simp [Act.put, hs]), h31]
end Go.Proofs.YtaadhehcoegmhaaGreatDoor
/- A value as a text, as a number; the arguments of a function of values, read. -/
namespace Go.Proofs.YtaadhehcoegmhaaGreatDoor
open Go Go.RowKit

theorem cell_alloc {w : World} {a : Addr} {v : Value} (h : w.cell? a = some v) (o : Obj) : (w.alloc o).cell? a = some v :=
  (World.cell?_of_block (w := w) (Below.heap_alloc w o a.block (World.block_lt_of_cell? w _ h))).trans h

/-- A value that is a text or a number. -/
inductive GV where
  | text (s : ByteArray)
  | num (k v : Int)
/-- Its six cells. -/
def GV.cells : GV → List Value
  | .text s => [.int .i64 2, .slice none 0 0, .int .i64 0, .int .i64 0, .string s, .bool false]
  | .num k v => [.int .i64 1, .slice none 0 0, .int .i64 k, .int .i64 v, .string ⟨#[]⟩, .bool false]
def GV.val (x : GV) : Value := .agg x.cells.toArray

/-- The slice v reads as these values. -/
def ArgsAt (w : World) (v : Value) (xs : List GV) : Prop :=
  ∃ b cap, v = .slice (some ⟨b, 0, none⟩) xs.length cap ∧ xs.length ≤ 1000 ∧ ∀ i x, xs[i]? = some x → ∀ j c, x.cells[j]? = some c → w.cell? ⟨b, i * 6 + j, none⟩ = some c
theorem ArgsAt.below {w w' : World} {v : Value} {xs : List GV} (h : ArgsAt w v xs) (hb : Below w.heap.size w w') : ArgsAt w' v xs := by
  obtain ⟨b, cap, h1, h2, h3⟩ := h
  refine ⟨b, cap, h1, h2, fun i x hx j c hc => ?_⟩
  have := h3 i x hx j c hc
  exact (hb.cell (World.block_lt_of_cell? w _ this)).trans this

set_option maxRecDepth 100000 in
set_option maxHeartbeats 400000 in
theorem string_text (t : Value) (s : ByteArray) (w : World) :
    Calls Tryz.prog 125 #[t, vText s] w fun e w' => e = .returned (.string s) ∧ Below w.heap.size w w' := by
  unfold vText
  go_enter Tryz.func125, Tryz.ntmps125
  go_wp2
  go_ret
  exact ⟨rfl, (Below.refl _ _).alloc (Nat.le_refl _) _⟩

set_option maxRecDepth 100000 in
set_option maxHeartbeats 400000 in
theorem number_num (t : Value) (k v : Int) (w : World) :
    Calls Tryz.prog 116 #[t, vNum k v] w fun e w' => e = .returned (.agg #[.int .i64 k, .int .i64 v]) ∧ Below w.heap.size w w' := by
  unfold vNum
  go_enter Tryz.func116, Tryz.ntmps116
  go_wp2
  refine bodyPost_ret (v := .agg #[.int .i64 k, .int .i64 v]) (by simp [results, Tryz.results116, go_sem]) rfl ⟨rfl, ((Below.refl _ _).alloc (Nat.le_refl _) _).alloc (by simp) _⟩

set_option maxRecDepth 100000 in
set_option maxHeartbeats 400000 in
theorem str_any (t sl : Value) (xs : List GV) (i : Nat) (s : ByteArray) (w : World) (h : ArgsAt w sl xs) (hi : xs[i]? = some (.text s)) :
    Calls Tryz.prog 77 #[.agg #[t, sl], .int .i64 i] w fun e w' => e = .returned (.string s) ∧ Below w.heap.size w w' := by
  obtain ⟨b, cap, rfl, hl, hc⟩ := h
  have hlt : i < xs.length := (List.getElem?_eq_some_iff.1 hi).1
  have c0 := hc i _ hi 0 _ rfl
  have c1 := hc i _ hi 1 _ rfl
  have c2 := hc i _ hi 2 _ rfl
  have c3 := hc i _ hi 3 _ rfl
  have c4 := hc i _ hi 4 _ rfl
  have c5 := hc i _ hi 5 _ rfl
  rw [Nat.add_zero] at c0
  clear hc hi
  replace c0 := cell_alloc c0 (.cells #[t, .slice (some ⟨b, 0, none⟩) xs.length cap] 88)
  replace c1 := cell_alloc c1 (.cells #[t, .slice (some ⟨b, 0, none⟩) xs.length cap] 88)
  replace c2 := cell_alloc c2 (.cells #[t, .slice (some ⟨b, 0, none⟩) xs.length cap] 88)
  replace c3 := cell_alloc c3 (.cells #[t, .slice (some ⟨b, 0, none⟩) xs.length cap] 88)
  replace c4 := cell_alloc c4 (.cells #[t, .slice (some ⟨b, 0, none⟩) xs.length cap] 88)
  replace c5 := cell_alloc c5 (.cells #[t, .slice (some ⟨b, 0, none⟩) xs.length cap] 88)
  go_enter Tryz.func77, Tryz.ntmps77
  go_wp2_with fail
  refine wp_region_still_tail 7 (by kernel_rfl) (by kernel_rfl) ?_
  simp only [List.take_succ_cons, List.take_zero, List.drop_succ_cons, List.drop_zero]
  change wpStill _ _ (World.alloc _ _).drew _ _ _
  have i0 : (0 : Int) ≤ i := by omega
  have i1 : (i : Int) < xs.length := by omega
  repeat still_step
  refine wpStill_nil ?_
  change wpList _ _ _ _ _ (World.alloc _ _).drew
  go_wp2_with fail
  refine (string_text t s _).mono ?_
  rintro e w1 ⟨rfl, hb⟩
  go_wp2_with fail
  go_ret
  exact ⟨rfl, (((Below.refl _ _).alloc (Nat.le_refl _) _).drew.trans (hb.mono (by simp)))⟩
end Go.Proofs.YtaadhehcoegmhaaGreatDoor
/- The closures round a function of values: what they hand back. -/
namespace Go.Proofs.YtaadhehcoegmhaaGreatDoor
open Go Go.RowKit

theorem results_cell_tmp {P : Program} {fn : Func} {p r : Tmp} {ty : TypeId} (h : fn.results = #[.cell p ty, .tmp r]) (tmps : Array Value) (w : World) (g : Nat) (t : TypeId) (cs : Array Value) (fr : Nat × Nat) (d : TypeDesc)
    (hp : tmps.getD p undef = .pointer (some ⟨g, 0, none⟩)) (hg : w.heap[g]? = some (.cells cs t fr))
    (hu : P.underlying ty = some d) (hd : (match d with | .struct _ | .array _ _ => true | _ => false) = true) (hi : (P.info? ty).map (·.size) = some cs.size) :
    (results fn tmps).run P w = .ok (.tuple #[.agg cs, tmps.getD r undef]) w := by
  have hp' : tmps[p]?.getD undef = .pointer (some ⟨g, 0, none⟩) := by simpa using hp
  simp [results, h, hp', asAddr, run_loadVar_row w g t ty cs fr d hg hu hd hi]

/-- The zero value of a value. -/
def vZero : Value := .agg #[.int .i64 0, .slice none 0 0, .int .i64 0, .int .i64 0, .string ⟨#[]⟩, .bool false]
def vBool (x : Bool) : Value := .agg #[.int .i64 3, .slice none 0 0, .int .i64 0, .int .i64 0, .string ⟨#[]⟩, .bool x]

set_option maxRecDepth 100000 in
set_option maxHeartbeats 400000 in
theorem num_any (t sl : Value) (xs : List GV) (i : Nat) (k v : Int) (w : World) (h : ArgsAt w sl xs) (hi : xs[i]? = some (.num k v)) :
    Calls Tryz.prog 60 #[.agg #[t, sl], .int .i64 i] w fun e w' => e = .returned (.agg #[.int .i64 k, .int .i64 v]) ∧ Below w.heap.size w w' := by
  obtain ⟨b, cap, rfl, hl, hc⟩ := h
  have hlt : i < xs.length := (List.getElem?_eq_some_iff.1 hi).1
  have c0 := hc i _ hi 0 _ rfl
  have c1 := hc i _ hi 1 _ rfl
  have c2 := hc i _ hi 2 _ rfl
  have c3 := hc i _ hi 3 _ rfl
  have c4 := hc i _ hi 4 _ rfl
  have c5 := hc i _ hi 5 _ rfl
  rw [Nat.add_zero] at c0
  clear hc hi
  replace c0 := cell_alloc (cell_alloc c0 (.cells #[t, .slice (some ⟨b, 0, none⟩) xs.length cap] 88)) (.cells #[.int .i64 0, .int .i64 0] 29)
  replace c1 := cell_alloc (cell_alloc c1 (.cells #[t, .slice (some ⟨b, 0, none⟩) xs.length cap] 88)) (.cells #[.int .i64 0, .int .i64 0] 29)
  replace c2 := cell_alloc (cell_alloc c2 (.cells #[t, .slice (some ⟨b, 0, none⟩) xs.length cap] 88)) (.cells #[.int .i64 0, .int .i64 0] 29)
  replace c3 := cell_alloc (cell_alloc c3 (.cells #[t, .slice (some ⟨b, 0, none⟩) xs.length cap] 88)) (.cells #[.int .i64 0, .int .i64 0] 29)
  replace c4 := cell_alloc (cell_alloc c4 (.cells #[t, .slice (some ⟨b, 0, none⟩) xs.length cap] 88)) (.cells #[.int .i64 0, .int .i64 0] 29)
  replace c5 := cell_alloc (cell_alloc c5 (.cells #[t, .slice (some ⟨b, 0, none⟩) xs.length cap] 88)) (.cells #[.int .i64 0, .int .i64 0] 29)
  go_enter Tryz.func60, Tryz.ntmps60
  go_wp2_with fail
  refine wp_region_still_tail 7 (by kernel_rfl) (by kernel_rfl) ?_
  simp only [List.take_succ_cons, List.take_zero, List.drop_succ_cons, List.drop_zero]
  change wpStill _ _ (World.alloc _ _).drew _ _ _
  have i0 : (0 : Int) ≤ i := by omega
  have i1 : (i : Int) < xs.length := by omega
  repeat still_step
  refine wpStill_nil ?_
  change wpList _ _ _ _ _ (World.alloc _ _).drew
  go_wp2_with fail
  refine (number_num t k v _).mono ?_
  rintro e w1 ⟨rfl, hb⟩
  have hg : w1.heap[w.heap.size + 1]? = some (.cells #[.int .i64 0, .int .i64 0] 29 (0, 0)) := (hb.block _ (by simp)).trans (heap_alloc2_new w _ _)
  dsimp only
  refine ‹∀ a w, wpList _ _ _ _ a w → _› _ _ ?_
  refine wpList_store_row rfl 29 (.tmp 4) (.tmp 12) rfl (w.heap.size + 1) #[.int .i64 k, .int .i64 v] rfl rfl 29 _ hg (by kernel_rfl) rfl (by simp [Value.oneCell']) ?_
  go_wp2_with fail
  refine bodyPost_ret (results_cell_row Tryz.results60 _ _ (w.heap.size + 1) 29 _ (0, 0) _ rfl (setRow_heap w1 _ _ _ 29 _ hg) Tryz.underlying29 rfl (by kernel_rfl)) rfl ⟨rfl, ?_⟩
  exact below_setRow ((((Below.refl _ _).alloc (Nat.le_refl _) _).alloc (by simp) _).drew.trans (hb.mono (B' := w.heap.size) (by simp; omega))) (g := w.heap.size + 1) (by omega)

set_option maxRecDepth 100000 in
set_option maxHeartbeats 400000 in
/-- A text that isn't too long is handed back. -/
theorem text1_any (f b : Nat) (t sl : Value) (s : ByteArray) (hle : s.size ≤ 32768) (w : World) (hen : ∀ args w, (callFunc f args).run Tryz.prog w = .ok (.enter f args) w) (hcap : Captured w b (.func (.func f) #[] #[]))
    (hin : ∀ w1, Below w.heap.size w w1 → Calls Tryz.prog f #[.agg #[t, sl]] w1 fun e w' => e = .returned (.string s) ∧ Below w1.heap.size w1 w') :
    Calls Tryz.prog 124 #[.agg #[t, sl], .pointer (some ⟨b, 0, none⟩)] w fun e w' => e = .returned (.tuple #[vText s, .int .i64 0]) ∧ Below w.heap.size w w' := by
  have hc := cell_alloc (cell_alloc hcap (.cells #[t, sl] 88)) (.cells #[.int .i64 0, .slice none 0 0, .int .i64 0, .int .i64 0, .string ⟨#[]⟩, .bool false] 31)
  have Hin := Lib.hid hin
  clear hin hcap
  go_enter Tryz.func124, Tryz.ntmps124
  go_wp2_with fail
  refine (Hin.out _ (((Below.refl _ _).alloc (Nat.le_refl _) _).alloc (by simp) _)).mono ?_
  rintro e w1 ⟨rfl, hb⟩
  dsimp only
  have hg : w1.heap[w.heap.size + 1]? = some (.cells #[.int .i64 0, .slice none 0 0, .int .i64 0, .int .i64 0, .string ⟨#[]⟩, .bool false] 31 (0, 0)) := (hb.block _ (by simp)).trans (heap_alloc2_new w _ _)
  have hbb : Below w.heap.size w w1 := ((Below.refl _ _).alloc (Nat.le_refl _) _).alloc (by simp) _ |>.trans (hb.mono (B' := w.heap.size) (by simp; omega))
  clear hb hc Hin
  go_wp2_with (refine wpList_store_row rfl 31 (.tmp 3) (.tmp 14) rfl (w.heap.size + 1) #[.int .i64 2, .slice none 0 0, .int .i64 0, .int .i64 0, .string s, .bool false] rfl rfl 31 _ hg (by kernel_rfl) rfl (by simp [Value.oneCell']) ?_)
  exact bodyPost_ret (results_cell_tmp Tryz.results124 _ _ (w.heap.size + 1) 31 _ (0, 0) _ rfl (setRow_heap w1 _ _ _ 31 _ hg) Tryz.underlying31 rfl (by kernel_rfl)) rfl ⟨rfl, below_setRow hbb (by omega)⟩

set_option maxRecDepth 100000 in
set_option maxHeartbeats 400000 in
/-- A longer text is refused. -/
theorem text1_long (f b : Nat) (t sl : Value) (s : ByteArray) (hle : 32768 < s.size) (hs : s.size ≤ 9223372036854775807) (w : World) (hen : ∀ args w, (callFunc f args).run Tryz.prog w = .ok (.enter f args) w) (hcap : Captured w b (.func (.func f) #[] #[]))
    (hin : ∀ w1, Below w.heap.size w w1 → Calls Tryz.prog f #[.agg #[t, sl]] w1 fun e w' => e = .returned (.string s) ∧ Below w1.heap.size w1 w') :
    Calls Tryz.prog 124 #[.agg #[t, sl], .pointer (some ⟨b, 0, none⟩)] w fun e w' => e = .returned (.tuple #[vZero, .int .i64 6]) ∧ Below w.heap.size w w' := by
  have hc := cell_alloc (cell_alloc hcap (.cells #[t, sl] 88)) (.cells #[.int .i64 0, .slice none 0 0, .int .i64 0, .int .i64 0, .string ⟨#[]⟩, .bool false] 31)
  have Hin := Lib.hid hin
  clear hin hcap
  go_enter Tryz.func124, Tryz.ntmps124
  go_wp2_with fail
  refine (Hin.out _ (((Below.refl _ _).alloc (Nat.le_refl _) _).alloc (by simp) _)).mono ?_
  rintro e w1 ⟨rfl, hb⟩
  dsimp only
  have hg : w1.heap[w.heap.size + 1]? = some (.cells #[.int .i64 0, .slice none 0 0, .int .i64 0, .int .i64 0, .string ⟨#[]⟩, .bool false] 31 (0, 0)) := (hb.block _ (by simp)).trans (heap_alloc2_new w _ _)
  have hbb : Below w.heap.size w w1 := ((Below.refl _ _).alloc (Nat.le_refl _) _).alloc (by simp) _ |>.trans (hb.mono (B' := w.heap.size) (by simp; omega))
  clear hb hc Hin
  go_wp2_with (refine wpList_store_row rfl 31 (.tmp 3) (.tmp 12) rfl (w.heap.size + 1) #[.int .i64 0, .slice none 0 0, .int .i64 0, .int .i64 0, .string ⟨#[]⟩, .bool false] rfl rfl 31 _ hg (by kernel_rfl) rfl (by simp [Value.oneCell']) ?_)
  exact bodyPost_ret (results_cell_tmp Tryz.results124 _ _ (w.heap.size + 1) 31 _ (0, 0) _ rfl (setRow_heap w1 _ _ _ 31 _ hg) Tryz.underlying31 rfl (by kernel_rfl)) rfl ⟨rfl, below_setRow hbb (by omega)⟩

set_option maxRecDepth 100000 in
set_option maxHeartbeats 400000 in
/-- A truth. -/
theorem truth1_any (f b : Nat) (t sl : Value) (x : Bool) (w : World) (hen : ∀ args w, (callFunc f args).run Tryz.prog w = .ok (.enter f args) w) (hcap : Captured w b (.func (.func f) #[] #[]))
    (hin : ∀ w1, Below w.heap.size w w1 → Calls Tryz.prog f #[.agg #[t, sl]] w1 fun e w' => e = .returned (.bool x) ∧ Below w1.heap.size w1 w') :
    Calls Tryz.prog 113 #[.agg #[t, sl], .pointer (some ⟨b, 0, none⟩)] w fun e w' => e = .returned (.tuple #[vBool x, .int .i64 0]) ∧ Below w.heap.size w w' := by
  have hc := cell_alloc (cell_alloc hcap (.cells #[t, sl] 88)) (.cells #[.int .i64 0, .slice none 0 0, .int .i64 0, .int .i64 0, .string ⟨#[]⟩, .bool false] 31)
  have Hin := Lib.hid hin
  clear hin hcap
  go_enter Tryz.func113, Tryz.ntmps113
  go_wp2_with fail
  refine (Hin.out _ (((Below.refl _ _).alloc (Nat.le_refl _) _).alloc (by simp) _)).mono ?_
  rintro e w1 ⟨rfl, hb⟩
  dsimp only
  have hg : w1.heap[w.heap.size + 1]? = some (.cells #[.int .i64 0, .slice none 0 0, .int .i64 0, .int .i64 0, .string ⟨#[]⟩, .bool false] 31 (0, 0)) := (hb.block _ (by simp)).trans (heap_alloc2_new w _ _)
  have hbb : Below w.heap.size w w1 := ((Below.refl _ _).alloc (Nat.le_refl _) _).alloc (by simp) _ |>.trans (hb.mono (B' := w.heap.size) (by simp; omega))
  clear hb hc Hin
  go_wp2_with (refine wpList_store_row rfl 31 (.tmp 3) (.tmp 8) rfl (w.heap.size + 1) #[.int .i64 3, .slice none 0 0, .int .i64 0, .int .i64 0, .string ⟨#[]⟩, .bool x] rfl rfl 31 _ hg (by kernel_rfl) rfl (by simp [Value.oneCell']) ?_)
  exact bodyPost_ret (results_cell_tmp Tryz.results113 _ _ (w.heap.size + 1) 31 _ (0, 0) _ rfl (setRow_heap w1 _ _ _ 31 _ hg) Tryz.underlying31 rfl (by kernel_rfl)) rfl ⟨rfl, below_setRow hbb (by omega)⟩

set_option maxRecDepth 100000 in
set_option maxHeartbeats 400000 in
/-- A number. -/
theorem number1_any (f b : Nat) (t sl : Value) (k v : Int) (w : World) (hen : ∀ args w, (callFunc f args).run Tryz.prog w = .ok (.enter f args) w) (hcap : Captured w b (.func (.func f) #[] #[]))
    (hin : ∀ w1, Below w.heap.size w w1 → Calls Tryz.prog f #[.agg #[t, sl]] w1 fun e w' => e = .returned (.agg #[.int .i64 k, .int .i64 v]) ∧ Below w1.heap.size w1 w') :
    Calls Tryz.prog 115 #[.agg #[t, sl], .pointer (some ⟨b, 0, none⟩)] w fun e w' => e = .returned (.tuple #[vNum k v, .int .i64 0]) ∧ Below w.heap.size w w' := by
  have hc := cell_alloc (cell_alloc hcap (.cells #[t, sl] 88)) (.cells #[.int .i64 0, .slice none 0 0, .int .i64 0, .int .i64 0, .string ⟨#[]⟩, .bool false] 31)
  have Hin := Lib.hid hin
  clear hin hcap
  go_enter Tryz.func115, Tryz.ntmps115
  go_wp2_with fail
  refine (Hin.out _ (((Below.refl _ _).alloc (Nat.le_refl _) _).alloc (by simp) _)).mono ?_
  rintro e w1 ⟨rfl, hb⟩
  dsimp only
  have hg : w1.heap[w.heap.size + 1]? = some (.cells #[.int .i64 0, .slice none 0 0, .int .i64 0, .int .i64 0, .string ⟨#[]⟩, .bool false] 31 (0, 0)) := (hb.block _ (by simp)).trans (heap_alloc2_new w _ _)
  have hbb : Below w.heap.size w w1 := ((Below.refl _ _).alloc (Nat.le_refl _) _).alloc (by simp) _ |>.trans (hb.mono (B' := w.heap.size) (by simp; omega))
  clear hb hc Hin
  go_wp2_with (refine wpList_store_row rfl 31 (.tmp 3) (.tmp 8) rfl (w.heap.size + 1) #[.int .i64 1, .slice none 0 0, .int .i64 k, .int .i64 v, .string ⟨#[]⟩, .bool false] rfl rfl 31 _ hg (by kernel_rfl) rfl (by simp [Value.oneCell']) ?_)
  exact bodyPost_ret (results_cell_tmp Tryz.results115 _ _ (w.heap.size + 1) 31 _ (0, 0) _ rfl (setRow_heap w1 _ _ _ 31 _ hg) Tryz.underlying31 rfl (by kernel_rfl)) rfl ⟨rfl, below_setRow hbb (by omega)⟩

end Go.Proofs.YtaadhehcoegmhaaGreatDoor
/- xvalue.Call at a function of the table that takes no nodes. -/
namespace Go.Proofs.YtaadhehcoegmhaaGreatDoor
open Go Go.RowKit

theorem wpList_lookup_rows {P : Program} {ops : Array Oper} {rest : List Oper} {o : Oper} {a : Act} {Q : Exit → Act → World → Prop} {w : World} (hg : o.guard = none)
    {α : Type} {R : Value → α → Prop} {m c : Nat} {es : Array MapEntry} {rs : List (ByteArray × α)} {t kt et : TypeId} (mo ko : Operand) (ok : Bool) (hop : o.op = .lookup t mo ko ok)
    (ht : P.underlying t = some (.map kt et)) (hkt : P.underlying kt = some .string) (hm : w.heap[m]? = some (.map es c)) (hR : KeyRows R es.toList rs) {z : Value} (hz : (zeroValue et).run P w = .ok z w)
    (k : ByteArray) (hmo : a.eval mo = .map (some m)) (hko : a.eval ko = .string k)
    (h0 : rowAt k rs = none → wpList P ops Q rest (a.put o.dst (if ok then .tuple #[z, .bool false] else z)) w)
    (h1 : ∀ v x, rowAt k rs = some x → R v x → wpList P ops Q rest (a.put o.dst (if ok then .tuple #[v, .bool true] else v)) w) : wpList P ops Q (o :: rest) a w := by
  refine wpList_plain hg fun K hK' => ?_
  unfold Oper.wp execOp
  rcases run_lookup_rows ht hkt hm hR hz k ok with ⟨hn, hrun⟩ | ⟨v, x, hx, hv, hrun⟩
  · simp only [hop, hmo, hko, hrun, Sem.run_bind, Result.andThen_ok, Sem.run_pure]
    exact hK' _ _ (h0 hn)
  · simp only [hop, hmo, hko, hrun, Sem.run_bind, Result.andThen_ok, Sem.run_pure]
    exact hK' _ _ (h1 v x hx hv)

theorem run_equalIn_func_nil {P : Program} {t : TypeId} {ps rs : Array TypeId} {vd : Bool} (ht : P.underlying t = some (.func ps rs vd)) (d : Nat) (fn : Fn) (xs ys : Array Value) (w : World) :
    (Op.equalIn (d + 1) t (.func fn xs ys) .nilFunc).run P w = .ok false w := by
  unfold Op.equalIn
  simp [run_underlying ht]
theorem run_eql_func_nil {P : Program} {t : TypeId} {ps rs : Array TypeId} {vd : Bool} (ht : P.underlying t = some (.func ps rs vd)) (fn : Fn) (xs ys : Array Value) (w : World) :
    (binOp .eql t (.func fn xs ys) .nilFunc).run P w = .ok (.bool false) w := by
  simp only [binOp]
  simp [Op.equal, Op.maxDepth, run_equalIn_func_nil ht 9999]

set_option maxRecDepth 100000 in
set_option maxHeartbeats 1000000 in
theorem call_plain (k : ByteArray) (l m : Int) (g f : Nat) (hrow : rowAt k fnTable = some (.plain l m false g f)) (t A : Option Addr) (n cap : Nat) (cs : Array Value) (er : Int) (w : World)
    (hl : 1 ≤ l) (hln : l ≤ n) (hnm : (n : Int) ≤ m)
    (hen : ∀ args w, (callFunc g args).run Tryz.prog w = .ok (.enter g args) w) (hcs : (Tryz.prog.info? 31).map (·.size) = some cs.size) (hcs1 : cs.all (·.oneCell') = true)
    (hin : ∀ w1 b, Below w.heap.size w w1 → Captured w1 b (.func (.func f) #[] #[]) → Calls Tryz.prog g #[.agg #[.pointer t, .slice A n cap], .pointer (some ⟨b, 0, none⟩)] w1 fun e w' => e = .returned (.tuple #[.agg cs, .int .i64 er]) ∧ Below w1.heap.size w1 w') :
    Calls Tryz.prog 13 #[.pointer t, .string k, .slice A n cap] w fun e w' => e = .returned (.tuple #[.agg cs, .int .i64 er]) ∧ Below w.heap.size w w' := by
  have Hin := Lib.hid hin
  have Hrow := Lib.hid hrow
  have Hen := Lib.hid hen
  clear hin hrow hen
  go_enter Tryz.func13, Tryz.ntmps13
  go_wp2_with fail
  refine Calls.mono (functions_any _) ?_
  rintro e w1 ⟨v, rfl, rfl, htab, hb1⟩
  dsimp only
  obtain ⟨es, c, hm, hR⟩ := htab
  refine ‹∀ a w, wpList _ _ _ _ a w → _› _ _ ?_
  refine wpList_move rfl _ (.inl rfl) ?_
  refine wpList_lookup_rows rfl (.tmp 9) (.tmp 10) false rfl Tryz.underlying83 Tryz.underlying9 hm hR (Tryz.zeroValue82 _) k rfl rfl ?_ ?_
  · intro h0; rw [Hrow.out] at h0; cases h0
  intro v x hx hv
  rw [Hrow.out] at hx
  cases hx
  obtain ⟨b, rfl, hbm, hcap⟩ := hv
  simp only [fnRow]
  have hg1 : w1.heap[w.heap.size]? = some (.cells #[.int .i64 0, .slice none 0 0, .int .i64 0, .int .i64 0, .string ⟨#[]⟩, .bool false] 31 (0, 0)) := (hb1.block _ (by simp)).trans (heap_alloc_new w _)
  have hbb1 : Below w.heap.size w w1 := ((Below.refl _ _).alloc (Nat.le_refl _) _).trans (hb1.mono (B' := w.heap.size) (by simp))
  have hlt1 : w.heap.size < w1.heap.size := (Array.getElem?_eq_some_iff.1 hg1).1
  clear hm hR es c hbm hb1
  obtain ⟨W, hW⟩ : ∃ W, W = w1.alloc (.cells #[.int .i64 l, .int .i64 m, .bool false, .func (.func g) #[] #[.pointer (some ⟨b, 0, none⟩)]] 82) := ⟨_, rfl⟩
  have hcapW : Captured W b (.func (.func f) #[] #[]) := by rw [hW]; exact cell_alloc hcap _
  have hgW : W.heap[w.heap.size]? = some (.cells #[.int .i64 0, .slice none 0 0, .int .i64 0, .int .i64 0, .string ⟨#[]⟩, .bool false] 31 (0, 0)) := by rw [hW]; exact (Below.heap_alloc _ _ _ hlt1).trans hg1
  have hbW : Below w.heap.size w W := by rw [hW]; exact hbb1.alloc (Nat.le_of_lt hlt1) _
  have hW' := Lib.hid hW
  have hgW' := Lib.hid hgW
  clear hW hgW hg1
  have t1 : decide ((n : Int) < l) = false := by simp; omega
  have t2 : decide ((n : Int) > m) = false := by simp; omega
  have t3 : (l == 0) = false := by simp; omega
  have hen := Hen.out
  have heq := fun (w : World) => run_eql_func_nil (P := Tryz.prog) Tryz.underlying80 (.func g) #[] #[.pointer (some ⟨b, 0, none⟩)] w
  go_wp2_with fail
  rw [← hW'.out]
  refine (Hin.out W b hbW hcapW).mono ?_
  rintro e w2 ⟨rfl, hb2⟩
  dsimp only
  have hg2 : w2.heap[w.heap.size]? = some (.cells #[.int .i64 0, .slice none 0 0, .int .i64 0, .int .i64 0, .string ⟨#[]⟩, .bool false] 31 (0, 0)) := (hb2.block _ (Array.getElem?_eq_some_iff.1 hgW'.out).1).trans hgW'.out
  have hbb2 := below_then hbW hbW.size hb2
  have hsz : cs.size = 6 := by
    have h6 : (Tryz.prog.info? 31).map (·.size) = some 6 := by kernel_rfl
    rw [h6] at hcs; exact (Option.some.inj hcs).symm
  have hsz' := Lib.hid hsz
  clear hsz hcs hb2 hen heq
  go_wp2_with (refine wpList_store_row rfl 31 (.tmp 6) (.tmp 60) rfl (w.heap.size) cs rfl rfl 31 _ hg2 (by rw [hsz'.out]; kernel_rfl) (by rw [hsz'.out]; rfl) hcs1 ?_)
  exact bodyPost_ret (results_cell_tmp Tryz.results13 _ _ (w.heap.size) 31 _ (0, 0) _ rfl (setRow_heap w2 _ _ _ 31 _ hg2) Tryz.underlying31 rfl (by rw [hsz'.out]; kernel_rfl)) rfl ⟨rfl, below_setRow hbb2 (by omega)⟩
end Go.Proofs.YtaadhehcoegmhaaGreatDoor
