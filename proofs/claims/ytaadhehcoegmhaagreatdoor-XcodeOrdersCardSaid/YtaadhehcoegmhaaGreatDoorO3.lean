/- text: what a function of texts tells. -/
import Derived.Test.YtaadhehcoegmhaaGreatDoorO2
import Derived.BigQuiet
import Derived.Lib.OthersKept
import Derived.Lib.RowBridge
import Derived.Maps.AppendAt
import Derived.Laws.AppendOwnNone
import Derived.Deep.RegionLaw
import Derived.Test.YtaadhehcoegmhaaGreatDoorO1
import Derived.Deep.OwnRows
namespace Go.Proofs.YtaadhehcoegmhaaGreatDoor
open Go Go.RowKit

theorem info31 : (Tryz.prog.info? 31).map (fun i => (i.zero, i.size, i.bytes)) = some (some (.agg #[.int .i64 0, .slice none 0 0, .int .i64 0, .int .i64 0, .string ⟨#[]⟩, .bool false]), 6, 72) := by kernel_rfl

/-- A slice that the call owns, of whole values, reads as arguments. -/
theorem args_row {w : World} {B : Nat} {v : Value} (xs : List GV) (h : w.ownsRow B 31 6 v xs.length (xs.flatMap GV.cells)) (h0 : 0 < xs.length) (hl : xs.length ≤ 1000) :
    ∃ A cap, v = .slice A xs.length cap ∧ ArgsAt w v xs := by
  rcases h.2 with ⟨_, h2⟩ | ⟨g, cap, cur, h1, _, h3, _, _, _, h7⟩
  · omega
  · subst h1
    refine ⟨_, cap, rfl, g, cap, rfl, hl, fun i x hx j c hc => ?_⟩
    have h8 := flat6 xs i x j c hx hc
    rw [← h7] at h8
    rw [Lib.cell_of_heap h3, ← Array.getElem?_toList]
    rw [List.getElem?_take] at h8
    split at h8
    · exact h8
    · simp at h8

/-- A slice of texts. -/
def TextsAt (w : World) (b : Nat) (l : List ByteArray) : Prop := ∀ i x, l[i]? = some x → w.cell? ⟨b, i, none⟩ = some (.string x)
theorem TextsAt.below {w w' : World} {b : Nat} {l : List ByteArray} (h : TextsAt w b l) {B : Nat} (hb : Below B w w') (hlt : b < B) : TextsAt w' b l := fun i x hx => (hb.cell hlt).trans (h i x hx)

theorem take_cells (l : List ByteArray) (k : Nat) (c : ByteArray) (hk : l[k]? = some c) : ((l.take (k + 1)).map GV.text).flatMap GV.cells = ((l.take k).map GV.text).flatMap GV.cells ++ (GV.text c).cells := by
  have hlt : k < l.length := (List.getElem?_eq_some_iff.1 hk).1
  have hc : l[k] = c := (List.getElem?_eq_some_iff.1 hk).2
  rw [List.take_succ_eq_append_getElem hlt, hc]
  simp

set_option maxRecDepth 100000 in
set_option maxHeartbeats 1000000 in
theorem text_any7 (k r : ByteArray) (l : List ByteArray) (b cap : Nat) (w : World) (h0 : 0 < l.length) (hl : l.length ≤ 100) (hs : TextsAt w b l) (hb : b < w.heap.size) (hE : Env w)
    (hin : ∀ A cap w', Has (.slice A l.length cap) (l.map .text) w' → Calls Tryz.prog 13 #[.pointer none, .string k, .slice A l.length cap] w' fun e w2 => e = .returned (.tuple #[vText r, .int .i64 0]) ∧ Below w'.heap.size w' w2) :
    Calls Tryz.prog 12 #[.string k, .slice (some ⟨b, 0, none⟩) l.length cap] w fun e w' => e = .returned (.tuple #[.string r, .bool true]) ∧ Below w.heap.size w w' := by
  obtain ⟨i0, hi, hz0, hz1, hz2⟩ := info_parts info31
  have Hin := Lib.hid hin
  clear hin
  go_enter Tryz.func12, Tryz.ntmps12
  go_wp2_with fail
  go_loopw [6, 7] (fun v6 v7 wr => ∃ i : Nat, v7 = .int .i64 i ∧ i ≤ l.length ∧ wr.ownsRow w.heap.size 31 6 v6 i (((l.take i).map GV.text).flatMap GV.cells) ∧ Below w.heap.size w wr)
    (fun _ i _ => l.length - (intOf i).toNat)
  case atStart => exact ⟨0, rfl, by omega, ⟨by simp, .inl ⟨rfl, rfl⟩⟩, Below.refl _ _⟩
  case round =>
    obtain ⟨i, rfl, hi2, hown, hbel⟩ := hrel
    by_cases hlt : i < l.length
    · obtain ⟨c, hc⟩ : ∃ c, l[i]? = some c := ⟨l[i], by simp [hlt]⟩
      have hcell := (hbel.cell hb).trans (hs i c hc)
      have htk := take_cells l i c hc
      have HTK := Lib.hid htk
      clear htk hc
      go_wp2_with fail
      refine Calls.mono (ofText_any _ _) ?_
      rintro e w1 ⟨rfl, hb1⟩
      dsimp only [vText]
      have hz1' := hb1.size
      have hzb := hbel.size
      have hown1 : w1.ownsRow w.heap.size 31 6 u6 i (((l.take i).map GV.text).flatMap GV.cells) := hown.kept (row := none) ⟨hb1.os, hb1.tape, hb1.output, hb1.size, fun k hk _ => hb1.block k hk⟩ (Classical.em _)
      have hbel1 := below_then hbel hbel.size hb1
      clear hb1 hown hcell
      go_wp2_with (at_builtin; go_must (refine wpList_append_lies _ rfl _ _ _ (by rfl) w.heap.size 31 i0 _ 6 72 Tryz.underlying78 hi hz0 hz1 hz2 rfl (by omega) _ i _ (by rfl) (hown1.alloc _) ⟨w1.heap.size, 0, none⟩ 1 1 (GV.text c).cells (by rfl) (by rfl) (World.news_of_block (cs := #[.int .i64 2, .slice none 0 0, .int .i64 0, .int .i64 0, .string c, .bool false]) (t := 31) (fr := (0, 0)) (heap_alloc_new w1 _)) (by simp [GV.cells, Value.oneCell']) (by omega) (by simp [maxLen]; omega) (by omega) (by simp; omega) (w1.heap.size + 1) (by simp) ?_); intro gg cap2 w2 hown2 hgrow hat hlt2)
      go_roundw
      case rel => exact ⟨i + 1, by go_num, by omega, by rw [HTK.out]; exact hown2, below_grown (hbel1.alloc (by omega) _) (by simp; omega) (fun k hk => (hown1.lt k hk).1) hgrow⟩
      case measure => simp [intOf]; omega
    · obtain rfl : i = l.length := by omega
      rw [List.take_length] at hown
      have hzb := hbel.size
      obtain ⟨A, cap2, rfl, hargs⟩ := args_row (l.map GV.text) (by rw [List.length_map]; exact hown) (by simpa using h0) (by simp; omega)
      rw [List.length_map] at hargs
      have hE2 := hE.below hbel
      clear hown hs hE
      go_wp2_with fail
      rw [List.length_map]
      refine Calls.mono (Hin.out A cap2 _ ⟨hargs, hE2⟩) ?_
      rintro e w1 ⟨rfl, hb1⟩
      dsimp only [vText]
      have hbel1 := below_then hbel hbel.size hb1
      clear hb1 hargs hE2
      have hg := heap_alloc_new w1 (.cells #[.int .i64 0, .slice none 0 0, .int .i64 0, .int .i64 0, .string ⟨#[]⟩, .bool false] 31)
      obtain ⟨hp1, hp2, hp3⟩ := put_new w1 #[.int .i64 0, .slice none 0 0, .int .i64 0, .int .i64 0, .string ⟨#[]⟩, .bool false] #[.int .i64 2, .slice none 0 0, .int .i64 0, .int .i64 0, .string r, .bool false] 31
      have hbel2 := below_then hbel1 hbel1.size hp1
      have hc1 := Lib.cell_of_heap hp2 4
      have hc2 := Lib.cell_of_heap hp2 0
      simp at hc1 hc2
      clear hp1 hp2 hp3
      go_wp2_with (refine wpList_store_row rfl 31 (.tmp 8) (.tmp 28) rfl (w1.heap.size) #[.int .i64 2, .slice none 0 0, .int .i64 0, .int .i64 0, .string r, .bool false] rfl rfl 31 _ hg (by kernel_rfl) rfl (by simp [Value.oneCell']) ?_)
      go_quiet (fail)
      go_wp2_with fail
      go_ret2
      exact ⟨rfl, hbel2.trans ⟨rfl, rfl, rfl, Nat.le_refl _, fun _ _ => rfl⟩⟩
end Go.Proofs.YtaadhehcoegmhaaGreatDoor
/- Characters in rows of rows: xchar.in. -/
namespace Go.Proofs.YtaadhehcoegmhaaGreatDoor
open Go Go.RowKit

/-- A number lies in a row of two. -/
def geB (x : Option Ordering) : Bool := match x with | some .gt => true | some .eq => true | _ => false
def leB (x : Option Ordering) : Bool := match x with | some .lt => true | some .eq => true | _ => false
def inRow (r : Int) (p : Nat × Nat) : Bool := geB (FloatKind.f64.format.order (floatOfInt FloatKind.f64 r) p.1) && leB (FloatKind.f64.format.order (floatOfInt FloatKind.f64 r) p.2)
def rowsOf (ps : List (Nat × Nat)) : Array Value := (ps.map fun p => Value.complex .f64 p.1 p.2).toArray

set_option maxRecDepth 100000 in
set_option maxHeartbeats 4000000 in
theorem in_any (w : World) (r : Int) (g n : Nat) (ps : List (Nat × Nat)) (hg : w.heap[g]? = some (.cells (rowsOf ps) 337 (0, 0))) (hn : n = ps.length) (hl : n ≤ 1000) :
    Calls Tryz.prog 253 #[.int .i32 r, .slice (some ⟨g, 0, none⟩) n n] w fun e w' => e = .returned (.bool (ps.any (inRow r))) ∧ w' = w := by
  have HG := Lib.hid hg
  have HN := Lib.hid hn
  clear hg hn
  go_enter Tryz.func253, Tryz.ntmps253
  go_wp2_with fail
  go_loopw [10] (fun v wr => ∃ i : Nat, v = .int .i64 i ∧ i ≤ n ∧ (ps.take i).any (inRow r) = false ∧ w = wr)
    (fun i _ => n - (intOf i).toNat)
  case atStart => exact ⟨0, rfl, by omega, rfl, rfl⟩
  case round =>
    obtain ⟨i, rfl, hi, hno, rfl⟩ := hrel
    have HO := Lib.hid hno
    clear hno
    by_cases hlt : i < n
    · have hlp : i < ps.length := by have := HN.out; omega
      obtain ⟨a, b, hab⟩ : ∃ a b, ps[i] = (a, b) := ⟨_, _, rfl⟩
      have hc : w.cell? ⟨g, i, none⟩ = some (.complex .f64 a b) := by rw [Lib.cell_of_heap HG.out]; simp [rowsOf, hlp, hab]
      have htk : (ps.take (i + 1)).any (inRow r) = inRow r (a, b) := by
        rw [List.take_succ_eq_append_getElem hlp, List.any_append, HO.out, hab]; simp
      have hall : inRow r (a, b) = true → ps.any (inRow r) = true := fun h => List.any_eq_true.2 ⟨ps[i], List.getElem_mem hlp, by rw [hab]; exact h⟩
      have HT := Lib.hid htk
      have HA := Lib.hid hall
      clear htk hall hlp hab
      rcases hx : FloatKind.f64.format.order (floatOfInt FloatKind.f64 r) a with _ | (_ | _ | _) <;> rcases hy : FloatKind.f64.format.order (floatOfInt FloatKind.f64 r) b with _ | (_ | _ | _)
      all_goals
        have hin : inRow r (a, b) = (geB (FloatKind.f64.format.order (floatOfInt FloatKind.f64 r) a) && leB (FloatKind.f64.format.order (floatOfInt FloatKind.f64 r) b)) := rfl
        rw [hx, hy] at hin
        have HI := Lib.hid hin
        clear hin
        go_wp2_with fail
        first
          | (go_roundw
             case rel => exact ⟨i + 1, by go_num, by omega, HT.out.trans HI.out, trivial⟩
             case measure => simp [intOf]; omega)
          | (go_ret; exact ⟨by rw [HA.out HI.out]; rfl, rfl⟩)
    · obtain rfl : i = n := by omega
      have hno : ps.any (inRow r) = false := by have := HO.out; rwa [HN.out, List.take_length] at this
      have HF := Lib.hid hno
      clear hno
      go_wp2_with fail
      go_ret
      exact ⟨by rw [HF.out]; rfl, rfl⟩
end Go.Proofs.YtaadhehcoegmhaaGreatDoor
/- Of a few characters: what xchar.IsChar, Begins, GoesOn say. -/
namespace Go.Proofs.YtaadhehcoegmhaaGreatDoor
open Go Go.RowKit

/-- The characters that the statements' own expressions hold. -/
def chs : List Int := [32, 36, 43, 48, 49, 97, 98, 99, 100, 101, 102, 103, 104]
def charRows : List (Nat × Nat) := [(4621256167635550208, 4621819117588971520), (4623507967449235456, 4623507967449235456), (4629700416936869888, 4677832500515438592), (4678114112931102720, 4679239600521084928), (4679240012837945344, 4697535882029170688)]
def moreRows : List (Nat × Nat) := [(4649966615260037120, 4650942981585502208), (4665763848572108800, 4665764398327922688)]
theorem char_rows : (chs.all fun c => charRows.any (inRow c)) = true := by kernel_rfl
theorem blank_rows : moreRows.any (inRow 32) = false := by kernel_rfl
theorem plus_rows : moreRows.any (inRow 43) = false := by kernel_rfl

set_option maxRecDepth 100000 in
set_option maxHeartbeats 1000000 in
theorem isChar_ch (c : Int) (hc : c ∈ chs) (w : World) : Calls Tryz.prog 207 #[.int .i32 c] w fun e w' => e = .returned (.bool true) ∧ Below w.heap.size w w' := by
  have h := List.all_eq_true.1 char_rows c hc
  have H := Lib.hid h
  clear h hc
  go_enter Tryz.func207, Tryz.ntmps207
  go_wp2_with fail
  refine Calls.mono (in_any _ c w.heap.size 5 charRows (heap_alloc_new w _) rfl (by decide)) ?_
  rintro e w1 ⟨rfl, rfl⟩
  dsimp only
  rw [H.out]
  go_wp2_with fail
  go_ret
  exact ⟨rfl, (Below.refl _ _).alloc (Nat.le_refl _) _⟩

set_option maxRecDepth 100000 in
set_option maxHeartbeats 1000000 in
theorem begins_low (c : Int) (h1 : 97 ≤ c) (h2 : c ≤ 122) (w : World) : Calls Tryz.prog 301 #[.int .i32 c] w fun e w' => e = .returned (.bool true) ∧ w' = w := by
  have h3 : c < 128 := by omega
  go_enter Tryz.func301, Tryz.ntmps301
  go_wp2_with fail
  go_ret
  exact ⟨rfl, rfl⟩

set_option maxRecDepth 100000 in
set_option maxHeartbeats 1000000 in
theorem begins_low_not (c : Int) (h0 : 0 ≤ c) (h1 : c < 65) (w : World) : Calls Tryz.prog 301 #[.int .i32 c] w fun e w' => e = .returned (.bool false) ∧ w' = w := by
  have h3 : c < 128 := by omega
  have h4 : ¬ 97 ≤ c := by omega
  have h5 : ¬ 65 ≤ c := by omega
  have h6 : ¬ c ≥ 97 := by omega
  have h7 : ¬ c ≥ 65 := by omega
  have h8 : (c == 95) = false := by simp; omega
  go_enter Tryz.func301, Tryz.ntmps301
  go_wp2_with fail
  go_ret
  exact ⟨rfl, rfl⟩

set_option maxRecDepth 100000 in
set_option maxHeartbeats 1000000 in
theorem goesOn_low (c : Int) (h1 : 97 ≤ c) (h2 : c ≤ 122) (w : World) : Calls Tryz.prog 302 #[.int .i32 c] w fun e w' => e = .returned (.bool true) ∧ w' = w := by
  go_enter Tryz.func302, Tryz.ntmps302
  go_wp2_with fail
  refine Calls.mono (begins_low c h1 h2 w) ?_
  rintro e w1 ⟨rfl, rfl⟩
  dsimp only
  go_wp2_with fail
  go_ret
  exact ⟨rfl, rfl⟩

set_option maxRecDepth 100000 in
set_option maxHeartbeats 1000000 in
theorem goesOn_blank (w : World) : Calls Tryz.prog 302 #[.int .i32 32] w fun e w' => e = .returned (.bool false) ∧ Below w.heap.size w w' := by
  go_enter Tryz.func302, Tryz.ntmps302
  go_wp2_with fail
  refine Calls.mono (begins_low_not 32 (by decide) (by decide) w) ?_
  rintro e w1 ⟨rfl, rfl⟩
  dsimp only
  go_wp2_with fail
  refine Calls.mono (in_any _ 32 w1.heap.size 2 moreRows (heap_alloc_new w1 _) rfl (by decide)) ?_
  rintro e w2 ⟨rfl, rfl⟩
  dsimp only
  rw [blank_rows]
  go_wp2_with fail
  go_ret
  exact ⟨rfl, (Below.refl _ _).alloc (Nat.le_refl _) _⟩
end Go.Proofs.YtaadhehcoegmhaaGreatDoor
/- strings.TrimLeft at a set of a few ASCII characters. -/
namespace Go.Proofs.YtaadhehcoegmhaaGreatDoor
open Go Go.RowKit

/-- Bytes as a text. -/
abbrev bs (l : List UInt8) : ByteArray := ⟨l.toArray⟩
theorem bs_size (l : List UInt8) : (bs l).size = l.length := by simp [ByteArray.size]
theorem bs_drop (l : List UInt8) (k n : Nat) (hn : n = l.length) : (bs l).extract k n = bs (l.drop k) := by
  subst hn
  apply ByteArray.ext
  simp
  exact List.take_of_length_le (by simp)
theorem bs_take (l : List UInt8) (n : Nat) : (bs l).extract 0 n = bs (l.take n) := by
  apply ByteArray.ext
  simp

/-- Without the bytes ahead that are of a set. -/
def trimSet (cut l : List UInt8) : List UInt8 := l.dropWhile fun x => cut.contains x

set_option maxRecDepth 100000 in
set_option maxHeartbeats 2000000 in
theorem trimLeft_set (cut l : List UInt8) (b : Nat) (w : World) (hb : w.heap[b]? = some (.cells (Lib.setCells cut) 314 (0, 0))) :
    Calls Tryz.prog 228 #[.string (bs l), .pointer (some ⟨b, 0, none⟩)] w fun e w' => e = .returned (.string (bs (trimSet cut l))) ∧ w' = w := by
  have HB := Lib.hid hb
  clear hb
  go_enter Tryz.func228, Tryz.ntmps228
  go_wp2_with fail
  go_loopw [0] (fun v wr => ∃ m : List UInt8, v = .string (bs m) ∧ m.length ≤ l.length ∧ trimSet cut m = trimSet cut l ∧ w = wr)
    (fun v _ => match v with | .string b => b.size | _ => 0)
  case atStart => exact ⟨l, rfl, Nat.le_refl _, rfl, rfl⟩
  case round =>
    obtain ⟨m, rfl, hm, heq, rfl⟩ := hrel
    have HE := Lib.hid heq
    clear heq
    cases m with
    | nil =>
      go_wp2_with fail
      go_ret
      exact ⟨by rw [← HE.out]; rfl, rfl⟩
    | cons x t =>
      have hsz := bs_size (x :: t)
      have hex : (bs (x :: t)).extract 1 (t.length + 1) = bs t := bs_drop (x :: t) 1 _ rfl
      have hx : w.cell? ⟨b, x.toNat, none⟩ = some (.bool (cut.contains x)) := by rw [Lib.cell_of_heap HB.out]; exact Lib.setCells_at cut x
      have HX := Lib.hid hx
      clear hx
      go_wp2_with fail
      refine Calls.mono (Tryz.asciiSet_contains b x _ w HX.out) ?_
      rintro e w1 ⟨rfl, rfl⟩
      dsimp only
      by_cases hc : cut.contains x = true
      · have ht : trimSet cut (x :: t) = trimSet cut t := by unfold trimSet; rw [List.dropWhile_cons, if_pos hc]
        have HT := Lib.hid (ht.symm.trans HE.out)
        rw [hc]
        have HH := Lib.hid hex
        clear hc ht hex
        go_wp2_with fail
        rw [HH.out]
        go_roundw
        case rel => exact ⟨t, rfl, by simp at hm; omega, HT.out, trivial⟩
        case measure => simp [ByteArray.size]
      · have hc2 : cut.contains x = false := by simpa using hc
        have ht : trimSet cut (x :: t) = x :: t := by unfold trimSet; rw [List.dropWhile_cons, if_neg hc]
        have HT := Lib.hid (HE.out.symm.trans ht)
        rw [hc2]
        clear hc hc2 ht hex
        go_wp2_with fail
        go_ret
        exact ⟨by rw [HT.out]; rfl, rfl⟩

set_option maxRecDepth 100000 in
theorem zero314 : ∀ w, (zeroValue 314).run Tryz.prog w = .ok (.agg (Array.replicate 256 (.bool false))) w := Tryz.zeroValue314

set_option maxRecDepth 100000 in
set_option maxHeartbeats 2000000 in
theorem trimLeft_digits (l : List UInt8) (w : World) :
    Calls Tryz.prog 188 #[.string (bs l), .string ⟨#[48, 49, 50, 51, 52, 53, 54, 55, 56, 57]⟩] w fun e w' => e = .returned (.string (bs (trimSet [48, 49, 50, 51, 52, 53, 54, 55, 56, 57] l))) ∧ Below w.heap.size w w' := by
  have hset := fun w => Tryz.strings_makeASCIISet zero314 (bs [48, 49, 50, 51, 52, 53, 54, 55, 56, 57]) w (by decide) (by
    have h : ([48, 49, 50, 51, 52, 53, 54, 55, 56, 57] : List UInt8).all (fun b => decide (b.toNat < 128)) = true := by decide
    intro j b hj
    have := List.all_eq_true.1 h b (List.mem_of_getElem? hj)
    simpa using this)
  cases l with
  | nil =>
    go_enter Tryz.func188, Tryz.ntmps188
    go_wp2_with fail
    go_ret
    exact ⟨rfl, Below.refl _ _⟩
  | cons y t =>
    have hne1 : ((bs (y :: t)) == (⟨#[]⟩ : ByteArray)) = false := rfl
    have HS := Lib.hid hset
    clear hset
    obtain ⟨cells, hcells⟩ : ∃ cells, cells = Lib.setCells [48, 49, 50, 51, 52, 53, 54, 55, 56, 57] := ⟨_, rfl⟩
    have h256 : cells.size = 256 := by rw [hcells]; exact Lib.setCells_size _
    have hone := Lib.setCells_one [48, 49, 50, 51, 52, 53, 54, 55, 56, 57]
    rw [← hcells] at hone
    have HC := Lib.hid hcells
    have H256 := Lib.hid h256
    have HONE := Lib.hid hone
    clear hcells h256 hone
    go_enter Tryz.func188, Tryz.ntmps188
    go_wp2_with fail
    refine Calls.mono (HS.out w) ?_
    rintro e w1 ⟨rfl, rfl⟩
    dsimp only
    rw [← HC.out]
    have hg : ((w.alloc (.cells cells 314)).alloc (.cells Tryz.zeroCells314 314)).heap[w.heap.size + 1]? = some (.cells Tryz.zeroCells314 314 (0, 0)) := heap_alloc2_new w _ _
    have HG := Lib.hid hg
    clear hg
    go_wp2_with (refine wpList_store_row rfl 314 (.tmp 5) (.tmp 29) rfl (w.heap.size + 1) cells rfl rfl 314 _ HG.out (by rw [H256.out]; kernel_rfl) (by rw [H256.out]; kernel_rfl) HONE.out ?_)
    refine Calls.mono (trimLeft_set [48, 49, 50, 51, 52, 53, 54, 55, 56, 57] _ (w.heap.size + 1) _ (by rw [← HC.out]; exact setRow_heap _ _ _ _ 314 _ HG.out)) ?_
    rintro e w1 ⟨rfl, rfl⟩
    dsimp only
    go_wp2_with fail
    go_ret
    exact ⟨rfl, below_setRow (((Below.refl _ _).alloc (Nat.le_refl _) _).alloc (by simp) _) (by omega)⟩

set_option maxRecDepth 100000 in
set_option maxHeartbeats 2000000 in
theorem trimLeft_blanks (l : List UInt8) (w : World) :
    Calls Tryz.prog 188 #[.string (bs l), .string ⟨#[9, 10, 13, 32]⟩] w fun e w' => e = .returned (.string (bs (trimSet [9, 10, 13, 32] l))) ∧ Below w.heap.size w w' := by
  have hset := fun w => Tryz.strings_makeASCIISet zero314 (bs [9, 10, 13, 32]) w (by decide) (by
    have h : ([9, 10, 13, 32] : List UInt8).all (fun b => decide (b.toNat < 128)) = true := by decide
    intro j b hj
    have := List.all_eq_true.1 h b (List.mem_of_getElem? hj)
    simpa using this)
  cases l with
  | nil =>
    go_enter Tryz.func188, Tryz.ntmps188
    go_wp2_with fail
    go_ret
    exact ⟨rfl, Below.refl _ _⟩
  | cons y t =>
    have hne1 : ((bs (y :: t)) == (⟨#[]⟩ : ByteArray)) = false := rfl
    have HS := Lib.hid hset
    clear hset
    obtain ⟨cells, hcells⟩ : ∃ cells, cells = Lib.setCells [9, 10, 13, 32] := ⟨_, rfl⟩
    have h256 : cells.size = 256 := by rw [hcells]; exact Lib.setCells_size _
    have hone := Lib.setCells_one [9, 10, 13, 32]
    rw [← hcells] at hone
    have HC := Lib.hid hcells
    have H256 := Lib.hid h256
    have HONE := Lib.hid hone
    clear hcells h256 hone
    go_enter Tryz.func188, Tryz.ntmps188
    go_wp2_with fail
    refine Calls.mono (HS.out w) ?_
    rintro e w1 ⟨rfl, rfl⟩
    dsimp only
    rw [← HC.out]
    have hg : ((w.alloc (.cells cells 314)).alloc (.cells Tryz.zeroCells314 314)).heap[w.heap.size + 1]? = some (.cells Tryz.zeroCells314 314 (0, 0)) := heap_alloc2_new w _ _
    have HG := Lib.hid hg
    clear hg
    go_wp2_with (refine wpList_store_row rfl 314 (.tmp 5) (.tmp 29) rfl (w.heap.size + 1) cells rfl rfl 314 _ HG.out (by rw [H256.out]; kernel_rfl) (by rw [H256.out]; kernel_rfl) HONE.out ?_)
    refine Calls.mono (trimLeft_set [9, 10, 13, 32] _ (w.heap.size + 1) _ (by rw [← HC.out]; exact setRow_heap _ _ _ _ 314 _ HG.out)) ?_
    rintro e w1 ⟨rfl, rfl⟩
    dsimp only
    go_wp2_with fail
    go_ret
    exact ⟨rfl, below_setRow (((Below.refl _ _).alloc (Nat.le_refl _) _).alloc (by simp) _) (by omega)⟩

end Go.Proofs.YtaadhehcoegmhaaGreatDoor
/- A name's length at a few texts. -/
namespace Go.Proofs.YtaadhehcoegmhaaGreatDoor
open Go Go.RowKit

/-- What may stand behind a name: nothing, or a blank. -/
def Stops (l : List UInt8) : Prop := l = [] ∨ ∃ t, l = 32 :: t

theorem next_at (w : World) (l : List UInt8) (i : Nat) (x : UInt8) (ty : TypeId) (hx : l[i]? = some x) (ha : x.toNat < 128) :
    (Instr.next (.pointer (some ⟨w.heap.size, 0, none⟩)) true ty).run Tryz.prog (w.iter (bs l) i) = .ok (.tuple #[.bool true, .int .i64 i, .int .i32 x.toNat]) (w.iter (bs l) (i + 1)) := by
  have hi : i < l.length := (List.getElem?_eq_some_iff.1 hx).1
  have he : l[i] = x := (List.getElem?_eq_some_iff.1 hx).2
  have hsz : i < (bs l).size := by rw [bs_size]; exact hi
  have hb : ((bs l)[i]'hsz) = x := by rw [← he]; rfl
  have := run_next_ascii (P := Tryz.prog) w (bs l) i ty hsz (by rw [hb]; exact ha)
  rwa [hb] at this

set_option maxRecDepth 100000 in
set_option maxHeartbeats 2000000 in
theorem name_low (c : UInt8) (l : List UInt8) (h1 : 97 ≤ c.toNat) (h2 : c.toNat ≤ 104) (hl : Stops l) (hs : l.length ≤ 1000) (w : World) :
    Calls Tryz.prog 258 #[.string (bs (c :: l))] w fun e w' => e = .returned (.int .i64 1) ∧ Below w.heap.size w w' := by
  have hn0 := fun ty => next_at w (c :: l) 0 c ty rfl (by omega)
  have hz := bs_size (c :: l)
  have hc : c.toNat < 128 := by omega
  rcases hl with rfl | ⟨t, rfl⟩
  · have hn1 := fun ty => run_next_end (P := Tryz.prog) w (bs [c]) 1 ty (by rw [bs_size]; simp)
    go_enter Tryz.func258, Tryz.ntmps258
    go_wp2_with fail
    go_loopw [3] (fun _ wr => ∃ i : Nat, i ≤ 1 ∧ wr = w.iter (bs [c]) i)
      (fun _ wr => 1 - wr.iterPos w.heap.size)
    case atStart => exact ⟨0, by omega, rfl⟩
    case round =>
      obtain ⟨i, hi, rfl⟩ := hrel
      obtain rfl | rfl : i = 0 ∨ i = 1 := by omega
      · go_wp2_with fail
        refine Calls.mono (begins_low c.toNat (by omega) (by omega) _) ?_
        rintro e w1 ⟨rfl, rfl⟩
        dsimp only
        go_wp2_with fail
        refine Calls.mono (goesOn_low c.toNat (by omega) (by omega) _) ?_
        rintro e w1 ⟨rfl, rfl⟩
        dsimp only
        go_wp2_with fail
        go_roundw
        case rel => exact ⟨1, by omega, rfl⟩
        case measure => simp [World.iterPos, World.iter_heap]
      · go_wp2_with fail
        go_ret
        exact ⟨rfl, (Below.refl _ _).alloc (Nat.le_refl _) _⟩
  · have hn1 := fun ty => next_at w (c :: 32 :: t) 1 32 ty rfl (by decide)
    go_enter Tryz.func258, Tryz.ntmps258
    go_wp2_with fail
    go_loopw [3] (fun _ wr => ∃ i : Nat, i ≤ 1 ∧ wr = w.iter (bs (c :: 32 :: t)) i)
      (fun _ wr => 1 - wr.iterPos w.heap.size)
    case atStart => exact ⟨0, by omega, rfl⟩
    case round =>
      obtain ⟨i, hi, rfl⟩ := hrel
      obtain rfl | rfl : i = 0 ∨ i = 1 := by omega
      · go_wp2_with fail
        refine Calls.mono (begins_low c.toNat (by omega) (by omega) _) ?_
        rintro e w1 ⟨rfl, rfl⟩
        dsimp only
        go_wp2_with fail
        refine Calls.mono (goesOn_low c.toNat (by omega) (by omega) _) ?_
        rintro e w1 ⟨rfl, rfl⟩
        dsimp only
        go_wp2_with fail
        go_roundw
        case rel => exact ⟨1, by omega, rfl⟩
        case measure => simp [World.iterPos, World.iter_heap]
      · go_wp2_with fail
        refine Calls.mono (goesOn_blank _) ?_
        rintro e w1 ⟨rfl, hb⟩
        dsimp only
        go_wp2_with fail
        go_ret
        exact ⟨rfl, below_then ((Below.refl _ _).alloc (Nat.le_refl _) _) (by simp) hb⟩

set_option maxRecDepth 100000 in
set_option maxHeartbeats 2000000 in
theorem name_plus (l : List UInt8) (w : World) :
    Calls Tryz.prog 258 #[.string (bs (43 :: l))] w fun e w' => e = .returned (.int .i64 0) ∧ Below w.heap.size w w' := by
  have hn0 := fun ty => next_at w (43 :: l) 0 43 ty rfl (by decide)
  have hz := bs_size (43 :: l)
  go_enter Tryz.func258, Tryz.ntmps258
  go_wp2_with fail
  go_loopw [3] (fun _ wr => wr = w.iter (bs (43 :: l)) 0)
    (fun _ wr => 0)
  case atStart => rfl
  case round =>
    subst hrel
    go_wp2_with fail
    refine Calls.mono (begins_low_not 43 (by decide) (by decide) _) ?_
    rintro e w1 ⟨rfl, rfl⟩
    dsimp only
    go_wp2_with fail
    go_ret
    exact ⟨rfl, (Below.refl _ _).alloc (Nat.le_refl _) _⟩
end Go.Proofs.YtaadhehcoegmhaaGreatDoor
/- Lengths of a number and of a name that a text begins with. -/
namespace Go.Proofs.YtaadhehcoegmhaaGreatDoor
open Go Go.RowKit

/-- A token of the statements' own expressions: a digit, a variable of one letter, a plus. -/
inductive Tok where
  | num (d : UInt8) | var (c : UInt8) | plus
def Tok.ok : Tok → Prop
  | .num d => d = 48 ∨ d = 49
  | .var c => 97 ≤ c.toNat ∧ c.toNat ≤ 104
  | .plus => True
def Tok.bytes : Tok → List UInt8
  | .num d => [d]
  | .var c => [36, c]
  | .plus => [43]
/-- Tokens with a blank between. -/
def joinT : List Tok → List UInt8
  | [] => []
  | [t] => t.bytes
  | t :: u :: ts => t.bytes ++ 32 :: joinT (u :: ts)
def tailT : List Tok → List UInt8
  | [] => []
  | u :: ts => 32 :: joinT (u :: ts)
theorem joinT_cons (t : Tok) (ts : List Tok) : joinT (t :: ts) = t.bytes ++ tailT ts := by
  cases ts <;> simp [joinT, tailT]
theorem tailT_stops (ts : List Tok) : Stops (tailT ts) := by
  cases ts with
  | nil => exact .inl rfl
  | cons u ts => exact .inr ⟨_, rfl⟩

abbrev digs : List UInt8 := [48, 49, 50, 51, 52, 53, 54, 55, 56, 57]
theorem trim_stops {l : List UInt8} (h : Stops l) : trimSet digs l = l := by
  rcases h with rfl | ⟨t, rfl⟩ <;> rfl
theorem trim_dig {d : UInt8} {l : List UInt8} (h : d = 48 ∨ d = 49) (hl : Stops l) : trimSet digs (d :: l) = l := by
  rcases h with rfl | rfl <;> exact trim_stops hl
theorem dot_stops {l : List UInt8} (h : Stops l) : Lib.hasPrefix l [46] = false := by
  rcases h with rfl | ⟨t, rfl⟩ <;> rfl
theorem colon_stops {l : List UInt8} (h : Stops l) : Lib.hasPrefix l [58] = false := by
  rcases h with rfl | ⟨t, rfl⟩ <;> rfl

set_option maxRecDepth 100000 in
set_option maxHeartbeats 1000000 in
theorem digits_any (l : List UInt8) (w : World) (hl : l.length ≤ 1000) :
    Calls Tryz.prog 300 #[.string (bs l)] w fun e w' => e = .returned (.int .i64 ((l.length : Int) - (trimSet digs l).length)) ∧ Below w.heap.size w w' := by
  have hz := bs_size l
  have hz2 := bs_size (trimSet digs l)
  have hle : (trimSet digs l).length ≤ l.length := (List.dropWhile_sublist _).length_le
  go_enter Tryz.func300, Tryz.ntmps300
  go_wp2_with fail
  refine Calls.mono (trimLeft_digits l w) ?_
  rintro e w1 ⟨rfl, hb⟩
  dsimp only
  go_wp2_with fail
  go_ret
  exact ⟨rfl, hb⟩

set_option maxRecDepth 100000 in
set_option maxHeartbeats 1000000 in
theorem number_dig (d : UInt8) (l : List UInt8) (w : World) (hd : d = 48 ∨ d = 49) (hs : Stops l) (hl : l.length ≤ 900) :
    Calls Tryz.prog 255 #[.string (bs (d :: l))] w fun e w' => e = .returned (.int .i64 1) ∧ Below w.heap.size w w' := by
  have hz := bs_size (d :: l)
  have hx : (bs (d :: l)).extract 1 (l.length + 1) = bs l := bs_drop (d :: l) 1 _ rfl
  have HX := Lib.hid hx
  have ht := trim_dig hd hs
  have HT := Lib.hid ht
  have hdot := dot_stops hs
  have HD := Lib.hid hdot
  clear hx ht hdot
  go_enter Tryz.func255, Tryz.ntmps255
  go_wp2_with fail
  refine Calls.mono (digits_any (d :: l) w (by simp; omega)) ?_
  rintro e w1 ⟨rfl, hb⟩
  dsimp only
  rw [HT.out, show (((d :: l).length : Int) - (l.length : Int)) = 1 by simp; omega]
  go_wp2_with fail
  rw [HX.out]
  refine Calls.mono (Tryz.strings_HasPrefix _ _ _) ?_
  rintro e w2 ⟨rfl, rfl⟩
  dsimp only
  rw [show Lib.hasPrefix (bs l).data.toList [46] = false from HD.out]
  go_wp2_with fail
  go_ret
  exact ⟨rfl, hb⟩

set_option maxRecDepth 100000 in
set_option maxHeartbeats 1000000 in
theorem number_not (x : UInt8) (l : List UInt8) (w : World) (hx : x = 36 ∨ x = 43) (hl : l.length ≤ 900) :
    Calls Tryz.prog 255 #[.string (bs (x :: l))] w fun e w' => e = .returned (.int .i64 0) ∧ Below w.heap.size w w' := by
  have hz := bs_size (x :: l)
  have hex : (bs (x :: l)).extract 0 (l.length + 1) = bs (x :: l) := bs_drop (x :: l) 0 _ rfl
  have HX := Lib.hid hex
  have ht : trimSet digs (x :: l) = x :: l := by rcases hx with rfl | rfl <;> rfl
  have HT := Lib.hid ht
  have hdot : Lib.hasPrefix (x :: l) [46] = false := by rcases hx with rfl | rfl <;> rfl
  have HD := Lib.hid hdot
  clear hex ht hdot
  go_enter Tryz.func255, Tryz.ntmps255
  go_wp2_with fail
  refine Calls.mono (digits_any (x :: l) w (by simp; omega)) ?_
  rintro e w1 ⟨rfl, hb⟩
  dsimp only
  rw [HT.out, show (((x :: l).length : Int) - ((x :: l).length : Int)) = 0 by simp]
  go_wp2_with fail
  rw [HX.out]
  refine Calls.mono (Tryz.strings_HasPrefix _ _ _) ?_
  rintro e w2 ⟨rfl, rfl⟩
  dsimp only
  rw [show Lib.hasPrefix (bs (x :: l)).data.toList [46] = false from HD.out]
  go_wp2_with fail
  go_ret
  exact ⟨rfl, hb⟩

set_option maxRecDepth 100000 in
set_option maxHeartbeats 1000000 in
theorem qname_low (c : UInt8) (l : List UInt8) (w : World) (h1 : 97 ≤ c.toNat) (h2 : c.toNat ≤ 104) (hs : Stops l) (hl : l.length ≤ 900) :
    Calls Tryz.prog 257 #[.string (bs (c :: l))] w fun e w' => e = .returned (.int .i64 1) ∧ Below w.heap.size w w' := by
  have hz := bs_size (c :: l)
  have hex : (bs (c :: l)).extract 1 (l.length + 1) = bs l := bs_drop (c :: l) 1 _ rfl
  have HX := Lib.hid hex
  have hdot := colon_stops hs
  have HD := Lib.hid hdot
  clear hex hdot
  go_enter Tryz.func257, Tryz.ntmps257
  go_wp2_with fail
  refine Calls.mono (name_low c l h1 h2 hs (by omega) w) ?_
  rintro e w1 ⟨rfl, hb⟩
  dsimp only
  go_wp2_with fail
  rw [HX.out]
  refine Calls.mono (Tryz.strings_HasPrefix _ _ _) ?_
  rintro e w2 ⟨rfl, rfl⟩
  dsimp only
  rw [show Lib.hasPrefix (bs l).data.toList [58] = false from HD.out]
  go_wp2_with fail
  go_ret
  exact ⟨rfl, hb⟩
end Go.Proofs.YtaadhehcoegmhaaGreatDoor
/- Slices of numbers, and whether two are the same. -/
namespace Go.Proofs.YtaadhehcoegmhaaGreatDoor
open Go Go.RowKit

/-- The value reads as these numbers. -/
def IntsAt (w : World) (A : Option Addr) (zs : List Int) : Prop := ∀ i z, zs[i]? = some z → ∃ a, A = some a ∧ (a.add i).block < w.heap.size ∧ w.cell? (a.add i) = some (.int .i64 z)
theorem IntsAt.below {w w' : World} {A : Option Addr} {zs : List Int} (h : IntsAt w A zs) (hb : Below w.heap.size w w') : IntsAt w' A zs := fun i x hx => by
  obtain ⟨a, h1, h2, h3⟩ := h i x hx
  exact ⟨a, h1, Nat.lt_of_lt_of_le h2 hb.size, (hb.cell h2).trans h3⟩

theorem take_same {xs ys : List Int} {i : Nat} {x : Int} (h : xs.take i = ys.take i) (hx : xs[i]? = some x) (hy : ys[i]? = some x) : xs.take (i + 1) = ys.take (i + 1) := by
  have h1 : i < xs.length := (List.getElem?_eq_some_iff.1 hx).1
  have h2 : i < ys.length := (List.getElem?_eq_some_iff.1 hy).1
  rw [List.take_succ_eq_append_getElem h1, List.take_succ_eq_append_getElem h2, h, (List.getElem?_eq_some_iff.1 hx).2, (List.getElem?_eq_some_iff.1 hy).2]

set_option maxRecDepth 100000 in
set_option maxHeartbeats 1000000 in
theorem same_any (A B : Option Addr) (ca cb : Nat) (xs ys : List Int) (w : World) (hx : IntsAt w A xs) (hy : IntsAt w B ys) (hl : xs.length ≤ 9223372036854775807) :
    Calls Tryz.prog 18 #[.slice A xs.length ca, .slice B ys.length cb] w fun e w' => e = .returned (.bool (decide (xs = ys))) ∧ Below w.heap.size w w' := by
  have HX := Lib.hid hx
  have HY := Lib.hid hy
  clear hx hy
  by_cases hlen : xs.length = ys.length
  · go_enter Tryz.func18, Tryz.ntmps18
    go_wp2_with fail
    go_loopw [5] (fun v wr => ∃ i : Nat, v = .int .i64 i ∧ i ≤ xs.length ∧ xs.take i = ys.take i ∧ Below w.heap.size w wr)
      (fun i _ => xs.length - (intOf i).toNat)
    case atStart => exact ⟨0, rfl, by omega, rfl, Below.refl _ _⟩
    case round =>
      obtain ⟨i, rfl, hi, heq, hbel⟩ := hrel
      have HEQ := Lib.hid heq
      clear heq
      by_cases hlt : i < xs.length
      · obtain ⟨x, hxx⟩ : ∃ x, xs[i]? = some x := ⟨xs[i], by simp [hlt]⟩
        obtain ⟨y, hyy⟩ : ∃ y, ys[i]? = some y := ⟨ys[i]'(by omega), by simp⟩
        obtain ⟨a, rfl, ha, hca⟩ := (HX.out.below hbel) i x hxx
        obtain ⟨b, rfl, hb, hcb⟩ := (HY.out.below hbel) i y hyy
        have HXX := Lib.hid hxx
        have HYY := Lib.hid hyy
        clear hxx hyy
        have hi2 : (i : Int) < (ys.length : Int) := by omega
        by_cases hne : x = y
        · subst hne
          go_wp2_with fail
          go_quiet (fail)
          go_wp2_with fail
          go_roundw
          case rel => exact ⟨i + 1, by go_num, by omega, take_same HEQ.out HXX.out HYY.out, hbel.trans ⟨rfl, rfl, rfl, Nat.le_refl _, fun _ _ => rfl⟩⟩
          case measure => simp [intOf]; omega
        · have hnq : (x == y) = false := by simp [hne]
          have hnz : xs ≠ ys := fun e => hne (by have h1 := HXX.out; have h2 := HYY.out; rw [e] at h1; rw [h1] at h2; exact Option.some.inj h2)
          have HNZ := Lib.hid hnz
          clear hnz
          go_wp2_with fail
          go_quiet (fail)
          go_wp2_with fail
          go_ret
          exact ⟨by rw [decide_eq_false HNZ.out]; rfl, hbel.trans ⟨rfl, rfl, rfl, Nat.le_refl _, fun _ _ => rfl⟩⟩
      · obtain rfl : i = xs.length := by omega
        have heq : xs = ys := by have h := HEQ.out; rw [List.take_length] at h; rw [h, hlen, List.take_length]
        have HE := Lib.hid heq
        clear heq
        go_wp2_with fail
        go_ret
        exact ⟨by rw [decide_eq_true HE.out]; rfl, hbel⟩
  · have hnz : xs ≠ ys := fun e => hlen (by rw [e])
    have HNZ := Lib.hid hnz
    have hlI : ((xs.length : Int) == (ys.length : Int)) = false := by simp; omega
    clear hnz
    go_enter Tryz.func18, Tryz.ntmps18
    go_wp2_with fail
    go_ret
    exact ⟨by rw [decide_eq_false HNZ.out]; rfl, Below.refl _ _⟩
end Go.Proofs.YtaadhehcoegmhaaGreatDoor
/- Numbers put in their places, one after the other, and sorted with each once: the same; no program here. -/
namespace Go.Proofs.YtaadhehcoegmhaaGreatDoor
open Go

/-- Where n belongs, looked for from k down. -/
def posOf (zs : List Int) (n : Int) : Nat → Nat
  | 0 => 0
  | k + 1 => if n < zs.getD k 0 then posOf zs n k else k + 1

/-- The numbers with n. -/
def ins (zs : List Int) (n : Int) : List Int :=
  if 0 < posOf zs n zs.length ∧ zs.getD (posOf zs n zs.length - 1) 0 = n then zs else zs.take (posOf zs n zs.length) ++ [n] ++ zs.drop (posOf zs n zs.length)
theorem posOf_le (zs : List Int) (n : Int) : ∀ k, posOf zs n k ≤ k
  | 0 => Nat.le_refl _
  | k + 1 => by
    unfold posOf
    split
    · have := posOf_le zs n k; omega
    · omega
theorem posOf_spec (zs : List Int) (n : Int) : ∀ k, (∀ i, posOf zs n k ≤ i → i < k → n < zs.getD i 0) ∧ (posOf zs n k = 0 ∨ ¬ n < zs.getD (posOf zs n k - 1) 0)
  | 0 => ⟨fun i _ h => by omega, Or.inl rfl⟩
  | k + 1 => by
    unfold posOf
    split
    · rename_i h
      obtain ⟨h1, h2⟩ := posOf_spec zs n k
      refine ⟨fun i a b => ?_, h2⟩
      by_cases e : i = k
      · subst e; exact h
      · exact h1 i a (by omega)
    · rename_i h
      exact ⟨fun i a b => by omega, Or.inr (by simpa using h)⟩

/-- Rising, each once. -/
abbrev Rising (zs : List Int) : Prop := zs.Pairwise (· < ·)

theorem rising_ext : ∀ {l m : List Int}, Rising l → Rising m → (∀ x, x ∈ l ↔ x ∈ m) → l = m
  | [], [], _, _, _ => rfl
  | [], b :: m, _, _, h => by simpa using (h b).2 (by simp)
  | a :: l, [], _, _, h => by simpa using (h a).1 (by simp)
  | a :: l, b :: m, hl, hm, h => by
    have hl' := List.pairwise_cons.1 hl
    have hm' := List.pairwise_cons.1 hm
    have hab : a = b := by
      have h1 := (h a).1 (by simp)
      have h2 := (h b).2 (by simp)
      rcases List.mem_cons.1 h1 with h1 | h1
      · exact h1
      · rcases List.mem_cons.1 h2 with h2 | h2
        · exact h2.symm
        · have := hl'.1 b h2
          have := hm'.1 a h1
          omega
    subst hab
    rw [rising_ext hl'.2 hm'.2 (fun x => ?_)]
    have hx := h x
    by_cases e : x = a
    · subst e
      exact ⟨fun q => absurd (hl'.1 x q) (by omega), fun q => absurd (hm'.1 x q) (by omega)⟩
    · simpa [e] using hx

theorem rising_getD {zs : List Int} (h : Rising zs) {i j : Nat} (hij : i < j) (hj : j < zs.length) : zs.getD i 0 < zs.getD j 0 := by
  have := List.pairwise_iff_getElem.1 h i j (by omega) hj hij
  simpa [List.getD, hj, show i < zs.length by omega] using this

theorem ins_rising {zs : List Int} {n : Int} (h : Rising zs) : Rising (ins zs n) ∧ ∀ x, x ∈ ins zs n ↔ x ∈ zs ∨ x = n := by
  obtain ⟨h1, h2⟩ := posOf_spec zs n zs.length
  have hle := posOf_le zs n zs.length
  unfold ins
  generalize posOf zs n zs.length = p at *
  split
  · rename_i hh
    refine ⟨h, fun x => ⟨Or.inl, ?_⟩⟩
    rintro (hx | rfl)
    · exact hx
    · have hp : p - 1 < zs.length := by omega
      rw [← hh.2]
      simp [List.getD, hp]
  · rename_i hh
    have ht : ∀ x ∈ zs.take p, x < n := fun x hx => by
      obtain ⟨i, hi, rfl⟩ := List.getElem_of_mem hx
      have hi' : i < p := by simp at hi; omega
      have e : (zs.take p)[i] = zs.getD i 0 := by simp [List.getD, show i < zs.length by omega]
      rw [e]
      have hlast : ¬ n < zs.getD (p - 1) 0 := by
        rcases h2 with h2 | h2
        · omega
        · exact h2
      have hne : zs.getD (p - 1) 0 ≠ n := fun e => hh ⟨by omega, e⟩
      by_cases ei : i = p - 1
      · subst ei; omega
      · have := rising_getD h (show i < p - 1 by omega) (by omega)
        omega
    have hd : ∀ x ∈ zs.drop p, n < x := fun x hx => by
      obtain ⟨i, hi, rfl⟩ := List.getElem_of_mem hx
      have hi' : p + i < zs.length := by simp at hi; omega
      have e : (zs.drop p)[i] = zs.getD (p + i) 0 := by simp [List.getD, hi']
      rw [e]
      exact h1 _ (by omega) hi'
    refine ⟨?_, fun x => ?_⟩
    · show List.Pairwise _ _
      rw [List.append_assoc, List.pairwise_append]
      refine ⟨h.sublist (List.take_sublist _ _), ?_, ?_⟩
      · rw [List.pairwise_append]
        refine ⟨List.pairwise_singleton _ _, h.sublist (List.drop_sublist _ _), fun a ha b hb => ?_⟩
        rw [List.mem_singleton.1 ha]
        exact hd b hb
      · intro a ha b hb
        have := ht a ha
        rcases List.mem_append.1 hb with hb | hb
        · rw [List.mem_singleton.1 hb]; exact this
        · have := hd b hb; omega
    · have e : x ∈ zs ↔ x ∈ zs.take p ∨ x ∈ zs.drop p := by
        rw [← List.mem_append, List.take_append_drop]
      simp only [List.mem_append, List.mem_singleton]
      rw [e]
      constructor
      · rintro ((q | q) | q)
        · exact .inl (.inl q)
        · exact .inr q
        · exact .inl (.inr q)
      · rintro ((q | q) | q)
        · exact .inl (.inl q)
        · exact .inr q
        · exact .inl (.inr q)

/-- Numbers put in one after the other. -/
def insAll (zs l : List Int) : List Int := l.foldl ins zs
theorem insAll_rising : ∀ (l : List Int) {zs : List Int}, Rising zs → Rising (insAll zs l) ∧ ∀ x, x ∈ insAll zs l ↔ x ∈ zs ∨ x ∈ l
  | [], zs, h => ⟨h, fun x => by simp [insAll]⟩
  | n :: l, zs, h => by
    obtain ⟨h1, h2⟩ := ins_rising (n := n) h
    obtain ⟨h3, h4⟩ := insAll_rising l h1
    refine ⟨h3, fun x => ?_⟩
    show x ∈ insAll (ins zs n) l ↔ _
    rw [h4, h2, List.mem_cons, or_assoc]
theorem insAll_snoc (zs l : List Int) (n : Int) : insAll zs (l ++ [n]) = ins (insAll zs l) n := by simp [insAll]
theorem ins_length (zs : List Int) (n : Int) : (ins zs n).length ≤ zs.length + 1 := by
  have := posOf_le zs n zs.length
  unfold ins
  split
  · omega
  · simp; omega
theorem insAll_length : ∀ (l zs : List Int), (insAll zs l).length ≤ zs.length + l.length
  | [], zs => by simp [insAll]
  | n :: l, zs => by
    have h1 := insAll_length l (ins zs n)
    have h2 := ins_length zs n
    show (insAll (ins zs n) l).length ≤ _
    simp only [List.length_cons]
    omega

/-- What Union computes: sorted, each once. -/
def uni (xs ys : List Int) : List Int := Lib.compact ((xs ++ ys).mergeSort fun x y => decide (x ≤ y))

theorem get_bang (zs : List Int) (j : Nat) : zs.toArray[j]! = zs.getD j 0 := by
  by_cases h : j < zs.length
  · rw [getElem!_pos _ j (by simpa using h)]; simp [List.getD, h]
  · rw [getElem!_neg _ j (by simpa using h)]; simp [List.getD, h]

/-- The first m places of numbers that do not fall, those kept: rising, the same numbers. -/
theorem compactUpTo_rising {zs : List Int} (h : ∀ i j, i ≤ j → j < zs.length → zs.getD i 0 ≤ zs.getD j 0) : ∀ m, m ≤ zs.length →
    Rising (Lib.compactUpTo zs.toArray m) ∧ (∀ x, x ∈ Lib.compactUpTo zs.toArray m ↔ ∃ i, i < m ∧ x = zs.getD i 0)
  | 0, _ => by
    unfold Lib.compactUpTo
    simp
  | m + 1, hm => by
    obtain ⟨h1, h2⟩ := compactUpTo_rising h m (by omega)
    rw [Lib.compactUpTo_succ, get_bang]
    by_cases hk : Lib.keeps zs.toArray m = true
    · rw [if_pos hk]
      refine ⟨?_, fun x => ?_⟩
      · show List.Pairwise _ _
        rw [List.pairwise_append]
        refine ⟨h1, List.pairwise_singleton _ _, fun a ha b hb => ?_⟩
        rw [List.mem_singleton.1 hb]
        obtain ⟨i, hi, rfl⟩ := (h2 a).1 ha
        unfold Lib.keeps at hk
        rw [decide_eq_true_eq, get_bang, get_bang] at hk
        have q1 := h i (m - 1) (by omega) (by omega)
        have q2 := h (m - 1) m (by omega) (by omega)
        rcases hk with hk | hk
        · omega
        · omega
      · rw [List.mem_append, h2, List.mem_singleton]
        constructor
        · rintro (⟨i, hi, rfl⟩ | rfl)
          · exact ⟨i, by omega, rfl⟩
          · exact ⟨m, by omega, rfl⟩
        · rintro ⟨i, hi, rfl⟩
          by_cases e : i = m
          · subst e; exact .inr rfl
          · exact .inl ⟨i, by omega, rfl⟩
    · rw [if_neg hk, List.append_nil]
      refine ⟨h1, fun x => ?_⟩
      rw [h2]
      unfold Lib.keeps at hk
      rw [decide_eq_true_eq, get_bang, get_bang] at hk
      constructor
      · rintro ⟨i, hi, rfl⟩
        exact ⟨i, by omega, rfl⟩
      · rintro ⟨i, hi, rfl⟩
        by_cases e : i = m
        · subst e
          refine ⟨i - 1, by omega, ?_⟩
          by_cases q : zs.getD i 0 = zs.getD (i - 1) 0
          · exact q
          · exact absurd (.inr q) hk
        · exact ⟨i, by omega, rfl⟩

theorem mem_getD (zs : List Int) (x : Int) : x ∈ zs ↔ ∃ i, i < zs.length ∧ x = zs.getD i 0 := by
  rw [List.mem_iff_getElem]
  constructor
  · rintro ⟨i, hi, rfl⟩
    exact ⟨i, hi, by simp [List.getD, hi]⟩
  · rintro ⟨i, hi, rfl⟩
    exact ⟨i, hi, by simp [List.getD, hi]⟩

theorem uni_rising (xs ys : List Int) : Rising (uni xs ys) ∧ ∀ x, x ∈ uni xs ys ↔ x ∈ xs ∨ x ∈ ys := by
  have hs : ((xs ++ ys).mergeSort fun x y => decide (x ≤ y)).Pairwise (fun x y => decide (x ≤ y) = true) :=
    List.pairwise_mergeSort (fun a b c h1 h2 => by simp at h1 h2 ⊢; omega) (fun a b => by simp; omega) _
  have hmono : ∀ i j, i ≤ j → j < ((xs ++ ys).mergeSort fun x y => decide (x ≤ y)).length → ((xs ++ ys).mergeSort fun x y => decide (x ≤ y)).getD i 0 ≤ ((xs ++ ys).mergeSort fun x y => decide (x ≤ y)).getD j 0 := fun i j hij hj => by
    by_cases e : i = j
    · subst e; omega
    · have hi : i < ((xs ++ ys).mergeSort fun x y => decide (x ≤ y)).length := by omega
      have := List.pairwise_iff_getElem.1 hs i j hi hj (by omega)
      simp only [List.getD, List.getElem?_eq_getElem hj, List.getElem?_eq_getElem hi]
      simpa using this
  obtain ⟨h1, h2⟩ := compactUpTo_rising hmono _ (Nat.le_refl _)
  refine ⟨h1, fun x => ?_⟩
  unfold uni Lib.compact
  rw [h2, ← mem_getD, List.mem_mergeSort, List.mem_append]

theorem uni_ref (xs ys : List Int) : uni xs ys = insAll (insAll [] xs) ys := by
  obtain ⟨h1, h2⟩ := uni_rising xs ys
  obtain ⟨h3, h4⟩ := insAll_rising xs (zs := []) List.Pairwise.nil
  obtain ⟨h5, h6⟩ := insAll_rising ys h3
  exact rising_ext h1 h5 fun x => by rw [h2, h6, h4]; simp
theorem uni_comm (xs ys : List Int) : uni xs ys = uni ys xs :=
  rising_ext (uni_rising xs ys).1 (uni_rising ys xs).1 fun x => by rw [(uni_rising xs ys).2, (uni_rising ys xs).2, or_comm]
theorem uni_self (xs ys : List Int) : uni (uni xs ys) (uni xs ys) = uni xs ys :=
  rising_ext (uni_rising _ _).1 (uni_rising xs ys).1 fun x => by rw [(uni_rising _ _).2, or_self]
theorem uni_assoc (xs ys zs : List Int) : uni (uni xs ys) zs = uni xs (uni ys zs) :=
  rising_ext (uni_rising _ _).1 (uni_rising _ _).1 fun x => by rw [(uni_rising _ _).2, (uni_rising _ _).2, (uni_rising _ _).2, (uni_rising _ _).2, or_assoc]
theorem uni_step (xs ys : List Int) {i : Nat} (hi : i + 1 < (uni xs ys).length) : (uni xs ys).getD i 0 < (uni xs ys).getD (i + 1) 0 :=
  rising_getD (uni_rising xs ys).1 (Nat.lt_succ_self i) hi
theorem uni_length (xs ys : List Int) : (uni xs ys).length ≤ xs.length + ys.length := by
  have := Lib.compact_length_le ((xs ++ ys).mergeSort fun x y => decide (x ≤ y))
  simpa [uni] using this
end Go.Proofs.YtaadhehcoegmhaaGreatDoor
/- Numbers with one more, rising, each once. -/
namespace Go.Proofs.YtaadhehcoegmhaaGreatDoor
open Go Go.RowKit

def ints (zs : List Int) : List Value := zs.map (Value.int .i64)

theorem info3 : (Tryz.prog.info? 3).map (fun i => (i.zero, i.size, i.bytes)) = some (some (.int .i64 0), 1, 8) := by kernel_rfl

/-- A cell of a row of numbers that the call owns. -/
theorem own_cell {w : World} {B : Nat} {v : Value} {zs : List Int} (h : w.ownsRow B 3 1 v zs.length (ints zs)) {k : Nat} (hk : k < zs.length) :
    ∃ g cap, v = .slice (some ⟨g, 0, none⟩) zs.length cap ∧ w.cell? ⟨g, k, none⟩ = some (.int .i64 (zs.getD k 0)) := by
  rcases h.2 with ⟨_, h2⟩ | ⟨g, cap, cur, h1, _, h3, _, _, _, h7⟩
  · omega
  · refine ⟨g, cap, h1, ?_⟩
    have h8 : (ints zs)[k]? = some (.int .i64 (zs.getD k 0)) := by simp [ints, List.getD, hk]
    rw [← h7, List.getElem?_take] at h8
    rw [Lib.cell_of_heap h3, ← Array.getElem?_toList]
    split at h8
    · exact h8
    · simp at h8
end Go.Proofs.YtaadhehcoegmhaaGreatDoor
/- Numbers appended; add (of the document's answer), walked. -/
namespace Go.Proofs.YtaadhehcoegmhaaGreatDoor
open Go Go.RowKit

/-- A value that is nil, or a row that holds these numbers. -/
def IntSlice (w : World) (v : Value) (zs : List Int) : Prop :=
  (v = .slice none 0 0 ∧ zs = []) ∨ ∃ b off cap, v = .slice (some ⟨b, off, none⟩) zs.length cap ∧ zs.length ≤ cap ∧ ∀ i z, zs[i]? = some z → w.cell? ⟨b, off + i, none⟩ = some (.int .i64 z)
theorem at_lt {w : World} {a : Addr} {v : Value} (h : w.cell? a = some v) : a.block < w.heap.size := by
  by_cases q : a.block < w.heap.size
  · exact q
  · simp only [World.cell?, Array.getElem?_eq_none (Nat.le_of_not_lt q)] at h
    cases h
theorem addr_add (b off i : Nat) : (⟨b, off, none⟩ : Addr).add i = ⟨b, off + i, none⟩ := by unfold Addr.add; split <;> simp_all
theorem IntSlice.below {w w' : World} {v : Value} {zs : List Int} (h : IntSlice w v zs) (hb : Below w.heap.size w w') : IntSlice w' v zs := by
  rcases h with h | ⟨b, off, cap, h1, h2, h3⟩
  · exact .inl h
  · exact .inr ⟨b, off, cap, h1, h2, fun i z hz => (hb.cell (at_lt (h3 i z hz))).trans (h3 i z hz)⟩
theorem IntSlice.at {w : World} {v : Value} {zs : List Int} (h : IntSlice w v zs) : ∃ A cap, v = .slice A zs.length cap ∧ IntsAt w A zs := by
  rcases h with ⟨rfl, rfl⟩ | ⟨b, off, cap, rfl, _, h3⟩
  · exact ⟨none, 0, rfl, fun i z hz => by simp at hz⟩
  · exact ⟨_, cap, rfl, fun i z hz => ⟨_, rfl, by rw [addr_add]; exact at_lt (h3 i z hz), by rw [addr_add]; exact h3 i z hz⟩⟩
theorem IntSlice.of_own {w : World} {B : Nat} {v : Value} {zs : List Int} (h : w.ownsRow B 3 1 v zs.length (ints zs)) : IntSlice w v zs := by
  rcases h.2 with ⟨rfl, h2⟩ | ⟨g, cap, cur, rfl, _, hg, hc, _⟩
  · exact .inl ⟨rfl, List.eq_nil_of_length_eq_zero h2⟩
  · refine .inr ⟨g, 0, cap, rfl, hc, fun i z hz => ?_⟩
    have := h.cells (g := g) rfl i (.int .i64 z) (by simp [ints, hz])
    rw [addr_add] at this
    exact this
theorem intSlice_one (w : World) (n : Int) : IntSlice (w.alloc (.cells #[.int .i64 n] 3)) (.slice (some ⟨w.heap.size, 0, none⟩) 1 1) [n] := by
  refine .inr ⟨_, 0, 1, rfl, by simp, fun i z hz => ?_⟩
  obtain rfl : i = 0 := by
    have := (List.getElem?_eq_some_iff.1 hz).1
    simp at this; exact this
  have e : z = n := by simpa using hz.symm
  subst e
  have := World.news_of_block (cs := #[.int .i64 z]) (t := 3) (fr := (0, 0)) (heap_alloc_new w _) 0 (.int .i64 z) (by simp)
  rw [addr_add] at this
  exact this

/-- append of numbers to a row that the call owns. -/
theorem wpList_append_ints {w : World} {ops : Array Oper} {rest : List Oper} {o : Oper} {a : Act} {Q : Exit → Act → World → Prop} (hgd : o.guard = none) (s x : Operand)
    (ho : o.op = .call { callee := .builtin .append, args := #[s, x], argTypes := #[26, 26] })
    (base : Nat) (v : Value) (xs : List Int) (hs : a.eval s = v) (hown : w.ownsRow base 3 1 v xs.length (ints xs)) (u : Value) (ys : List Int) (hx : a.eval x = u) (hu : IntSlice w u ys)
    (hlen : xs.length + ys.length ≤ 4000000000) (hbase : base ≤ w.heap.size)
    (h : ∀ v' w', w'.ownsRow base 3 1 v' (xs ++ ys).length (ints (xs ++ ys)) → Below base w w' → wpList Tryz.prog ops Q rest (a.put o.dst v') w') :
    wpList Tryz.prog ops Q (o :: rest) a w := by
  obtain ⟨i0, hi, hz0, hz1, hz2⟩ := info_parts info3
  rcases hu with ⟨rfl, rfl⟩ | ⟨b, off, cap, rfl, hc, hcell⟩
  · exact wpList_append_own_none hgd s x 26 ho base 3 i0 1 Tryz.underlying26 hi v xs.length (ints xs) hs hown hx (h v w (by simpa using hown) (Below.refl _ _))
  · refine wpList_append_own_at w hgd s x 26 ho base 3 i0 _ 1 8 Tryz.underlying26 hi hz0 hz1 hz2 rfl (by omega) v xs.length (ints xs) hs hown ⟨b, off, none⟩ ys.length cap (ints ys) hx (by simp [ints]) (fun j u hu => ?_) (fun u hu => ?_) (by simp [maxLen]; omega) (by omega) hbase fun v' w' hown' hg _ _ => h v' w' (by simpa [ints] using hown') ((Below.refl _ _).grown hg hbase fun k hk => (hown.lt k hk).1)
    · obtain ⟨z, hz, rfl⟩ : ∃ z, ys[j]? = some z ∧ u = .int .i64 z := by
        simp only [ints, List.getElem?_map, Option.map_eq_some_iff] at hu
        obtain ⟨z, h1, h2⟩ := hu
        exact ⟨z, h1, h2.symm⟩
      rw [addr_add]
      exact hcell j z hz
    · obtain ⟨z, _, rfl⟩ := List.mem_map.1 hu
      simp [Value.oneCell']

theorem posOf_here (zs : List Int) (n : Int) (k : Nat) (h : k = 0 ∨ ¬ n < zs.getD (k - 1) 0) : posOf zs n k = k := by
  cases k with
  | zero => rfl
  | succ k =>
    unfold posOf
    rw [if_neg]
    rcases h with h | h
    · omega
    · simpa using h

theorem intSlice_row {w : World} {b off cap : Nat} {zs : List Int} (hc : zs.length ≤ cap) (h : ∀ i z, zs[i]? = some z → w.cell? ⟨b, off + i, none⟩ = some (.int .i64 z)) :
    IntSlice w (.slice (some ⟨b, off, none⟩) zs.length cap) zs := .inr ⟨b, off, cap, rfl, hc, h⟩
theorem intSlice_take {w : World} {b off cap : Nat} {zs : List Int} (hc : zs.length ≤ cap) (h : ∀ i z, zs[i]? = some z → w.cell? ⟨b, off + i, none⟩ = some (.int .i64 z)) {k : Nat} (hk : k ≤ zs.length) :
    IntSlice w (.slice (some ⟨b, off, none⟩) k cap) (zs.take k) := by
  refine .inr ⟨b, off, cap, by rw [List.length_take, Nat.min_eq_left hk], by rw [List.length_take]; omega, fun i z hz => h i z ?_⟩
  rw [List.getElem?_take] at hz
  split at hz
  · exact hz
  · cases hz
theorem intSlice_drop {w : World} {b off cap : Nat} {zs : List Int} (hc : zs.length ≤ cap) (h : ∀ i z, zs[i]? = some z → w.cell? ⟨b, off + i, none⟩ = some (.int .i64 z)) {k : Nat} (hk : k ≤ zs.length) (A : Option Addr) (hA : k < cap → A = some ⟨b, off + k, none⟩) (hA' : ∃ o, A = some ⟨b, o, none⟩) :
    IntSlice w (.slice A (zs.length - k) (cap - k)) (zs.drop k) := by
  obtain ⟨o, rfl⟩ := hA'
  refine .inr ⟨b, o, cap - k, by rw [List.length_drop], by rw [List.length_drop]; omega, fun i z hz => ?_⟩
  rw [List.getElem?_drop] at hz
  have hlt := (List.getElem?_eq_some_iff.1 hz).1
  have := hA (by omega)
  have := h _ z hz
  simp_all [Nat.add_assoc]

set_option maxRecDepth 100000 in
set_option maxHeartbeats 1000000 in
theorem add_nil (n : Int) (w : World) :
    Calls Tryz.prog 40 #[.slice none 0 0, .int .i64 n] w fun e w' => ∃ v, e = .returned v ∧ IntSlice w' v [n] ∧ Below w.heap.size w w' := by
  have hown0 : w.ownsRow w.heap.size 3 1 (.slice none 0 0) ([] : List Int).length (ints []) := ⟨rfl, .inl ⟨rfl, rfl⟩⟩
  go_enter Tryz.func40, Tryz.ntmps40
  go_wp2_with fail
  go_loopw [5] (fun v wr => v = .int .i64 0 ∧ w = wr)
    (fun i _ => 0)
  case atStart => exact ⟨rfl, rfl⟩
  case round =>
    obtain ⟨rfl, rfl⟩ := hrel
    go_wp2_with (first
      | (at_builtin; refine wpList_append_ints rfl (.tmp 34) (.tmp 37) rfl w.heap.size _ [] rfl hown0 _ [] rfl (.inl ⟨rfl, rfl⟩) (by simp) (Nat.le_refl _) ?_; intro v1 w1 hown1 hb1)
      | (at_builtin; refine wpList_append_ints rfl (.tmp 39) (.tmp 41) rfl w.heap.size _ _ rfl (hown1.alloc _) _ [n] rfl (intSlice_one w1 n) (by simp) (Nat.le_trans hb1.size (by simp)) ?_; intro v2 w2 hown2 hb2)
      | (at_builtin; refine wpList_append_ints rfl (.tmp 43) (.tmp 46) rfl w.heap.size _ _ rfl hown2 _ [] rfl (.inl ⟨rfl, rfl⟩) (by simp) (Nat.le_trans hb1.size (Nat.le_trans (by simp) hb2.size)) ?_; intro v3 w3 hown3 hb3))
    go_ret
    exact ⟨v3, rfl, IntSlice.of_own hown3, ((hb1.alloc hb1.size _).trans hb2).trans hb3⟩

set_option maxRecDepth 100000 in
set_option maxHeartbeats 1000000 in
theorem add_row (b off cap : Nat) (zs : List Int) (n : Int) (w : World) (hl : zs.length ≤ 1000000000) (hcap : zs.length ≤ cap)
    (h : ∀ i z, zs[i]? = some z → w.cell? ⟨b, off + i, none⟩ = some (.int .i64 z)) :
    Calls Tryz.prog 40 #[.slice (some ⟨b, off, none⟩) zs.length cap, .int .i64 n] w fun e w' => ∃ v, e = .returned v ∧ IntSlice w' v (ins zs n) ∧ Below w.heap.size w w' := by
  have hown0 : w.ownsRow w.heap.size 3 1 (.slice none 0 0) ([] : List Int).length (ints []) := ⟨rfl, .inl ⟨rfl, rfl⟩⟩
  have hcell : ∀ k, k < zs.length → w.cell? ⟨b, off + k, none⟩ = some (.int .i64 (zs.getD k 0)) := fun k hk => h k _ (by simp [List.getD, hk])
  have HC := Lib.hid hcell
  have H := Lib.hid h
  have HO := Lib.hid hown0
  clear hcell h hown0
  go_enter Tryz.func40, Tryz.ntmps40
  go_wp2_with fail
  go_loopw [5] (fun v wr => ∃ k : Nat, v = .int .i64 k ∧ k ≤ zs.length ∧ posOf zs n zs.length = posOf zs n k ∧ w = wr)
    (fun i _ => (intOf i).toNat)
  case atStart => exact ⟨zs.length, rfl, Nat.le_refl _, rfl, rfl⟩
  case round =>
    obtain ⟨k, rfl, hk, hp, rfl⟩ := hrel
    have HP := Lib.hid hp
    clear hp
    by_cases hgo : 0 < k ∧ n < zs.getD (k - 1) 0
    · obtain ⟨j, rfl⟩ : ∃ j, k = j + 1 := ⟨k - 1, by omega⟩
      have hc := HC.out j (by omega)
      have hlt : n < zs.getD j 0 := by simpa using hgo.2
      obtain ⟨x, hx⟩ : ∃ x, x = zs.getD j 0 := ⟨_, rfl⟩
      rw [← hx] at hc hlt
      have HX := Lib.hid hx
      clear hx hgo
      go_wp2_with fail
      go_roundw
      case rel => exact ⟨j, by go_num, by omega, HP.out.trans (by rw [posOf, if_pos (HX.out ▸ hlt)]), trivial⟩
      case measure => simp [intOf]
    · have hpos : posOf zs n zs.length = k := HP.out.trans (posOf_here zs n k (by
        by_cases h0 : k = 0
        · exact .inl h0
        · exact .inr fun q => hgo ⟨by omega, q⟩))
      by_cases hsame : 0 < k ∧ zs.getD (k - 1) 0 = n
      · have hins : ins zs n = zs := by unfold ins; rw [hpos, if_pos hsame]
        have HI := Lib.hid hins
        obtain ⟨j, rfl⟩ : ∃ j, k = j + 1 := ⟨k - 1, by omega⟩
        have hc := HC.out j (by omega)
        have hx : zs.getD j 0 = n := by simpa using hsame.2
        rw [hx] at hc
        clear hx hgo hpos hsame hins
        go_wp2_with fail
        go_ret
        exact ⟨_, rfl, HI.out.symm ▸ .inr ⟨b, off, cap, rfl, hcap, H.out⟩, Below.refl _ _⟩
      · have hins : ins zs n = zs.take k ++ [n] ++ zs.drop k := by unfold ins; rw [hpos, if_neg hsame]
        have HI := Lib.hid hins
        clear hins hpos
        by_cases h0 : k = 0
        · subst h0
          have HI0 : Hid (ins zs n = zs.take 0 ++ [n] ++ zs) := Lib.hid (by have := HI.out; rwa [List.drop_zero] at this)
          clear hgo hsame
          go_wp2_with (first
            | (at_builtin; refine wpList_append_ints rfl (.tmp 34) (.tmp 37) rfl w.heap.size _ [] rfl HO.out _ (zs.take 0) rfl (intSlice_take hcap H.out hk) (by simp <;> omega) (Nat.le_refl _) ?_; intro v1 w1 hown1 hb1)
            | (at_builtin; refine wpList_append_ints rfl (.tmp 39) (.tmp 41) rfl w.heap.size _ _ rfl (hown1.alloc _) _ [n] rfl (intSlice_one w1 n) (by simp <;> omega) (Nat.le_trans hb1.size (by simp)) ?_; intro v2 w2 hown2 hb2)
            | (at_builtin; refine wpList_append_ints rfl (.tmp 43) (.tmp 46) rfl w.heap.size _ _ rfl hown2 _ zs rfl ((intSlice_row hcap H.out).below (((hb1.alloc hb1.size _).trans hb2))) (by simp <;> omega) (Nat.le_trans hb1.size (Nat.le_trans (by simp) hb2.size)) ?_; intro v3 w3 hown3 hb3))
          go_ret
          exact ⟨v3, rfl, HI0.out.symm ▸ IntSlice.of_own hown3, ((hb1.alloc hb1.size _).trans hb2).trans hb3⟩
        · obtain ⟨j, rfl⟩ : ∃ j, k = j + 1 := ⟨k - 1, by omega⟩
          have hc := HC.out j (by omega)
          have h1 : ¬ n < zs.getD j 0 := fun q => hgo ⟨by omega, by simpa using q⟩
          have h2 : zs.getD j 0 ≠ n := fun q => hsame ⟨by omega, by simpa using q⟩
          obtain ⟨x, hx⟩ : ∃ x, x = zs.getD j 0 := ⟨_, rfl⟩
          rw [← hx] at hc h1 h2
          have hle : x < n := by omega
          have hne : (x == n) = false := by simpa using h2
          clear h1 h2
          clear hx hgo hsame h0
          go_wp2_with (first
            | (at_builtin; refine wpList_append_ints rfl (.tmp 34) (.tmp 37) rfl w.heap.size _ [] rfl HO.out _ (zs.take (j + 1)) rfl (intSlice_take hcap H.out hk) (by simp <;> omega) (Nat.le_refl _) ?_; intro v1 w1 hown1 hb1)
            | (at_builtin; refine wpList_append_ints rfl (.tmp 39) (.tmp 41) rfl w.heap.size _ _ rfl (hown1.alloc _) _ [n] rfl (intSlice_one w1 n) (by simp <;> omega) (Nat.le_trans hb1.size (by simp)) ?_; intro v2 w2 hown2 hb2)
            | (at_builtin; refine wpList_append_ints rfl (.tmp 43) (.tmp 46) rfl w.heap.size _ _ rfl hown2 _ (zs.drop (j + 1)) rfl ((intSlice_drop hcap H.out hk _ (fun q => if_neg (by omega)) (by split; exact ⟨_, rfl⟩; exact ⟨_, rfl⟩)).below (((hb1.alloc hb1.size _).trans hb2))) (by simp <;> omega) (Nat.le_trans hb1.size (Nat.le_trans (by simp) hb2.size)) ?_; intro v3 w3 hown3 hb3))
          all_goals (go_ret; exact ⟨v3, rfl, HI.out.symm ▸ IntSlice.of_own hown3, ((hb1.alloc hb1.size _).trans hb2).trans hb3⟩)

theorem add_any (v : Value) (zs : List Int) (n : Int) (w : World) (hl : zs.length ≤ 1000000000) (h : IntSlice w v zs) :
    Calls Tryz.prog 40 #[v, .int .i64 n] w fun e w' => ∃ v, e = .returned v ∧ IntSlice w' v (ins zs n) ∧ Below w.heap.size w w' := by
  rcases h with ⟨rfl, rfl⟩ | ⟨b, off, cap, rfl, hc, h3⟩
  · exact add_nil n w
  · exact add_row b off cap zs n w hl hc h3
end Go.Proofs.YtaadhehcoegmhaaGreatDoor
/- The scanner: rest, blanks. -/
namespace Go.Proofs.YtaadhehcoegmhaaGreatDoor
open Go Go.RowKit

/-- A scanner's cells. -/
def scanCells (l : List UInt8) (a : Nat) (lex : Value) (next : Int) : Array Value := #[.string (bs l), .int .i64 a, lex, .int .i64 next]

theorem below_drewN {B : Nat} {a w : World} (h : Below B a w) (n : Nat) : Below B a (w.drewN n) := ⟨h.os, h.tape, h.output, h.size, h.block⟩

set_option maxRecDepth 100000 in
set_option maxHeartbeats 1000000 in
theorem rest_any (c : Nat) (l : List UInt8) (a : Nat) (lex : Value) (next : Int) (w : World) (hc : w.heap[c]? = some (.cells (scanCells l a lex next) 296 (0, 0))) (ha : a ≤ l.length) :
    Calls Tryz.prog 254 #[.pointer (some ⟨c, 0, none⟩)] w fun e w' => e = .returned (.string (bs (l.drop a))) ∧ Below w.heap.size w w' := by
  have hz := bs_size l
  have hx : (bs l).extract a l.length = bs (l.drop a) := bs_drop l a _ rfl
  have HX := Lib.hid hx
  have c0 : w.cell? ⟨c, 0, none⟩ = some (.string (bs l)) := by rw [Lib.cell_of_heap hc]; rfl
  have c1 : w.cell? ⟨c, 1, none⟩ = some (.int .i64 a) := by rw [Lib.cell_of_heap hc]; rfl
  have h1 : (a : Int) ≤ (l.length : Int) := by omega
  clear hx hc
  go_enter Tryz.func254, Tryz.ntmps254
  go_wp2_with fail
  go_quiet (fail)
  go_wp2_with fail
  rw [HX.out]
  go_ret
  exact ⟨rfl, below_drewN (Below.refl _ _) _⟩

theorem grown_of_below {w w' : World} (h : Below w.heap.size w w') (row : Option Nat) : w.grownBy w' row := ⟨h.os, h.tape, h.output, h.size, fun k hk _ => h.block k hk⟩

theorem setCell_row {w : World} {b i : Nat} {cs : Array Value} {T : TypeId} {fr : Nat × Nat} (hb : w.heap[b]? = some (.cells cs T fr)) (v : Value) :
    (w.setCell ⟨b, i, none⟩ v).heap[b]? = some (.cells (cs.setIfInBounds i v) T fr) := by
  simp [World.setCell, Array.getElem?_modify, hb]
theorem grown_setCell {w w' : World} {c i : Nat} {v : Value} (h : w.grownBy w' (some c)) : w.grownBy (w'.setCell ⟨c, i, none⟩ v) (some c) :=
  h.trans ⟨rfl, rfl, rfl, by simp [World.setCell], fun k _ hne => Below.heap_setCell _ _ _ _ (fun e => hne (by rw [e]))⟩

set_option maxRecDepth 100000 in
set_option maxHeartbeats 2000000 in
theorem blanks_any (c : Nat) (l : List UInt8) (a : Nat) (lex : Value) (next : Int) (w : World) (hc : w.heap[c]? = some (.cells (scanCells l a lex next) 296 (0, 0))) (ha : a ≤ l.length) (hl : l.length ≤ 900) :
    Calls Tryz.prog 208 #[.pointer (some ⟨c, 0, none⟩)] w fun e w' => e = .returned (.tuple #[]) ∧
      w'.heap[c]? = some (.cells (scanCells l (l.length - (trimSet [9, 10, 13, 32] (l.drop a)).length) lex next) 296 (0, 0)) ∧ w.grownBy w' (some c) := by
  have hz := bs_size l
  obtain ⟨m, hm⟩ : ∃ m, m = trimSet [9, 10, 13, 32] (l.drop a) := ⟨_, rfl⟩
  have hle : m.length ≤ l.length := by rw [hm]; exact Nat.le_trans (List.dropWhile_sublist _).length_le (by simp)
  have htrim : ∀ w, Calls Tryz.prog 188 #[.string (bs (l.drop a)), .string ⟨#[9, 10, 13, 32]⟩] w fun e w' => e = .returned (.string (bs m)) ∧ Below w.heap.size w w' := fun w => by
    rw [hm]; exact trimLeft_blanks _ w
  have hz2 := bs_size m
  have hli : (m.length : Int) ≤ (l.length : Int) := by omega
  rw [← hm]
  have HM := Lib.hid hm
  have HT := Lib.hid htrim
  clear hm htrim
  have c0 : w.cell? ⟨c, 0, none⟩ = some (.string (bs l)) := by rw [Lib.cell_of_heap hc]; rfl
  have HC := Lib.hid hc
  have c1 : w.cell? ⟨c, 1, none⟩ = some (.int .i64 a) := by rw [Lib.cell_of_heap hc]; rfl
  have hfz : w.frozen? ⟨c, 1, none⟩ = false := by simp [World.frozen?, hc]
  clear hc
  have hwr : IntKind.i64.wrap ((l.length : Int) - (m.length : Int)) = ((l.length - m.length : Nat) : Int) := by rw [IntKind.wrap_i64]; omega
  have HW := Lib.hid hwr
  clear hwr
  go_enter Tryz.func208, Tryz.ntmps208
  go_wp2_with fail
  go_region_law (first
    | (go_simp; go_at_call 254; refine Calls.mono (rest_any c l a lex next _ HC.out ha) ?_; rintro e w8 ⟨rfl, hb8⟩; have c08 := (hb8.cell (at_lt c0)).trans c0; have c18 := (hb8.cell (at_lt c1)).trans c1; have f18 := (hb8.frozen (p := ⟨c, 1, none⟩) (at_lt c1)).trans hfz)
    | (go_simp; go_at_call 188; refine Calls.mono (HT.out _) ?_; rintro e w9 ⟨rfl, hb9⟩; have c09 := (hb9.cell (at_lt c08)).trans c08; have c19 := (hb9.cell (at_lt c18)).trans c18; have f19 := (hb9.frozen (p := ⟨c, 1, none⟩) (at_lt c18)).trans f18))
  all_goals
    have hg8 := (hb8.block c (Array.getElem?_eq_some_iff.1 HC.out).1).trans HC.out
    have hg9 := (hb9.block c (Array.getElem?_eq_some_iff.1 hg8).1).trans hg8
    rw [HW.out]
    go_end0
    exact ⟨rfl, by rw [setCell_row hg9]; rfl, grown_setCell (grown_of_below (below_then (below_then (Below.refl _ _).drew (Nat.le_refl _) hb8) hb8.size hb9) _)⟩
end Go.Proofs.YtaadhehcoegmhaaGreatDoor
/- round: do some need each other. -/
namespace Go.Proofs.YtaadhehcoegmhaaGreatDoor
open Go Go.RowKit

/-- The needs, as an argument holds them. -/
def NeedsAt (w : World) (A : Option Addr) (n : Nat) (nd : Nat → Nat) : Prop := ∀ i, i < n → nd i < 256 ∧ ∃ b off, A = some ⟨b, off, none⟩ ∧ w.cell? ⟨b, off + i, none⟩ = some (.int .u8 (nd i : Nat))
theorem NeedsAt.below {w w' : World} {A : Option Addr} {n : Nat} {nd : Nat → Nat} (h : NeedsAt w A n nd) (hb : Below w.heap.size w w') : NeedsAt w' A n nd := fun i hi => by
  obtain ⟨h1, b, off, h2, h3⟩ := h i hi
  exact ⟨h1, b, off, h2, (hb.cell (at_lt h3)).trans h3⟩
/-- A row of bytes. -/
def ByteRow (w : World) (r n : Nat) (f : Nat → Nat) : Prop := w.heap[r]? = some (.cells ((List.range n).map fun i => Value.int .u8 (f i : Nat)).toArray 5 (0, 0))
theorem ByteRow.cell {w : World} {r n : Nat} {f : Nat → Nat} (h : ByteRow w r n f) {i : Nat} (hi : i < n) : w.cell? ⟨r, i, none⟩ = some (.int .u8 (f i : Nat)) := by
  rw [Lib.cell_of_heap h]
  simp [hi]
theorem ByteRow.frozen {w : World} {r n : Nat} {f : Nat → Nat} (h : ByteRow w r n f) (i : Nat) : w.frozen? ⟨r, i, none⟩ = false := by
  unfold ByteRow at h
  simp [World.frozen?, h]
theorem ByteRow.set {w : World} {r n : Nat} {f : Nat → Nat} (h : ByteRow w r n f) (i v : Nat) (_hi : i < n) : ByteRow (w.setCell ⟨r, i, none⟩ (.int .u8 (v : Nat))) r n (fun j => if j = i then v else f j) := by
  unfold ByteRow at h ⊢
  rw [setCell_row h]
  congr 2
  apply Array.ext
  · simp
  · intro j h1 h2
    simp at h1 h2 ⊢
    by_cases hj : i = j
    · subst hj; simp
    · rw [List.getElem_set_ne hj]
      simp [Ne.symm hj]
theorem ByteRow.congr {w : World} {r n : Nat} {f g : Nat → Nat} (h : ByteRow w r n f) (hfg : ∀ i, i < n → f i = g i) : ByteRow w r n g := by
  unfold ByteRow at h ⊢
  rw [h]
  congr 3
  apply List.map_congr_left
  intro i hi
  rw [hfg i (by simpa using hi)]

theorem ByteRow.made (w : World) (n : Nat) : ByteRow (w.alloc (.cells (madeCells #[.int .u8 0] n) 5)) w.heap.size n (fun _ => 0) := by
  unfold ByteRow
  rw [heap_alloc_new]
  congr 2
  apply Array.ext
  · simp [madeCells]
  · intro j h1 h2
    simp [madeCells, Nat.mod_one]
theorem ByteRow.below_set {w w' : World} {B r i : Nat} {v : Value} (h : Below B w w') (hr : B ≤ r) : Below B w (w'.setCell ⟨r, i, none⟩ v) :=
  h.trans ⟨rfl, rfl, rfl, by simp [World.setCell], fun k hk => Below.heap_setCell _ _ _ _ (show k ≠ r by omega)⟩

/-- The rows as the loops have them. -/
def f3 (nd : Nat → Nat) (n t i j : Nat) : Nat := if j < i then reachN nd n (t + 1) (nd j) else reachN nd n t (nd j)
def f4 (nd : Nat → Nat) (n t i k j : Nat) : Nat := if j = i then stepTo nd k (reachN nd n t (nd i)) else f3 nd n t i j
theorem f3_next (nd : Nat → Nat) (n t i j : Nat) : f4 nd n t i n j = f3 nd n t (i + 1) j := by
  unfold f4 f3
  by_cases h : j = i
  · subst h; rw [if_pos rfl, if_pos (by omega), reachN_succ]; rfl
  · rw [if_neg h]
    by_cases h2 : j < i
    · rw [if_pos h2, if_pos (by omega)]
    · rw [if_neg h2, if_neg (by omega)]
theorem f4_zero (nd : Nat → Nat) (n t i j : Nat) : f3 nd n t i j = f4 nd n t i 0 j := by
  unfold f4
  by_cases h : j = i
  · subst h; rw [if_pos rfl]; unfold f3; rw [if_neg (by omega)]; rfl
  · rw [if_neg h]

set_option maxRecDepth 100000 in
set_option maxHeartbeats 8000000 in
theorem round_any (A : Option Addr) (m cap n : Nat) (nd : Nat → Nat) (w : World) (hn : n ≤ 8) (hm : n ≤ m) (h : NeedsAt w A n nd) :
    Calls Tryz.prog 22 #[.slice A m cap, .int .i64 n] w fun e w' => e = .returned (.bool (roundB nd n)) ∧ Below w.heap.size w w' := by
  have hmk := fun w => run_make_row' (P := Tryz.prog) 42 5 (.int .u8 0) 1 Tryz.underlying42 (by kernel_rfl) rfl .i64 .i64 n (by omega) (by omega) w
  have h256 : ∀ j, j < n → nd j < 256 := fun j hj => (h j hj).1
  have H256 := Lib.hid h256
  have HN := Lib.hid h
  have hrow0 := ByteRow.made w n
  have hb0 : Below w.heap.size w (w.alloc (.cells (madeCells #[.int .u8 0] n) 5)) := (Below.refl _ _).alloc (Nat.le_refl _) _
  have HROW0 := Lib.hid hrow0
  have HB0 := Lib.hid hb0
  clear h256 h hrow0 hb0
  go_enter Tryz.func22, Tryz.ntmps22
  go_wp2_with fail
  go_loopw [6] (fun v wr => ∃ i : Nat, v = .int .i64 i ∧ i ≤ n ∧ ByteRow wr w.heap.size n (fun j => if j < i then nd j else 0) ∧ Below w.heap.size w wr) (fun v _ => n - (intOf v).toNat)
  case atStart => exact ⟨0, rfl, by omega, HROW0.out.congr (fun j _ => by simp), HB0.out⟩
  case round =>
    obtain ⟨i, rfl, hi, hrow, hb⟩ := hrel
    rename World => wr
    have HR := Lib.hid hrow
    have HB := Lib.hid hb
    by_cases hlt : i < n
    · obtain ⟨_, b, off, rfl, hc⟩ := HN.out i hlt
      have hcr := (hb.cell (at_lt hc)).trans hc
      have hold := hrow.cell hlt
      have hfz := hrow.frozen i
      have him : i < m := by omega
      clear hrow hb hc
      go_wp2_with fail
      go_roundw
      case rel =>
        refine ⟨i + 1, by go_num, by omega, (HR.out.set i (nd i) hlt).congr (fun j _ => ?_), ByteRow.below_set HB.out (Nat.le_refl _)⟩
        by_cases h1 : j = i
        · subst h1; simp
        · by_cases h2 : j < i
          · rw [if_neg h1, if_pos h2, if_pos (by omega)]
          · rw [if_neg h1, if_neg h2, if_neg (by omega)]
      case measure => simp [intOf]; omega
    obtain ⟨n', rfl⟩ : ∃ n', n' = n := ⟨_, rfl⟩
    have hin : i = n' := by omega
    have HR1 := Lib.hid (show ByteRow wr w.heap.size n' (fun j => reachN nd n' 0 (nd j)) from HR.out.congr fun j hj => by rw [if_pos (by omega)]; rfl)
    clear hrow hb HR hin
    have hni : ¬ i < n' := hlt
    go_wp2_with fail
    go_loopw [7] (fun v wr => ∃ t : Nat, v = .int .i64 t ∧ t ≤ n' ∧ ByteRow wr w.heap.size n' (fun j => reachN nd n' t (nd j)) ∧ Below w.heap.size w wr) (fun v _ => n' - (intOf v).toNat)
    case atStart => exact ⟨0, rfl, by omega, HR1.out, HB.out⟩
    case round =>
      obtain ⟨t, rfl, ht, hrow, hb⟩ := hrel
      rename World => w2
      have HR2 := Lib.hid hrow
      have HB2 := Lib.hid hb
      clear hrow hb
      by_cases hlt2 : t < n'
      · go_wp2_with fail
        go_loopw [8] (fun v wr => ∃ i : Nat, v = .int .i64 i ∧ i ≤ n' ∧ ByteRow wr w.heap.size n' (f3 nd n' t i) ∧ Below w.heap.size w wr) (fun v _ => n' - (intOf v).toNat)
        case atStart => exact ⟨0, rfl, by omega, HR2.out.congr fun j _ => by simp [f3], HB2.out⟩
        case round =>
          obtain ⟨i3, rfl, hi3, hrow, hb⟩ := hrel
          rename World => w3
          have HR3 := Lib.hid hrow
          have HB3 := Lib.hid hb
          clear hrow hb
          by_cases hlt3 : i3 < n'
          · go_wp2_with fail
            go_loopw [9] (fun v wr => ∃ k : Nat, v = .int .i64 k ∧ k ≤ n' ∧ ByteRow wr w.heap.size n' (f4 nd n' t i3 k) ∧ Below w.heap.size w wr) (fun v _ => n' - (intOf v).toNat)
            case atStart => exact ⟨0, rfl, by omega, HR3.out.congr fun j _ => f4_zero nd n' t i3 j, HB3.out⟩
            case round =>
              obtain ⟨k, rfl, hk, hrow, hb⟩ := hrel
              rename World => w4
              have HR4 := Lib.hid hrow
              have HB4 := Lib.hid hb
              by_cases hlt4 : k < n'
              · obtain ⟨v, hv⟩ : ∃ v, v = stepTo nd k (reachN nd n' t (nd i3)) := ⟨_, rfl⟩
                have hvlt : v < 256 := by rw [hv]; exact stepTo_lt nd k _ (reachN_lt nd n' H256.out t _ (H256.out i3 hlt3)) (fun j hj => H256.out j (by omega))
                have hcell : w4.cell? ⟨w.heap.size, i3, none⟩ = some (.int .u8 (v : Nat)) := by
                  rw [hrow.cell hlt3]; simp [f4, hv]
                have hfz := hrow.frozen i3
                obtain ⟨h256k, b, off, rfl, hc⟩ := HN.out k hlt4
                have hck := (hb.cell (at_lt hc)).trans hc
                have hkm : k < m := by omega
                have hbit := bit_test v k hvlt
                have hor := bits_or_u8_nat v (nd k) hvlt h256k
                have HV := Lib.hid hv
                clear hrow hb hc hv
                cases hq : v.testBit k with
                | true =>
                  rw [hq] at hbit
                  have HQ := Lib.hid hq
                  clear hq
                  go_wp2_with fail
                  go_region_law (go_simp)
                  all_goals
                    go_wp2_with fail
                    go_roundw
                    case rel =>
                      refine ⟨k + 1, by go_num, by omega, ((show ByteRow (w4.setCell ⟨w.heap.size, i3, none⟩ (.int .u8 ((v ||| nd k : Nat) : Int))).drew w.heap.size n' _ from HR4.out.set i3 (v ||| nd k) hlt3)).congr (fun j _ => ?_), (ByteRow.below_set HB4.out (Nat.le_refl _)).drew⟩
                      unfold f4
                      by_cases h1 : j = i3
                      · rw [if_pos h1, if_pos h1, stepTo_succ, ← HV.out, HQ.out, if_pos rfl]
                      · rw [if_neg h1, if_neg h1, if_neg h1]
                    case measure => simp [intOf]; omega
                | false =>
                  rw [hq] at hbit
                  have HQ := Lib.hid hq
                  clear hq
                  go_wp2_with fail
                  go_roundw
                  case rel =>
                    refine ⟨k + 1, by go_num, by omega, HR4.out.congr (fun j _ => ?_), HB4.out⟩
                    unfold f4
                    by_cases h1 : j = i3
                    · rw [if_pos h1, if_pos h1, stepTo_succ, ← HV.out, HQ.out]; simp
                    · rw [if_neg h1, if_neg h1]
                  case measure => simp [intOf]; omega
              · have hkn : k = n' := by omega
                have HR5 := Lib.hid (show ByteRow w4 w.heap.size n' (f3 nd n' t (i3 + 1)) from HR4.out.congr fun j _ => by rw [hkn]; exact f3_next nd n' t i3 j)
                clear hrow hb hkn
                go_wp2_with fail
                go_roundw
                case rel => exact ⟨i3 + 1, by go_num, by omega, HR5.out, HB4.out⟩
                case measure => simp [intOf]; omega
          · have hin3 : i3 = n' := by omega
            have HR5 := Lib.hid (show ByteRow w3 w.heap.size n' (fun j => reachN nd n' (t + 1) (nd j)) from HR3.out.congr fun j hj => by unfold f3; rw [if_pos (by omega)])
            clear hin3
            go_wp2_with fail
            go_roundw
            case rel => exact ⟨t + 1, by go_num, by omega, HR5.out, HB3.out⟩
            case measure => simp [intOf]; omega
      · have htn : t = n' := by omega
        have HR5 := Lib.hid (show ByteRow w2 w.heap.size n' (fun j => reachN nd n' n' (nd j)) by rw [← htn]; exact htn ▸ HR2.out)
        clear htn
        go_wp2_with fail
        go_loopw [10] (fun v wr => ∃ k : Nat, v = .int .i64 k ∧ k ≤ n' ∧ w2 = wr ∧ ∀ j, j < k → (reachN nd n' n' (nd j)).testBit j = false) (fun v _ => n' - (intOf v).toNat)
        case atStart => exact ⟨0, rfl, by omega, rfl, fun j hj => by omega⟩
        case round =>
          obtain ⟨k, rfl, hk, hw, hno⟩ := hrel
          rename World => w5
          subst hw
          by_cases hlt6 : k < n'
          · have hvlt : reachN nd n' n' (nd k) < 256 := reachN_lt nd n' H256.out n' _ (H256.out k hlt6)
            have hcell := HR5.out.cell hlt6
            obtain ⟨v, hv⟩ : ∃ v, v = reachN nd n' n' (nd k) := ⟨_, rfl⟩
            rw [← hv] at hvlt hcell
            have hbit := bit_test v k hvlt
            have HV := Lib.hid hv
            have HNO := Lib.hid hno
            clear hv hno
            cases hq : v.testBit k with
            | true =>
              rw [hq] at hbit
              have HRB := Lib.hid (show roundB nd n' = true by
                unfold roundB
                rw [List.any_eq_true]
                exact ⟨k, by simpa using hlt6, by rw [← HV.out]; exact hq⟩)
              clear hq
              go_wp2_with fail
              go_ret
              exact ⟨by rw [HRB.out]; rfl, HB2.out⟩
            | false =>
              rw [hq] at hbit
              have HNX := Lib.hid (show ∀ j, j < k + 1 → (reachN nd n' n' (nd j)).testBit j = false from fun j hj => by
                by_cases h1 : j < k
                · exact HNO.out j h1
                · obtain rfl : j = k := by omega
                  rw [← HV.out]; exact hq)
              clear hq
              go_wp2_with fail
              go_roundw
              case rel => exact ⟨k + 1, by go_num, by omega, trivial, HNX.out⟩
              case measure => simp [intOf]; omega
          · have hkn : k = n' := by omega
            have HRB := Lib.hid (show roundB nd n' = false by
              unfold roundB
              rw [List.any_eq_false]
              intro j hj
              rw [hno j (by simp at hj; omega)]
              simp)
            clear hno hkn
            go_wp2_with fail
            go_ret
            exact ⟨by rw [HRB.out]; rfl, HB2.out⟩
end Go.Proofs.YtaadhehcoegmhaaGreatDoor
/- The scanner: add. -/
namespace Go.Proofs.YtaadhehcoegmhaaGreatDoor
open Go Go.RowKit

/-- A token as the scanner notes it. -/
structure Lx where
  kind : Int
  text : List UInt8
  at_ : Nat
def Lx.cells (t : Lx) : List Value := [.int .i64 t.kind, .string (bs t.text), .int .i64 t.at_]
def lexCells (ts : List Lx) : List Value := ts.flatMap Lx.cells
theorem lexCells_snoc (ts : List Lx) (t : Lx) : lexCells (ts ++ [t]) = lexCells ts ++ t.cells := by simp [lexCells]
theorem lexCells_length (ts : List Lx) : (lexCells ts).length = ts.length * 3 := by
  induction ts with
  | nil => rfl
  | cons t ts ih => simp [lexCells, Lx.cells] at ih ⊢; omega

theorem info347 : (Tryz.prog.info? 347).map (fun i => (i.zero, i.size, i.bytes)) = some (some (.agg #[.int .i64 0, .string ⟨#[]⟩, .int .i64 0]), 3, 32) := by kernel_rfl

/-- An owned row of one kind lies in no block of another kind. -/
theorem own_ne {w : World} {B c n size : Nat} {e T : TypeId} {v : Value} {xs : List Value} {cs : Array Value} {fr : Nat × Nat} (h : w.ownsRow B e size v n xs) (hc : w.heap[c]? = some (.cells cs T fr)) (hne : e ≠ T) : some c ≠ v.ownBlock := by
  intro hq
  rcases h.2 with ⟨rfl, _⟩ | ⟨g, cap, cur, rfl, _, hg, _⟩
  · cases hq
  · simp [Value.ownBlock] at hq
    subst hq
    rw [hc] at hg
    cases hg
    exact hne rfl

/-- The scanner: its cells, and its tokens' row. -/
structure Scan (B c : Nat) (l : List UInt8) (a : Nat) (ts : List Lx) (next : Int) (w : World) : Prop where
  row : ∃ lex, w.heap[c]? = some (.cells (scanCells l a lex next) 296 (0, 0)) ∧ w.ownsRow B 347 3 lex ts.length (lexCells ts)
  ge : B ≤ c

set_option maxRecDepth 100000 in
set_option maxHeartbeats 4000000 in
theorem add_row1 (B c : Nat) (l : List UInt8) (a : Nat) (ts : List Lx) (next k : Int) (t : List UInt8) (n : Nat) (lex : Value) (w : World)
    (hc : w.heap[c]? = some (.cells (scanCells l a lex next) 296 (0, 0))) (hown : w.ownsRow B 347 3 lex ts.length (lexCells ts)) (hB : B ≤ c) (ha : a + n ≤ l.length) (hl : l.length ≤ 900) (hts : ts.length ≤ 900) (hk : k = 1 ∨ k = 7 ∨ k = 8) :
    Calls Tryz.prog 256 #[.pointer (some ⟨c, 0, none⟩), .int .i64 k, .string (bs t), .int .i64 n] w fun e w' => e = .returned (.tuple #[]) ∧ Scan B c l (a + n) (ts ++ [⟨k, t, a⟩]) (if k = 8 then 0 else 1) w' ∧ Below B w w' := by
  obtain ⟨i0, hi, hz0, hz1, hz2⟩ := info_parts info347
  have hlt : c < w.heap.size := (Array.getElem?_eq_some_iff.1 hc).1
  have hsz := lexCells_length ts
  have c1 : w.cell? ⟨c, 1, none⟩ = some (.int .i64 a) := by rw [Lib.cell_of_heap hc]; rfl
  have c2 : w.cell? ⟨c, 2, none⟩ = some lex := by rw [Lib.cell_of_heap hc]; rfl
  have hfz : ∀ i, w.frozen? ⟨c, i, none⟩ = false := fun i => by simp [World.frozen?, hc]
  have HF := Lib.hid hfz
  have HC := Lib.hid hc
  have HO := Lib.hid hown
  clear hc hown hfz
  go_enter Tryz.func256, Tryz.ntmps256
  go_wp2_with fail
  go_region_law (first
    | (refine step_append_lies _ (by rfl) _ _ _ (by rfl) B 347 i0 _ 3 32 Tryz.underlying220 hi hz0 hz1 hz2 rfl (by omega) lex ts.length (lexCells ts) (by rfl) ((HO.out.alloc _).drew)
            ⟨w.heap.size, 0, none⟩ 1 1 [.int .i64 k, .string (bs t), .int .i64 a] (by rfl) (by rfl) (World.news_of_block (cs := #[.int .i64 k, .string (bs t), .int .i64 a]) (t := 347) (fr := (0, 0)) (heap_alloc_new w _)) (by simp [Value.oneCell'])
            (by omega) (by simp [maxLen]; omega) (by omega) (by simp; omega) (w.heap.size + 1) (by simp) ?_; intro gg cap w2 hown1 hgrow hat hlt2; have hg2 : w2.heap[c]? = some (.cells (scanCells l a lex next) 296 (0, 0)) := (hgrow.block c (by simp; omega) (own_ne HO.out HC.out (by decide))).trans ((heap_alloc_old w _ hlt).trans HC.out); have d2 : w2.cell? ⟨c, 2, none⟩ = some lex := by rw [Lib.cell_of_heap hg2]; rfl
       have f2 : w2.frozen? ⟨c, 2, none⟩ = false := by simp [World.frozen?, hg2]))
  all_goals
    have hbelA : Below B w w2 := below_grown ((((Below.refl B w).alloc (Nat.le_trans hB (Nat.le_of_lt hlt)) _)).drew) (by simp; omega) (fun k hk => (HO.out.lt k hk).1) hgrow
    have hgW := setCell_row hg2 (i := 2) (.slice (some ⟨gg, 0, none⟩) (ts.length + 1) cap)
    have hownW : (w2.setCell ⟨c, 2, none⟩ (.slice (some ⟨gg, 0, none⟩) (ts.length + 1) cap)).ownsRow B 347 3 (.slice (some ⟨gg, 0, none⟩) (ts.length + 1) cap) (ts ++ [Lx.mk k t a]).length (lexCells (ts ++ [Lx.mk k t a])) := by
      rw [lexCells_snoc]
      have := hown1.kept (grown_setCell (c := c) (i := 2) (v := .slice (some ⟨gg, 0, none⟩) (ts.length + 1) cap) (⟨rfl, rfl, rfl, Nat.le_refl _, fun _ _ _ => rfl⟩ : w2.grownBy w2 (some c))) (.inr (Ne.symm (own_ne hown1 hg2 (by decide))))
      simpa [Lx.cells] using this
    have hbelW := hbelA.setCell (p := ⟨c, 2, none⟩) hB (.slice (some ⟨gg, 0, none⟩) (ts.length + 1) cap)
    generalize w2.setCell ⟨c, 2, none⟩ (.slice (some ⟨gg, 0, none⟩) (ts.length + 1) cap) = W at *
    generalize Value.slice (some ⟨gg, 0, none⟩) (ts.length + 1) cap = lex2 at *
    clear hg2 d2 f2 hgrow hat hlt2 hown1 hbelA
    have e1 : W.cell? ⟨c, 1, none⟩ = some (.int .i64 a) := by rw [Lib.cell_of_heap hgW]; rfl
    have e3 : W.cell? ⟨c, 3, none⟩ = some (.int .i64 next) := by rw [Lib.cell_of_heap hgW]; rfl
    have f1 : W.frozen? ⟨c, 1, none⟩ = false := by simp [World.frozen?, hgW]
    have f3 : W.frozen? ⟨c, 3, none⟩ = false := by simp [World.frozen?, hgW]
    have hfin : ∀ W2, W2.heap[c]? = some (.cells (scanCells l (a + n) lex2 (if k = 8 then 0 else 1)) 296 (0, 0)) → W.grownBy W2 (some c) → Scan B c l (a + n) (ts ++ [Lx.mk k t a]) (if k = 8 then 0 else 1) W2 ∧ Below B w W2 := fun W2 h1 h2 =>
      ⟨⟨⟨lex2, h1, hownW.kept h2 (.inr (Ne.symm (own_ne hownW hgW (by decide))))⟩, hB⟩, hbelW.trans ⟨h2.os, h2.tape, h2.output, h2.size, fun i hi => h2.block i (by have := hbelW.size; omega) (fun q => by cases q; omega)⟩⟩
    have HFIN := Lib.hid hfin
    have HGW := Lib.hid hgW
    clear hfin hownW hbelW hgW
    rcases hk with rfl | rfl | rfl
  all_goals
    go_wp2_with fail
    go_end0
    exact ⟨rfl, HFIN.out _ (by first | (rw [setCell_row (setCell_row (setCell_row HGW.out _) _) _]; rfl) | (rw [setCell_row (setCell_row HGW.out _) _]; rfl)) (by first | exact grown_setCell (grown_setCell (grown_setCell ⟨rfl, rfl, rfl, Nat.le_refl _, fun _ _ _ => rfl⟩)) | exact grown_setCell (grown_setCell ⟨rfl, rfl, rfl, Nat.le_refl _, fun _ _ _ => rfl⟩))⟩

theorem add_any1 (B c : Nat) (l : List UInt8) (a : Nat) (ts : List Lx) (next k : Int) (t : List UInt8) (n : Nat) (w : World) (h : Scan B c l a ts next w) (ha : a + n ≤ l.length) (hl : l.length ≤ 900) (hts : ts.length ≤ 900) (hk : k = 1 ∨ k = 7 ∨ k = 8) :
    Calls Tryz.prog 256 #[.pointer (some ⟨c, 0, none⟩), .int .i64 k, .string (bs t), .int .i64 n] w fun e w' => e = .returned (.tuple #[]) ∧ Scan B c l (a + n) (ts ++ [⟨k, t, a⟩]) (if k = 8 then 0 else 1) w' ∧ Below B w w' := by
  obtain ⟨⟨lex, h1, h2⟩, hB⟩ := h
  exact add_row1 B c l a ts next k t n lex w h1 h2 hB ha hl hts hk
end Go.Proofs.YtaadhehcoegmhaaGreatDoor
/- The scanner: sign at a plus. -/
namespace Go.Proofs.YtaadhehcoegmhaaGreatDoor
open Go Go.RowKit

/-- The rows of signs. -/
def signRows : List (List (List UInt8)) := [[[58, 58], [46, 46]], [[47, 47], [33, 61], [60, 61], [62, 61]], [[40], [41], [91], [93], [46], [64], [44]], [[47], [124], [43], [45], [61], [60], [62]]]
def signRow (i : Nat) : List (List UInt8) := signRows.getD i []
def strCells (ps : List (List UInt8)) : Array Value := (ps.map fun p => Value.string (bs p)).toArray

theorem Scan.below {B c : Nat} {l : List UInt8} {a : Nat} {ts : List Lx} {next : Int} {w w' : World} (h : Scan B c l a ts next w) (hb : Below w.heap.size w w') : Scan B c l a ts next w' := by
  obtain ⟨⟨lex, h1, h2⟩, hB⟩ := h
  exact ⟨⟨lex, (hb.block _ (Array.getElem?_eq_some_iff.1 h1).1).trans h1, h2.kept (grown_of_below hb none) (by cases hv : lex.ownBlock <;> simp)⟩, hB⟩

theorem rest_scan (B c : Nat) (l : List UInt8) (a : Nat) (ts : List Lx) (next : Int) (w : World) (h : Scan B c l a ts next w) (ha : a ≤ l.length) :
    Calls Tryz.prog 254 #[.pointer (some ⟨c, 0, none⟩)] w fun e w' => e = .returned (.string (bs (l.drop a))) ∧ Below w.heap.size w w' := by
  obtain ⟨⟨lex, h1, h2⟩, hB⟩ := h
  exact rest_any c l a lex next w h1 ha

theorem sign_prefix (r : List UInt8) : ∀ (i j : Nat) (p : List UInt8), (signRow i)[j]? = some p → Lib.hasPrefix (43 :: r) p = true → i = 3 ∧ p = [43] := by
  intro i j p hp hh
  have hall : (signRows.all fun ps => ps.all fun p => (p == [43]) || (match p with | [] => false | x :: _ => x != 43)) = true := by decide
  have h3 : ∀ i, i ≠ 3 → (signRow i).all (fun p => p != [43]) = true := by
    intro i hi
    match i, hi with
    | 0, _ => decide
    | 1, _ => decide
    | 2, _ => decide
    | i + 4, _ => rfl
  have hmem := List.mem_of_getElem? hp
  have hne : p = [43] := by
    have hrow : signRow i ∈ signRows := by
      unfold signRow at hmem ⊢
      rw [List.getD_eq_getElem?_getD] at hmem ⊢
      cases hq : signRows[i]? with
      | none => rw [hq] at hmem; simp at hmem
      | some x => exact List.mem_of_getElem? hq
    have h1 := List.all_eq_true.1 (List.all_eq_true.1 hall _ hrow) p hmem
    cases p with
    | nil => simp at h1
    | cons x t =>
      by_cases hx : x = 43
      · subst hx
        simpa using h1
      · exfalso
        have : Lib.hasPrefix (43 :: r) (x :: t) = false := by
          simp [Lib.hasPrefix, List.isPrefixOf, hx]
        rw [this] at hh
        cases hh
  refine ⟨?_, hne⟩
  by_cases hi : i = 3
  · exact hi
  · have := List.all_eq_true.1 (h3 i hi) p hmem
    rw [hne] at this
    simp at this

theorem strCells_at {w : World} {g : Nat} {ps : List (List UInt8)} {j : Nat} {p : List UInt8} (hg : w.heap[g]? = some (.cells (strCells ps) 9 (0, 0))) (hp : ps[j]? = some p) : w.cell? ⟨g, j, none⟩ = some (.string (bs p)) := by
  rw [Lib.cell_of_heap hg]; simp [strCells, hp]

/-- The blocks that sign lays: four rows of signs, and the row of them. -/
def SignAt (G : Nat) (w : World) : Prop := (∀ i, i < 4 → w.heap[G + i]? = some (.cells (strCells (signRow i)) 9 (0, 0))) ∧ (∀ i, i < 4 → w.cell? ⟨G + 4, i, none⟩ = some (.slice (some ⟨G + i, 0, none⟩) (signRow i).length (signRow i).length))
theorem SignAt.below {G : Nat} {w w' : World} (h : SignAt G w) (hb : Below w.heap.size w w') : SignAt G w' :=
  ⟨fun i hi => (hb.block _ (Array.getElem?_eq_some_iff.1 (h.1 i hi)).1).trans (h.1 i hi), fun i hi => (hb.cell (at_lt (h.2 i hi))).trans (h.2 i hi)⟩

theorem alloc_old {w : World} {x : Obj} {k : Nat} {v : Obj} (o : Obj) (h : w.heap[k]? = some x) (e : v = x) : (w.alloc o).heap[k]? = some v := by
  rw [heap_alloc_old w o (Array.getElem?_eq_some_iff.1 h).1, h, e]

def signWorld (w : World) : World :=
  (((((w.alloc (.cells (strCells (signRow 0)) 9)).alloc (.cells (strCells (signRow 1)) 9)).alloc (.cells (strCells (signRow 2)) 9)).alloc (.cells (strCells (signRow 3)) 9)).alloc
    (.cells #[.slice (some ⟨w.heap.size, 0, none⟩) 2 2, .slice (some ⟨w.heap.size + 1, 0, none⟩) 4 4, .slice (some ⟨w.heap.size + 1 + 1, 0, none⟩) 7 7, .slice (some ⟨w.heap.size + 1 + 1 + 1, 0, none⟩) 7 7] 56))
theorem new_at (w : World) (o : Obj) {n : Nat} (h : n = w.heap.size) : (w.alloc o).heap[n]? = some o := by subst h; exact heap_alloc_new w o
theorem signAt_new (w : World) : SignAt w.heap.size (signWorld w) := by
  have h4 : (signWorld w).heap[w.heap.size + 4]? = some (.cells #[.slice (some ⟨w.heap.size, 0, none⟩) 2 2, .slice (some ⟨w.heap.size + 1, 0, none⟩) 4 4, .slice (some ⟨w.heap.size + 1 + 1, 0, none⟩) 7 7, .slice (some ⟨w.heap.size + 1 + 1 + 1, 0, none⟩) 7 7] 56 (0, 0)) := new_at _ _ (by simp)
  refine ⟨fun i hi => ?_, fun i hi => ?_⟩
  · match i, hi with
    | 0, _ => exact alloc_old _ (alloc_old _ (alloc_old _ (alloc_old _ (new_at w _ rfl) rfl) rfl) rfl) rfl
    | 1, _ => exact alloc_old _ (alloc_old _ (alloc_old _ (new_at _ _ (by simp)) rfl) rfl) rfl
    | 2, _ => exact alloc_old _ (alloc_old _ (new_at _ _ (by simp)) rfl) rfl
    | 3, _ => exact alloc_old _ (new_at _ _ (by simp)) rfl
  · rw [Lib.cell_of_heap h4]
    match i, hi with
    | 0, _ => rfl
    | 1, _ => rfl
    | 2, _ => rfl
    | 3, _ => rfl
theorem below_signWorld (w : World) : Below w.heap.size w (signWorld w) :=
  (((((Below.refl _ _).alloc (Nat.le_refl _) _).alloc (by simp <;> omega) _).alloc (by simp <;> omega) _).alloc (by simp <;> omega) _).alloc (by simp <;> omega) _

set_option maxRecDepth 100000 in
set_option maxHeartbeats 4000000 in
theorem sign_plus (B c : Nat) (l : List UInt8) (a : Nat) (ts : List Lx) (next : Int) (r : List UInt8) (w : World) (h : Scan B c l a ts next w) (hd : l.drop a = 43 :: r) (hl : l.length ≤ 900) (hts : ts.length ≤ 900) (hBw : B ≤ w.heap.size) :
    Calls Tryz.prog 260 #[.pointer (some ⟨c, 0, none⟩)] w fun e w' => e = .returned (.bool true) ∧ Scan B c l (a + 1) (ts ++ [⟨8, [43], a⟩]) 0 w' ∧ Below B w w' := by
  have hal : a + 1 ≤ l.length := by
    have := congrArg List.length hd
    simp at this
    omega
  have H := Lib.hid h
  have HD := Lib.hid hd
  clear h hd
  go_enter Tryz.func260, Tryz.ntmps260
  go_wp2_with fail
  go_loopw [13] (fun v wr => ∃ i : Nat, v = .int .i64 i ∧ i ≤ 3 ∧ SignAt w.heap.size wr ∧ Below w.heap.size w wr)
    (fun i _ => 4 - (intOf i).toNat)
  case atStart => exact ⟨0, rfl, by omega, signAt_new w, below_signWorld w⟩
  case round =>
    obtain ⟨i, rfl, hi, hsg, hbel⟩ := hrel
    have hcell := hsg.2 i (by omega)
    have hrow := hsg.1 i (by omega)
    have HR := Lib.hid hrow
    have HS := Lib.hid hsg
    have hi4 : (i : Int) < 4 := by omega
    have hrl : (signRow i).length ≤ 7 := by
      have : i = 0 ∨ i = 1 ∨ i = 2 ∨ i = 3 := by omega
      rcases this with rfl | rfl | rfl | rfl <;> decide
    clear hrow hsg
    obtain ⟨R, hR⟩ : ∃ R, R = signRow i := ⟨_, rfl⟩
    rw [← hR] at hcell hrl
    have HRR := Lib.hid hR
    clear hR
    rename World => wi
    go_wp2_with fail
    go_loopw [20] (fun v wr => ∃ j : Nat, v = .int .i64 j ∧ j ≤ R.length ∧ (∀ k p, k < j → R[k]? = some p → p ≠ [43]) ∧ Below wi.heap.size wi wr)
      (fun i _ => R.length - (intOf i).toNat)
    case atStart => exact ⟨0, rfl, by omega, fun k p h => by omega, Below.refl _ _⟩
    case round =>
      obtain ⟨j, rfl, hj, hno, hb2⟩ := hrel
      have HNO := Lib.hid hno
      clear hno
      by_cases hlt : j < R.length
      · obtain ⟨p, hp⟩ : ∃ p, R[j]? = some p := ⟨R[j], by simp [hlt]⟩
        have hpc := strCells_at (ps := signRow i) (j := j) (p := p) ((hb2.block _ (Array.getElem?_eq_some_iff.1 HR.out).1).trans HR.out) (by rw [← HRR.out]; exact hp)
        have HP := Lib.hid hp
        clear hp
        have hbw := hbel.trans (hb2.mono hbel.size)
        have HSc := Lib.hid (H.out.below hbw)
        go_wp2_with fail
        refine Calls.mono (rest_scan B c l a ts next _ HSc.out (by omega)) ?_
        rintro e w5 ⟨rfl, hb5⟩
        dsimp only
        go_wp2_with fail
        refine Calls.mono (Tryz.strings_HasPrefix _ _ _) ?_
        rintro e w6 ⟨rfl, rfl⟩
        dsimp only
        have hbw5 := below_then hbw hbw.size hb5
        have hb25 := below_then hb2 hb2.size hb5
        have hpre : Lib.hasPrefix (bs (l.drop a)).data.toList (bs p).data.toList = Lib.hasPrefix (43 :: r) p := by rw [HD.out]
        rw [hpre]
        by_cases hpp : p = [43]
        · subst hpp
          have hi3 : i = 3 := (sign_prefix r i j [43] (by rw [← HRR.out]; exact HP.out) (by simp [Lib.hasPrefix, List.isPrefixOf])).1
          subst hi3
          rw [show Lib.hasPrefix (43 :: r) [43] = true by simp [Lib.hasPrefix, List.isPrefixOf]]
          have HSc6 := Lib.hid (H.out.below hbw5)
          clear hpre hbw hb2 hb5 hcell hpc
          go_wp2_with fail
          refine Calls.mono (add_any1 B c l a ts next 8 [43] 1 _ (HSc6.out.below ((Below.refl _ _).alloc (Nat.le_refl _) _)) hal hl hts (by simp)) ?_
          rintro e w7 ⟨rfl, h7, hb7⟩
          dsimp only
          have H7 := Lib.hid h7
          clear h7
          go_wp2_with fail
          go_ret
          exact ⟨rfl, H7.out, ((hbw5.mono hBw).alloc (by have := hbw5.size; omega) _).trans hb7⟩
        · have hfalse : Lib.hasPrefix (43 :: r) p = false := by
            cases hq : Lib.hasPrefix (43 :: r) p with
            | false => rfl
            | true => exact absurd (sign_prefix r i j p (by rw [← HRR.out]; exact HP.out) hq).2 hpp
          rw [hfalse]
          clear hpre hfalse
          go_wp2_with fail
          go_roundw
          case rel =>
            refine ⟨j + 1, by go_num, by omega, fun k q hk hq => ?_, hb25⟩
            by_cases hkj : k = j
            · subst hkj
              rw [HP.out] at hq
              exact Option.some.inj hq ▸ hpp
            · exact HNO.out k q (by omega) hq
          case measure => simp [intOf]; omega
      · obtain rfl : j = R.length := by omega
        have hi3 : i ≠ 3 := fun e => by
          subst e
          have hq : R[2]? = some [43] := by rw [HRR.out]; rfl
          exact HNO.out 2 [43] (List.getElem?_eq_some_iff.1 hq).1 hq rfl
        go_wp2_with fail
        go_roundw
        case rel => exact ⟨i + 1, by go_num, by omega, HS.out.below hb2, hbel.trans (hb2.mono hbel.size)⟩
        case measure => simp [intOf]; omega
end Go.Proofs.YtaadhehcoegmhaaGreatDoor
