/- translate. -/
import Derived.Test.YtaadhehcoegmhaaGreatDoorA13
namespace Go.Proofs.YtaadhehcoegmhaaGreatDoor
open Go Go.RowKit

/-- A character's place. -/
def ix (fr : List UInt8) (c : UInt8) : Int := Lib.idxOfS (strsOf fr) ⟨#[c]⟩

/-- What a character becomes. -/
def trc (fr tt : List UInt8) (c : UInt8) : List UInt8 :=
  if ix fr c < 0 then [c] else (tt[(ix fr c).toNat]?).toList

theorem trc_length (fr tt : List UInt8) (c : UInt8) : (trc fr tt c).length ≤ 1 := by
  unfold trc
  split
  · simp
  · cases tt[(ix fr c).toNat]? <;> simp

theorem tr_length (fr tt s : List UInt8) : (s.flatMap (trc fr tt)).length ≤ s.length := by
  induction s with
  | nil => simp
  | cons c r ih => have := trc_length fr tt c; simp only [List.flatMap_cons, List.length_append, List.length_cons]; omega

theorem tr_take (fr tt s : List UInt8) (k : Nat) (c : UInt8) (hk : s[k]? = some c) : (s.take (k + 1)).flatMap (trc fr tt) = (s.take k).flatMap (trc fr tt) ++ trc fr tt c := by
  have hlt : k < s.length := (List.getElem?_eq_some_iff.1 hk).1
  rw [List.take_succ_eq_append_getElem hlt, List.flatMap_append]
  have : s[k] = c := (List.getElem?_eq_some_iff.1 hk).2
  simp [this]

/-- What stands between two rounds. -/
def TrRel (B b : Nat) (w0 w : World) (v3 v4 v17 : Value) (fr tt s : List UInt8) (k : Nat) : Prop :=
  k ≤ s.length ∧ Lib.IsBuilderF 191 5 B b (Lib.byteCells ((s.take k).flatMap (trc fr tt))) w ∧ Strs w v3 fr ∧ Strs w v4 tt ∧ Strs w v17 s ∧ Below B w0 w

theorem builder_new {B b : Nat} {w : World} (hB : B ≤ b) (h : w.heap[b]? = some (.cells #[.pointer none, .slice none 0 0] 191 (0, 0))) : Lib.IsBuilderF 191 5 B b [] w :=
  .inl ⟨hB, .slice none 0 0, h, ⟨rfl, .inl ⟨rfl, rfl⟩⟩, by simp [Value.ownBlock]⟩

def ascii (l : List UInt8) : Prop := (∀ c ∈ l, c < 128) ∧ l.length ≤ 100000

/-- What translate's preparation holds while the arguments' box lies. -/
def HasBox (w : World) (t sl : Value) (xs : List GV) (w' : World) : Prop :=
  w'.cell? ⟨w.heap.size, 0, none⟩ = some t ∧ w'.cell? ⟨w.heap.size, 1, none⟩ = some sl ∧ Has sl xs w' ∧ Below w.heap.size w w'

set_option maxRecDepth 100000 in
set_option maxHeartbeats 1000000 in
theorem translate_any (t : Option Addr) (A : Option Addr) (n cap : Nat) (s fr tt : List UInt8) (w : World) (hs : ascii s) (hf : ascii fr) (ht : ascii tt)
    (h : Has (.slice A n cap) [.text ⟨s.toArray⟩, .text ⟨fr.toArray⟩, .text ⟨tt.toArray⟩] w) :
    Calls Tryz.prog 89 #[.agg #[.pointer t, .slice A n cap]] w fun e w' => e = .returned (.string ⟨(s.flatMap (trc fr tt)).toArray⟩) ∧ Below w.heap.size w w' := by
  go_enter Tryz.func89, Tryz.ntmps89
  go_wp2_with fail
  go_region_held3 (fun w' => w'.cell? ⟨w.heap.size, 0, none⟩ = some (.pointer t) ∧ w'.cell? ⟨w.heap.size, 1, none⟩ = some (.slice A n cap) ∧ Has (.slice A n cap) [.text ⟨s.toArray⟩, .text ⟨fr.toArray⟩, .text ⟨tt.toArray⟩] w' ∧ Below w.heap.size w w')
    (first | exact held_first h | exact held_next ‹_› ‹_›)
    (first
      | (go_at_call_of 77 (Value.int IntKind.i64 1); refine Calls.mono (Has.str (xs := [.text ⟨s.toArray⟩, .text ⟨fr.toArray⟩, .text ⟨tt.toArray⟩]) _ 1 _ rfl ?_) ?_; exact (‹_ ∧ _ ∧ Has _ _ _ ∧ _›).2.2.1; rintro e w1 ⟨rfl, hb1⟩)
      | (go_at_call_of 77 (Value.int IntKind.i64 2); refine Calls.mono (Has.str (xs := [.text ⟨s.toArray⟩, .text ⟨fr.toArray⟩, .text ⟨tt.toArray⟩]) _ 2 _ rfl ?_) ?_; exact (‹_ ∧ _ ∧ Has _ _ _ ∧ _›).2.2.1; rintro e w2 ⟨rfl, hb2⟩)
      | (go_at_call_of 133 (Value.string ⟨fr.toArray⟩); refine Calls.mono (chars_strs fr hf.1 hf.2 _) ?_; rintro e w3 ⟨A3, cap3, rfl, hfr, hb3⟩)
      | (go_at_call_of 133 (Value.string ⟨tt.toArray⟩); refine Calls.mono (chars_strs tt ht.1 ht.2 _) ?_; rintro e w4 ⟨A4, cap4, rfl, hto, hb4⟩))
  obtain ⟨hc0, hc1, hHas, hBel⟩ := (‹_ ∧ _ ∧ Has _ _ _ ∧ Below _ _ _›)
  have hfr' := (hfr.below hb2).below hb4
  clear hfr hb1 hb2 hb3 hb4
  have hd0 := cell_alloc hc0 (.cells #[.pointer none, .slice none 0 0] 191)
  have hd1 := cell_alloc hc1 (.cells #[.pointer none, .slice none 0 0] 191)
  go_wp2_with fail
  refine Calls.mono (Has.str (xs := [.text ⟨s.toArray⟩, .text ⟨fr.toArray⟩, .text ⟨tt.toArray⟩]) _ 0 _ rfl (hHas.alloc _)) ?_
  rintro e w5 ⟨rfl, hb5⟩
  dsimp only
  go_wp2_with fail
  refine Calls.mono (chars_strs s hs.1 hs.2 _) ?_
  rintro e w6 ⟨A6, cap6, rfl, hst, hb6⟩
  dsimp only
  have hf6 : Strs w6 (.slice A3 fr.length cap3) fr := ((hfr'.below ((Below.refl _ _).alloc (Nat.le_refl _) _)).below hb5).below hb6
  have ht6 : Strs w6 (.slice A4 tt.length cap4) tt := ((hto.below ((Below.refl _ _).alloc (Nat.le_refl _) _)).below hb5).below hb6
  have hz4 := hBel.size
  have hbl6 : Below w.heap.size w w6 := below_then (below_then (hBel.alloc (by omega) _) (by simp; omega) hb5) (by have := hb5.size; simp at this; omega) hb6
  have hbd : Lib.IsBuilderF 191 5 w.heap.size w4.heap.size [] w6 := builder_new hz4 ((hb6.block _ (by have := hb5.size; simp at this; omega)).trans ((hb5.block _ (by simp)).trans (heap_alloc_new w4 _)))
  have hrel0 : TrRel w.heap.size w4.heap.size w w6 (.slice A3 fr.length cap3) (.slice A4 tt.length cap4) (.slice A6 s.length cap6) fr tt s 0 := ⟨by omega, by simpa [Lib.byteCells] using hbd, hf6, ht6, hst, hbl6⟩
  obtain ⟨hlen, hlenf, hlent⟩ : s.length ≤ 100000 ∧ fr.length ≤ 100000 ∧ tt.length ≤ 100000 := ⟨hs.2, hf.2, ht.2⟩
  clear hb5 hb6 hst hf6 ht6 hbl6 hbd hd0 hd1 hc0 hc1 hHas hBel hto hfr' h hs hf ht
  go_wp2_with fail
  go_loopw [19] (fun v wr => ∃ k : Nat, v = .int .i64 k ∧ TrRel w.heap.size w4.heap.size w wr (.slice A3 fr.length cap3) (.slice A4 tt.length cap4) (.slice A6 s.length cap6) fr tt s k)
    (fun i _ => s.length - (intOf i).toNat)
  case atStart => exact ⟨0, rfl, hrel0⟩
  case round =>
    obtain ⟨k, rfl, hk, hbld, hfr, hto, hst, hbel⟩ := hrel
    clear hrel0
    by_cases hlt : k < s.length
    · obtain ⟨c, hc⟩ : ∃ c, s[k]? = some c := ⟨s[k], by simp [hlt]⟩
      obtain ⟨g, rfl, hcell⟩ := Strs.cell hst hc
      have htk := tr_take fr tt s k c hc
      have htl := tr_length fr tt (s.take k)
      rw [List.length_take] at htl
      obtain ⟨pre, hpre⟩ : ∃ pre, pre = (s.take k).flatMap (trc fr tt) := ⟨_, rfl⟩
      rw [← hpre] at hbld htk htl
      have HTK := Lib.hid htk
      have HC := Lib.hid hc
      clear htk hpre hc
      obtain ⟨i, hi⟩ : ∃ i, i = ix fr c := ⟨_, rfl⟩
      have HI := Lib.hid hi
      have hix : Calls Tryz.prog 134 #[.slice A3 fr.length cap3, .string ⟨#[c]⟩] wr fun e w' => e = .returned (.int .i64 i) ∧ w' = wr := by
        rw [hi]; exact index_strs A3 _ cap3 fr c wr hfr rfl hlenf
      clear hi
      rcases (by omega : i < 0 ∨ 0 ≤ i) with hneg | hpos
      · go_wp2_with fail
        refine Calls.mono hix ?_
        rintro e w7 ⟨rfl, rfl⟩
        dsimp only
        go_wp2_with fail
        refine Calls.mono (writeString_k _ _ _ ⟨#[c]⟩ _ hbld (by simp [Lib.byteCells_length, ByteArray.size]; omega) (by have := hbel.size; omega)) ?_
        rintro e w8 ⟨rfl, hbld8, hb8, ho8⟩
        dsimp only
        go_wp2_with fail
        go_roundw
        case rel => exact ⟨k + 1, by go_num, by omega, by rw [HTK.out]; simpa [trc, ← HI.out, hneg, Lib.byteCells_append, Lib.strCells_eq] using hbld8, hfr.others hbld ho8, hto.others hbld ho8, hst.others hbld ho8, hbel.trans hb8⟩
        case measure => simp [intOf]; omega
      · obtain ⟨m, rfl⟩ : ∃ m : Nat, i = m := ⟨i.toNat, by omega⟩
        by_cases hm : m < tt.length
        · obtain ⟨d, hd⟩ : ∃ d, tt[m]? = some d := ⟨tt[m], by simp [hm]⟩
          obtain ⟨g2, rfl, hcell2⟩ := Strs.cell hto hd
          have HD := Lib.hid hd
          clear hd
          go_wp2_with fail
          refine Calls.mono hix ?_
          rintro e w7 ⟨rfl, rfl⟩
          dsimp only
          go_wp2_with fail
          refine Calls.mono (writeString_k _ _ _ ⟨#[d]⟩ _ hbld (by simp [Lib.byteCells_length, ByteArray.size]; omega) (by have := hbel.size; omega)) ?_
          rintro e w8 ⟨rfl, hbld8, hb8, ho8⟩
          dsimp only
          go_wp2_with fail
          go_roundw
          case rel => exact ⟨k + 1, by go_num, by omega, by rw [HTK.out]; simpa [trc, ← HI.out, HD.out, if_neg (show ¬ ((m : Int) < 0) by omega), Lib.byteCells_append, Lib.strCells_eq] using hbld8, hfr.others hbld ho8, hto.others hbld ho8, hst.others hbld ho8, hbel.trans hb8⟩
          case measure => simp [intOf]; omega
        · have hd : tt[m]? = none := by simp; omega
          have HD := Lib.hid hd
          clear hd
          go_wp2_with fail
          refine Calls.mono hix ?_
          rintro e w7 ⟨rfl, rfl⟩
          dsimp only
          go_wp2_with fail
          go_roundw
          case rel => exact ⟨k + 1, by go_num, by omega, by rw [HTK.out]; simpa [trc, ← HI.out, HD.out, if_neg (show ¬ ((m : Int) < 0) by omega), Lib.byteCells_append, Lib.strCells_eq] using hbld, hfr, hto, hst, hbel⟩
          case measure => simp [intOf]; omega
    · obtain rfl : k = s.length := by omega
      rw [List.take_length] at hbld
      go_wp2_with fail
      refine Calls.mono (Tryz.Builder_String_any_k _ _ _ _ hbld (by have := hbel.size; omega)) ?_
      rintro e w7 ⟨rfl, _, hb7, _⟩
      dsimp only
      go_wp2_with fail
      go_ret
      exact ⟨rfl, hbel.trans hb7⟩
end Go.Proofs.YtaadhehcoegmhaaGreatDoor
