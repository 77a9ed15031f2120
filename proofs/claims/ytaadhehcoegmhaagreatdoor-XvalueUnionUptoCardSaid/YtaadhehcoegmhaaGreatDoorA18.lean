/- text: what a function of texts tells. -/
import Derived.Test.YtaadhehcoegmhaaGreatDoorA17
import Derived.BigQuiet
namespace Go.Proofs.YtaadhehcoegmhaaGreatDoor
open Go Go.RowKit

theorem info31 : (Tryz.prog.info? 31).map (fun i => (i.zero, i.size, i.bytes)) = some (some (.agg #[.int .i64 0, .slice none 0 0, .int .i64 0, .int .i64 0, .string ⟨#[]⟩, .bool false]), 6, 72) := by kernel_rfl

/-- A slice that the call owns, of whole values, reads as arguments. -/
theorem args_row {w : World} {B : Nat} {v : Value} (xs : List GV) (h : w.ownsRow B 31 6 v xs.length (xs.flatMap GV.cells)) (h0 : 0 < xs.length) (hl : xs.length ≤ 1000) :
    ∃ A cap, v = .slice A xs.length cap ∧ ArgsAt w v xs := by
  rcases h.2 with ⟨_, h2⟩ | ⟨g, cap, cur, h1, _, h3, _, _, _, h7⟩
  · omega
  · subst h1
    refine ⟨_, cap, rfl, g, cap, rfl, hl, fun i x hx j c hc => ?_⟩
    have h8 := flat6 xs i x j c hx hc
    rw [← h7] at h8
    rw [Lib.cell_of_heap h3, ← Array.getElem?_toList]
    rw [List.getElem?_take] at h8
    split at h8
    · exact h8
    · simp at h8

/-- A slice of texts. -/
def TextsAt (w : World) (b : Nat) (l : List ByteArray) : Prop := ∀ i x, l[i]? = some x → w.cell? ⟨b, i, none⟩ = some (.string x)
theorem TextsAt.below {w w' : World} {b : Nat} {l : List ByteArray} (h : TextsAt w b l) {B : Nat} (hb : Below B w w') (hlt : b < B) : TextsAt w' b l := fun i x hx => (hb.cell hlt).trans (h i x hx)

theorem take_cells (l : List ByteArray) (k : Nat) (c : ByteArray) (hk : l[k]? = some c) : ((l.take (k + 1)).map GV.text).flatMap GV.cells = ((l.take k).map GV.text).flatMap GV.cells ++ (GV.text c).cells := by
  have hlt : k < l.length := (List.getElem?_eq_some_iff.1 hk).1
  have hc : l[k] = c := (List.getElem?_eq_some_iff.1 hk).2
  rw [List.take_succ_eq_append_getElem hlt, hc]
  simp

set_option maxRecDepth 100000 in
set_option maxHeartbeats 1000000 in
theorem text_any7 (k r : ByteArray) (l : List ByteArray) (b cap : Nat) (w : World) (h0 : 0 < l.length) (hl : l.length ≤ 100) (hs : TextsAt w b l) (hb : b < w.heap.size) (hE : Env w)
    (hin : ∀ A cap w', Has (.slice A l.length cap) (l.map .text) w' → Calls Tryz.prog 13 #[.pointer none, .string k, .slice A l.length cap] w' fun e w2 => e = .returned (.tuple #[vText r, .int .i64 0]) ∧ Below w'.heap.size w' w2) :
    Calls Tryz.prog 12 #[.string k, .slice (some ⟨b, 0, none⟩) l.length cap] w fun e w' => e = .returned (.tuple #[.string r, .bool true]) ∧ Below w.heap.size w w' := by
  obtain ⟨i0, hi, hz0, hz1, hz2⟩ := info_parts info31
  have Hin := Lib.hid hin
  clear hin
  go_enter Tryz.func12, Tryz.ntmps12
  go_wp2_with fail
  go_loopw [6, 7] (fun v6 v7 wr => ∃ i : Nat, v7 = .int .i64 i ∧ i ≤ l.length ∧ wr.ownsRow w.heap.size 31 6 v6 i (((l.take i).map GV.text).flatMap GV.cells) ∧ Below w.heap.size w wr)
    (fun _ i _ => l.length - (intOf i).toNat)
  case atStart => exact ⟨0, rfl, by omega, ⟨by simp, .inl ⟨rfl, rfl⟩⟩, Below.refl _ _⟩
  case round =>
    obtain ⟨i, rfl, hi2, hown, hbel⟩ := hrel
    by_cases hlt : i < l.length
    · obtain ⟨c, hc⟩ : ∃ c, l[i]? = some c := ⟨l[i], by simp [hlt]⟩
      have hcell := (hbel.cell hb).trans (hs i c hc)
      have htk := take_cells l i c hc
      have HTK := Lib.hid htk
      clear htk hc
      go_wp2_with fail
      refine Calls.mono (ofText_any _ _) ?_
      rintro e w1 ⟨rfl, hb1⟩
      dsimp only [vText]
      have hz1' := hb1.size
      have hzb := hbel.size
      have hown1 : w1.ownsRow w.heap.size 31 6 u6 i (((l.take i).map GV.text).flatMap GV.cells) := hown.kept (row := none) ⟨hb1.os, hb1.tape, hb1.output, hb1.size, fun k hk _ => hb1.block k hk⟩ (Classical.em _)
      have hbel1 := below_then hbel hbel.size hb1
      clear hb1 hown hcell
      go_wp2_with (at_builtin; go_must (refine wpList_append_lies _ rfl _ _ _ (by rfl) w.heap.size 31 i0 _ 6 72 Tryz.underlying78 hi hz0 hz1 hz2 rfl (by omega) _ i _ (by rfl) (hown1.alloc _) ⟨w1.heap.size, 0, none⟩ 1 1 (GV.text c).cells (by rfl) (by rfl) (World.news_of_block (cs := #[.int .i64 2, .slice none 0 0, .int .i64 0, .int .i64 0, .string c, .bool false]) (t := 31) (fr := (0, 0)) (heap_alloc_new w1 _)) (by simp [GV.cells, Value.oneCell']) (by omega) (by simp [maxLen]; omega) (by omega) (by simp; omega) (w1.heap.size + 1) (by simp) ?_); intro gg cap2 w2 hown2 hgrow hat hlt2)
      go_roundw
      case rel => exact ⟨i + 1, by go_num, by omega, by rw [HTK.out]; exact hown2, below_grown (hbel1.alloc (by omega) _) (by simp; omega) (fun k hk => (hown1.lt k hk).1) hgrow⟩
      case measure => simp [intOf]; omega
    · obtain rfl : i = l.length := by omega
      rw [List.take_length] at hown
      have hzb := hbel.size
      obtain ⟨A, cap2, rfl, hargs⟩ := args_row (l.map GV.text) (by rw [List.length_map]; exact hown) (by simpa using h0) (by simp; omega)
      rw [List.length_map] at hargs
      have hE2 := hE.below hbel
      clear hown hs hE
      go_wp2_with fail
      rw [List.length_map]
      refine Calls.mono (Hin.out A cap2 _ ⟨hargs, hE2⟩) ?_
      rintro e w1 ⟨rfl, hb1⟩
      dsimp only [vText]
      have hbel1 := below_then hbel hbel.size hb1
      clear hb1 hargs hE2
      have hg := heap_alloc_new w1 (.cells #[.int .i64 0, .slice none 0 0, .int .i64 0, .int .i64 0, .string ⟨#[]⟩, .bool false] 31)
      obtain ⟨hp1, hp2, hp3⟩ := put_new w1 #[.int .i64 0, .slice none 0 0, .int .i64 0, .int .i64 0, .string ⟨#[]⟩, .bool false] #[.int .i64 2, .slice none 0 0, .int .i64 0, .int .i64 0, .string r, .bool false] 31
      have hbel2 := below_then hbel1 hbel1.size hp1
      have hc1 := Lib.cell_of_heap hp2 4
      have hc2 := Lib.cell_of_heap hp2 0
      simp at hc1 hc2
      clear hp1 hp2 hp3
      go_wp2_with (refine wpList_store_row rfl 31 (.tmp 8) (.tmp 28) rfl (w1.heap.size) #[.int .i64 2, .slice none 0 0, .int .i64 0, .int .i64 0, .string r, .bool false] rfl rfl 31 _ hg (by kernel_rfl) rfl (by simp [Value.oneCell']) ?_)
      go_quiet (fail)
      go_wp2_with fail
      go_ret2
      exact ⟨rfl, hbel2.trans ⟨rfl, rfl, rfl, Nat.le_refl _, fun _ _ => rfl⟩⟩
end Go.Proofs.YtaadhehcoegmhaaGreatDoor
