/- The law of characters that are changed there and back, walked. -/
import Derived.Test.YtaadhehcoegmhaaGreatDoorA23
namespace Go.Proofs.YtaadhehcoegmhaaGreatDoor
open Go Go.RowKit

/-- The cells of a slice of truths, which may be nil. -/
def BoolsAt (w : World) (A : Option Addr) (l : List Bool) : Prop := ∀ i b, l[i]? = some b → ∃ a, A = some a ∧ (a.add i).block < w.heap.size ∧ w.cell? (a.add i) = some (.bool b)
theorem BoolsAt.below {w w' : World} {A : Option Addr} {l : List Bool} (h : BoolsAt w A l) (hb : Below w.heap.size w w') : BoolsAt w' A l := fun i x hx => by
  obtain ⟨a, h1, h2, h3⟩ := h i x hx
  exact ⟨a, h1, Nat.lt_of_lt_of_le h2 hb.size, (hb.cell h2).trans h3⟩

/-- The first ones, as many as the law looks at. -/
def firsts (l : List Bool) : List Bool := l.take 2000

theorem get_same (n i : Nat) (z : ByteArray) (hz : z = ⟨(List.replicate n (97 : UInt8)).toArray⟩) (h : i < z.size) : z[i]'h = 97 := by
  subst hz
  show (List.replicate n (97 : UInt8)).toArray[i]'h = 97
  simp

theorem count_take (f : List Bool) (i : Nat) (b : Bool) (h : f[i]? = some b) : (f.take (i + 1)).count true = (f.take i).count true + (if b then 1 else 0) := by
  have hlt : i < f.length := (List.getElem?_eq_some_iff.1 h).1
  have hb : f[i] = b := (List.getElem?_eq_some_iff.1 h).2
  rw [List.take_succ_eq_append_getElem hlt, hb, List.count_append]
  cases b <;> simp

theorem len_word (x y : UInt8) (l : List Bool) : (⟨(word x y l).toArray⟩ : ByteArray).size = l.length := by
  show (word x y l).toArray.size = l.length
  simp [word]

set_option maxRecDepth 100000 in
set_option maxHeartbeats 1000000 in
theorem xvalueChanges_walk (A : Option Addr) (cap : Nat) (l : List Bool) (w : World) (hE : Env w) (hl : l.length ≤ 9223372036854775807) (hs : BoolsAt w A l) :
    Calls Tryz.prog 5 #[.slice A l.length cap] w fun e w' => e = .returned (.bool true) ∧ Below w.heap.size w w' := by
  obtain ⟨f, hf⟩ : ∃ f, f = firsts l := ⟨_, rfl⟩
  have hfl : f.length ≤ 2000 := by rw [hf]; simp [firsts]; omega
  have hfl2 : f.length = min 2000 l.length := by rw [hf]; simp [firsts]
  have hget : ∀ i b, f[i]? = some b → l[i]? = some b := fun i b h => by
    rw [hf] at h
    unfold firsts at h
    rw [List.getElem?_take] at h
    split at h
    · exact h
    · cases h
  have HGET := Lib.hid hget
  have HS := Lib.hid hs
  clear hf hget hs
  go_enter Tryz.func5, Tryz.ntmps5
  go_wp2_with fail
  go_loopw [3, 4, 5] (fun v3 v4 v5 wr => ∃ i : Nat, v5 = .int .i64 i ∧ i ≤ f.length ∧ v3 = .string ⟨(word 97 98 (f.take i)).toArray⟩ ∧ v4 = .string ⟨(word 120 121 (f.take i)).toArray⟩ ∧ w = wr)
    (fun _ _ i _ => f.length - (intOf i).toNat)
  case atStart => exact ⟨0, rfl, by omega, rfl, rfl, rfl⟩
  case round =>
    obtain ⟨i, rfl, hi, rfl, rfl, rfl⟩ := hrel
    by_cases hlt : i < f.length
    · obtain ⟨b, hbb⟩ : ∃ b, f[i]? = some b := ⟨f[i], by simp [hlt]⟩
      obtain ⟨a, rfl, _, hcell⟩ := HS.out i b (HGET.out i b hbb)
      have h97 := word_take 97 98 f i b hbb
      have h120 := word_take 120 121 f i b hbb
      have H97 := Lib.hid h97
      have H120 := Lib.hid h120
      have l1 := len_word 97 98 (f.take i)
      have l2 := len_word 120 121 (f.take i)
      rw [List.length_take, Nat.min_eq_left hi] at l1 l2
      obtain ⟨x, hx⟩ : ∃ x : ByteArray, x = ⟨(word 97 98 (f.take i)).toArray⟩ := ⟨_, rfl⟩
      obtain ⟨y, hy⟩ : ∃ y : ByteArray, y = ⟨(word 120 121 (f.take i)).toArray⟩ := ⟨_, rfl⟩
      rw [← hx] at l1 ⊢
      rw [← hy] at l2 ⊢
      have HX := Lib.hid hx
      have HY := Lib.hid hy
      clear h97 h120 hbb hx hy
      have k1 : ¬ 9223372036854775807 < x.size + 1 := by omega
      have k2 : ¬ 9223372036854775807 < y.size + 1 := by omega
      have hil : (i : Int) < (l.length : Int) := by omega
      have hi2 : (i : Int) < 2000 := by omega
      cases b
      all_goals
        go_wp2_with fail
        go_roundw
        case rel => exact ⟨i + 1, by go_num, by omega, by rw [H97.out, ← add_one, ← HX.out]; rfl, by rw [H120.out, ← add_one, ← HY.out]; rfl, trivial⟩
        case measure => simp [intOf]; omega
    · obtain rfl : i = f.length := by omega
      rw [List.take_length]
      have hnot : ((f.length : Int) < (l.length : Int) → ¬ (f.length : Int) < 2000) := by omega
      obtain ⟨s, hsE⟩ : ∃ s : ByteArray, s = ⟨(word 97 98 f).toArray⟩ := ⟨_, rfl⟩
      obtain ⟨u, huE⟩ : ∃ u : ByteArray, u = ⟨(word 120 121 f).toArray⟩ := ⟨_, rfl⟩
      obtain ⟨z, hzE⟩ : ∃ z : ByteArray, z = ⟨(List.replicate (f.count true) (97 : UInt8)).toArray⟩ := ⟨_, rfl⟩
      have hT1 : ∀ w, Env w → Calls Tryz.prog 12 #[.string ⟨#[116, 114, 97, 110, 115, 108, 97, 116, 101]⟩, .slice (some ⟨w.heap.size, 0, none⟩) 3 3] (w.alloc (.cells #[.string s, .string ⟨#[97, 98]⟩, .string ⟨#[120, 121]⟩] 9)) fun e w' => e = .returned (.tuple #[.string u, .bool true]) ∧ Below w.heap.size w w' := by
        intro w hE
        rw [hsE, huE, ← word_there f]
        exact text_translate (word 97 98 f) [97, 98] [120, 121] w hE (word_ascii 97 98 (by decide) (by decide) f hfl) (ascii_of _ (by decide) (by decide)) (ascii_of _ (by decide) (by decide)) (by simp [word]; omega)
      have hT2 : ∀ w, Env w → Calls Tryz.prog 12 #[.string ⟨#[116, 114, 97, 110, 115, 108, 97, 116, 101]⟩, .slice (some ⟨w.heap.size, 0, none⟩) 3 3] (w.alloc (.cells #[.string u, .string ⟨#[120, 121]⟩, .string ⟨#[97, 98]⟩] 9)) fun e w' => e = .returned (.tuple #[.string s, .bool true]) ∧ Below w.heap.size w w' := by
        intro w hE
        rw [hsE, huE, ← word_back f]
        exact text_translate (word 120 121 f) [120, 121] [97, 98] w hE (word_ascii 120 121 (by decide) (by decide) f hfl) (ascii_of _ (by decide) (by decide)) (ascii_of _ (by decide) (by decide)) (by simp [word]; omega)
      have hT3 : ∀ w, Env w → Calls Tryz.prog 12 #[.string ⟨#[116, 114, 97, 110, 115, 108, 97, 116, 101]⟩, .slice (some ⟨w.heap.size, 0, none⟩) 3 3] (w.alloc (.cells #[.string s, .string ⟨#[97, 98]⟩, .string ⟨#[97]⟩] 9)) fun e w' => e = .returned (.tuple #[.string z, .bool true]) ∧ Below w.heap.size w w' := by
        intro w hE
        rw [hsE, hzE, ← word_gone f]
        exact text_translate (word 97 98 f) [97, 98] [97] w hE (word_ascii 97 98 (by decide) (by decide) f hfl) (ascii_of _ (by decide) (by decide)) (ascii_of _ (by decide) (by decide)) (by simp [word]; omega)
      rw [← hsE, ← huE]
      have hzs : z.size = f.count true := by rw [hzE]; show (List.replicate (f.count true) (97 : UInt8)).toArray.size = _; rw [List.size_toArray, List.length_replicate]
      have hcle : f.count true ≤ 2000 := Nat.le_trans List.count_le_length hfl
      have HZ := Lib.hid hzE
      clear hsE huE hzE
      have hor : ((f.length : Int) < (l.length : Int) ∧ ¬ (f.length : Int) < 2000) ∨ ¬ (f.length : Int) < (l.length : Int) := by omega
      have HFLE := Lib.hid (show f.length ≤ l.length by omega)
      clear hnot hfl2 hi hlt
      rcases hor with ⟨hc, hc2⟩ | hc
      all_goals
        go_wp2_with fail
        refine Calls.mono (hT1 _ hE) ?_
        rintro e w1 ⟨rfl, hb1⟩
        dsimp only
        go_wp2_with fail
        refine Calls.mono (hT2 _ (hE.below hb1)) ?_
        rintro e w2 ⟨rfl, hb2⟩
        dsimp only
        go_wp2_with fail
        refine Calls.mono (hT3 _ ((hE.below hb1).below hb2)) ?_
        rintro e w3 ⟨rfl, hb3⟩
        dsimp only
        have hE3 := ((hE.below hb1).below hb2).below hb3
        have hbel3 := below_then (below_then hb1 hb1.size hb2) (Nat.le_trans hb1.size hb2.size) hb3
        clear hb1 hb2 hb3 hE
        go_wp2_with fail
        go_loopw [12, 13] (fun v12 v13 wr => ∃ i : Nat, v12 = .int .i64 i ∧ v13 = .int .i64 i ∧ i ≤ f.count true ∧ w3 = wr)
          (fun _ i _ => f.count true - (intOf i).toNat)
        case atStart => exact ⟨0, rfl, rfl, by omega, rfl⟩
        case round =>
          obtain ⟨i, rfl, rfl, hi3, rfl⟩ := hrel
          by_cases hlt3 : i < f.count true
          · have hzi := get_same _ i z HZ.out
            go_wp2_with fail
            go_roundw
            case rel => exact ⟨i + 1, by go_num, by go_num, by omega, trivial⟩
            case measure => simp [intOf]; omega
          · obtain rfl : i = f.count true := by omega
            have hs3 := BoolsAt.below HS.out hbel3
            have HS3 := Lib.hid hs3
            clear hs3 hT1 hT2 hT3
            go_wp2_with fail
            go_loopw [14, 15] (fun v14 v15 wr => ∃ i : Nat, v15 = .int .i64 i ∧ v14 = .int .i64 ((f.take i).count true : Nat) ∧ i ≤ f.length ∧ w3 = wr)
              (fun _ i _ => f.length - (intOf i).toNat)
            case atStart => exact ⟨0, rfl, rfl, by omega, rfl⟩
            case round =>
              obtain ⟨i, rfl, rfl, hi4, rfl⟩ := hrel
              by_cases hlt4 : i < f.length
              · obtain ⟨b, hbb⟩ : ∃ b, f[i]? = some b := ⟨f[i], by simp [hlt4]⟩
                obtain ⟨a, rfl, _, hcell⟩ := HS3.out i b (HGET.out i b hbb)
                have hct := count_take f i b hbb
                have hcl : (f.take i).count true ≤ 2000 := Nat.le_trans List.count_le_length (by rw [List.length_take]; omega)
                obtain ⟨q, hq⟩ : ∃ q, q = (f.take i).count true := ⟨_, rfl⟩
                rw [← hq] at hct hcl ⊢
                have HCT := Lib.hid hct
                clear hct hbb hq
                have hi5 : (i : Int) < (l.length : Int) := by have := HFLE.out; omega
                have hi6 : (i : Int) < 2000 := by omega
                cases b
                · go_wp2_with fail
                  go_roundw
                  case rel => exact ⟨i + 1, by go_num, by rw [HCT.out]; simp, by omega, trivial⟩
                  case measure => simp [intOf]; omega
                · go_wp2_with fail
                  go_roundw
                  case rel => exact ⟨i + 1, by go_num, by rw [HCT.out]; simp, by omega, trivial⟩
                  case measure => simp [intOf]; omega
              · obtain rfl : i = f.length := by omega
                rw [List.take_length]
                go_wp2_with fail
                refine Calls.mono (live_any _ hE3) ?_
                rintro e w7 ⟨rfl, hb7⟩
                dsimp only
                go_wp2_with fail
                go_ret
                exact ⟨rfl, below_then hbel3 hbel3.size hb7⟩
end Go.Proofs.YtaadhehcoegmhaaGreatDoor
