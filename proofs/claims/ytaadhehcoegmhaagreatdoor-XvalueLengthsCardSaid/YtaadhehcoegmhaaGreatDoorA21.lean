/- concat. -/
import Derived.Test.YtaadhehcoegmhaaGreatDoorA18
namespace Go.Proofs.YtaadhehcoegmhaaGreatDoor
open Go Go.RowKit

/-- The first k texts joined. -/
def joinK (l : List ByteArray) : Nat → ByteArray
  | 0 => ⟨#[]⟩
  | k + 1 => joinK l k ++ l.getD k ⟨#[]⟩

set_option maxRecDepth 100000 in
set_option maxHeartbeats 1000000 in
theorem concat_any (t A : Option Addr) (cap : Nat) (l : List ByteArray) (w : World) (hl : l.length ≤ 8) (hsz : ∀ k c, l[k]? = some c → ¬ 9223372036854775807 < (joinK l k).size + c.size)
    (h : Has (.slice A l.length cap) (l.map .text) w) :
    Calls Tryz.prog 81 #[.agg #[.pointer t, .slice A l.length cap]] w fun e w' => e = .returned (.string (joinK l l.length)) ∧ Below w.heap.size w w' := by
  have Hsz := Lib.hid hsz
  clear hsz
  go_enter Tryz.func81, Tryz.ntmps81
  go_wp2_with fail
  go_loopw [3, 8] (fun v3 v8 wr => ∃ k : Nat, v8 = .int .i64 k ∧ v3 = .string (joinK l k) ∧ k ≤ l.length ∧ wr.cell? ⟨w.heap.size, 0, none⟩ = some (.pointer t) ∧ wr.cell? ⟨w.heap.size, 1, none⟩ = some (.slice A l.length cap) ∧ Has (.slice A l.length cap) (l.map .text) wr ∧ Below w.heap.size w wr)
    (fun _ i _ => l.length - (intOf i).toNat)
  case atStart => exact ⟨0, rfl, rfl, by omega, by simp [go_sem], by simp [go_sem], h.alloc _, (Below.refl _ _).alloc (Nat.le_refl _) _⟩
  case round =>
    obtain ⟨k, rfl, rfl, hk, hc0, hc1, hh, hbel⟩ := hrel
    clear h
    by_cases hlt : k < l.length
    · obtain ⟨c, hc⟩ : ∃ c, l[k]? = some c := ⟨l[k], by simp [hlt]⟩
      have hx : (l.map GV.text)[k]? = some (.text c) := by rw [List.getElem?_map, hc]; rfl
      have hj : joinK l (k + 1) = joinK l k ++ c := by simp [joinK, List.getD, hc]
      have hnz := Hsz.out k c hc
      have HJ := Lib.hid hj
      have HX := Lib.hid hx
      clear hj hx hc
      obtain ⟨pre, hpre⟩ : ∃ pre, pre = joinK l k := ⟨_, rfl⟩
      rw [← hpre] at hnz ⊢
      have HP := Lib.hid hpre
      clear hpre
      go_wp2_with fail
      refine Calls.mono (Has.str _ k c HX.out hh) ?_
      rintro e w1 ⟨rfl, hb1⟩
      dsimp only
      have hh1 := hh.below hb1
      have hd0 := (hb1.cell (World.block_lt_of_cell? _ _ hc0)).trans hc0
      have hd1 := (hb1.cell (World.block_lt_of_cell? _ _ hc1)).trans hc1
      have hbel1 := below_then hbel hbel.size hb1
      clear hh hc0 hc1 hbel hb1
      go_wp2_with fail
      go_roundw
      case rel => exact ⟨k + 1, by go_num, by rw [HJ.out, HP.out], by omega, hd0, hd1, hh1, hbel1⟩
      case measure => simp [intOf]; omega
    · obtain rfl : k = l.length := by omega
      go_wp2_with fail
      go_ret
      exact ⟨rfl, hbel⟩

theorem join2 (s u : ByteArray) : joinK [s, u] [s, u].length = s ++ u := by
  show ((⟨#[]⟩ : ByteArray) ++ s) ++ u = s ++ u
  congr 1

theorem enters81 : Enters 81 := enters_of Tryz.func81 (by kernel_rfl) rfl

theorem concat2 (t A : Option Addr) (cap : Nat) (s u : ByteArray) (w : World) (hs : s.size ≤ 1000000) (hu : u.size ≤ 1000000) (h : Has (.slice A 2 cap) [.text s, .text u] w) :
    Calls Tryz.prog 81 #[.agg #[.pointer t, .slice A 2 cap]] w fun e w' => e = .returned (.string (s ++ u)) ∧ Below w.heap.size w w' := by
  have hh := concat_any t A cap [s, u] w (by simp) (fun k c hc => by
    match k, hc with
    | 0, hc => simp at hc; subst hc; show ¬ 9223372036854775807 < 0 + s.size; omega
    | 1, hc =>
      simp at hc; subst hc
      show ¬ 9223372036854775807 < ((⟨#[]⟩ : ByteArray) ++ s).size + u.size
      rw [ByteArray.size_append]
      show ¬ 9223372036854775807 < 0 + s.size + u.size
      omega
    | k + 2, hc => simp at hc) h
  rw [join2] at hh
  exact hh

theorem call_concat (A : Option Addr) (cap : Nat) (s u : ByteArray) (w : World) (h : Has (.slice A 2 cap) [.text s, .text u] w) (hs : s.size ≤ 1000000) (hu : u.size ≤ 1000000) (hle : s.size + u.size ≤ 32768) :
    Calls Tryz.prog 13 #[.pointer none, .string ⟨#[99, 111, 110, 99, 97, 116]⟩, .slice A 2 cap] w fun e w' => e = .returned (.tuple #[vText (s ++ u), .int .i64 0]) ∧ Below w.heap.size w w' :=
  call_text _ 2 8 81 (by rfl) none A 2 cap _ _ w (by decide) (by decide) (by decide) enters81 h (by rw [ByteArray.size_append]; exact hle) fun w' hw => concat2 none A cap s u w' hs hu hw

theorem call_concat_long (A : Option Addr) (cap : Nat) (s u : ByteArray) (w : World) (h : Has (.slice A 2 cap) [.text s, .text u] w) (hs : s.size ≤ 1000000) (hu : u.size ≤ 1000000) (hle : 32768 < s.size + u.size) :
    Calls Tryz.prog 13 #[.pointer none, .string ⟨#[99, 111, 110, 99, 97, 116]⟩, .slice A 2 cap] w fun e w' => e = .returned (.tuple #[vZero, .int .i64 6]) ∧ Below w.heap.size w w' :=
  call_text_long _ 2 8 81 (by rfl) none A 2 cap _ (s ++ u) w (by decide) (by decide) (by decide) enters81 h (by rw [ByteArray.size_append]; exact hle) (by rw [ByteArray.size_append]; omega) fun w' hw => concat2 none A cap s u w' hs hu hw
end Go.Proofs.YtaadhehcoegmhaaGreatDoor
