/- IsChar, Bad, IsText: that a text has whole runes where IsText says so. -/
import Derived.Test.YtaadhehcoegmhaaGreatDoorA25
namespace Go.Proofs.YtaadhehcoegmhaaGreatDoor
open Go Go.RowKit

/-- It returns some truth. -/
def SomeBool (e : Ending) : Prop := ∃ b, e = .returned (.bool b)

set_option maxRecDepth 100000 in
set_option maxHeartbeats 2000000 in
theorem isChar_some (r : Int) (w : World) : Calls Tryz.prog 95 #[.int .i32 r] w fun e w' => SomeBool e ∧ w' = w := by
  go_enter Tryz.func95, Tryz.ntmps95
  go_wp2_with fail
  all_goals
    go_ret
    exact ⟨⟨_, rfl⟩, rfl⟩

theorem whole_fuel (s : ByteArray) : ∀ (f g pos : Nat), s.size ≤ pos + f → s.size ≤ pos + g → whole s f pos → whole s g pos
  | _, 0, _, _, _, _ => trivial
  | 0, g + 1, pos, h, _, _ => fun hp => by omega
  | f + 1, g + 1, pos, hf, hg, hw => fun hp => by
    have h1 := Lib.decode_width_pos s pos hp
    exact ⟨(hw hp).1, whole_fuel s f g _ (by omega) (by omega) (hw hp).2⟩

theorem whole_step (s : ByteArray) (pos : Nat) (hp : pos < s.size) (hv : Utf8.decode s pos ≠ (65533, 1)) (hw : whole s (s.size - (pos + (Utf8.decode s pos).2)) (pos + (Utf8.decode s pos).2)) : whole s (s.size - pos) pos := by
  obtain ⟨f, hf⟩ : ∃ f, s.size - pos = f + 1 := ⟨s.size - pos - 1, by omega⟩
  rw [hf]
  have h1 := Lib.decode_width_pos s pos hp
  exact fun _ => ⟨hv, whole_fuel s _ f _ (by omega) (by omega) hw⟩

theorem get_tail (s : ByteArray) (pos i : Nat) : (s.extract pos s.size).get! i = s.get! (pos + i) := by
  show (s.extract pos s.size).data[i]! = s.data[pos + i]!
  rw [getElem!_def, getElem!_def, ByteArray.data_extract, Array.getElem?_extract]
  have e : s.size = s.data.size := rfl
  by_cases h : i < s.data.size - pos
  · rw [e, Nat.min_self, if_pos h]
  · have h2 : s.data[pos + i]? = none := Array.getElem?_eq_none (by omega)
    rw [e, Nat.min_self, if_neg h, h2]

theorem decode_tail (s : ByteArray) (pos : Nat) (h : pos < s.size) : Lib.decodeGo (s.extract pos s.size) = Utf8.decode s pos := by
  have hs : (s.extract pos s.size).size = s.size - pos := by simp [ByteArray.size_extract]
  unfold Lib.decodeGo
  rw [if_neg (by omega), Lib.decode_at, Lib.decode_at s pos, hs, get_tail, get_tail, get_tail, get_tail]
  simp
end Go.Proofs.YtaadhehcoegmhaaGreatDoor
