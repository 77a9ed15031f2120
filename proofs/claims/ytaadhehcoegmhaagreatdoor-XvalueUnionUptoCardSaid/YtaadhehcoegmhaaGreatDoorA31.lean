/- Numbers with one more, rising, each once. -/
import Derived.Test.YtaadhehcoegmhaaGreatDoorA30
import Derived.Test.YtaadhehcoegmhaaGreatDoorU1
import Derived.Maps.AppendAt
import Derived.Laws.AppendOwnNone
namespace Go.Proofs.YtaadhehcoegmhaaGreatDoor
open Go Go.RowKit

def ints (zs : List Int) : List Value := zs.map (Value.int .i64)

theorem info3 : (Tryz.prog.info? 3).map (fun i => (i.zero, i.size, i.bytes)) = some (some (.int .i64 0), 1, 8) := by kernel_rfl

/-- A cell of a row of numbers that the call owns. -/
theorem own_cell {w : World} {B : Nat} {v : Value} {zs : List Int} (h : w.ownsRow B 3 1 v zs.length (ints zs)) {k : Nat} (hk : k < zs.length) :
    ∃ g cap, v = .slice (some ⟨g, 0, none⟩) zs.length cap ∧ w.cell? ⟨g, k, none⟩ = some (.int .i64 (zs.getD k 0)) := by
  rcases h.2 with ⟨_, h2⟩ | ⟨g, cap, cur, h1, _, h3, _, _, _, h7⟩
  · omega
  · refine ⟨g, cap, h1, ?_⟩
    have h8 : (ints zs)[k]? = some (.int .i64 (zs.getD k 0)) := by simp [ints, List.getD, hk]
    rw [← h7, List.getElem?_take] at h8
    rw [Lib.cell_of_heap h3, ← Array.getElem?_toList]
    split at h8
    · exact h8
    · simp at h8
end Go.Proofs.YtaadhehcoegmhaaGreatDoor
