/- The law of the greatest text, walked. -/
import Derived.Test.YtaadhehcoegmhaaGreatDoorA21
import Derived.Laws.IdiomStrings
import Derived.OwnWalk
namespace Go.Proofs.YtaadhehcoegmhaaGreatDoor
open Go Go.RowKit

theorem info5 : (Tryz.prog.info? 5).map (fun i => (i.zero, i.size, i.bytes)) = some (some (.int .u8 0), 1, 1) := by kernel_rfl

/-- A text of n zero bytes. -/
def zeroText (n : Nat) : ByteArray := ⟨(List.replicate n (0 : UInt8)).toArray⟩
theorem zeroText_size (n : Nat) : (zeroText n).size = n := by
  show (List.replicate n (0 : UInt8)).toArray.size = n
  rw [List.size_toArray, List.length_replicate]

/-- Bytes made, turned into a text. -/
theorem conv_zero (w : World) (B g n : Nat) (h : w.ownsRow B 5 1 (.slice (some ⟨g, 0, none⟩) n n) n (madeCells (Value.int .u8 0).cells (n * 1)).toList) :
    (convert 42 9 (.slice (some ⟨g, 0, none⟩) n n)).run Tryz.prog w = .ok (.string (zeroText n)) w := by
  have hc := run_convert_bytes_back (P := Tryz.prog) w 42 9 5 ⟨g, 0, none⟩ n (List.replicate n (0 : UInt8)) Tryz.underlying42 Tryz.underlying5 Tryz.underlying9 (fun j hj => by
    have hj' : j < n := by simpa using hj
    have hx : (madeCells (Value.int .u8 0).cells (n * 1)).toList[j]? = some (.int .u8 0) := by
      rw [Array.getElem?_toList]
      simp [madeCells, Value.cells, hj', Nat.mod_one]
    rw [World.ownsRow.cells h (g := g) rfl j _ hx]
    simp)
  rw [List.length_replicate] at hc
  exact hc

theorem call_concat_new (s u : ByteArray) (w : World) (hE : Env w) (hs : s.size ≤ 100000) (hu : u.size ≤ 100000) (hle : s.size + u.size ≤ 32768) :
    Calls Tryz.prog 13 #[.pointer none, .string ⟨#[99, 111, 110, 99, 97, 116]⟩, .slice (some ⟨w.heap.size, 0, none⟩) 2 2]
      (w.alloc (.cells #[.int .i64 2, .slice none 0 0, .int .i64 0, .int .i64 0, .string s, .bool false, .int .i64 2, .slice none 0 0, .int .i64 0, .int .i64 0, .string u, .bool false] 31))
      fun e w' => e = .returned (.tuple #[vText (s ++ u), .int .i64 0]) ∧ Below w.heap.size w w' := by
  refine Calls.mono (call_concat (some ⟨w.heap.size, 0, none⟩) 2 s u _ (has_new [.text s, .text u] 2 _ hE rfl (by simp)) (by omega) (by omega) hle) ?_
  rintro e w' ⟨rfl, hb⟩
  exact ⟨rfl, below_then ((Below.refl _ _).alloc (Nat.le_refl _) _) (by simp) hb⟩

theorem call_concat_new_long (s u : ByteArray) (w : World) (hE : Env w) (hs : s.size ≤ 100000) (hu : u.size ≤ 100000) (hle : 32768 < s.size + u.size) :
    Calls Tryz.prog 13 #[.pointer none, .string ⟨#[99, 111, 110, 99, 97, 116]⟩, .slice (some ⟨w.heap.size, 0, none⟩) 2 2]
      (w.alloc (.cells #[.int .i64 2, .slice none 0 0, .int .i64 0, .int .i64 0, .string s, .bool false, .int .i64 2, .slice none 0 0, .int .i64 0, .int .i64 0, .string u, .bool false] 31))
      fun e w' => e = .returned (.tuple #[vZero, .int .i64 6]) ∧ Below w.heap.size w w' := by
  refine Calls.mono (call_concat_long (some ⟨w.heap.size, 0, none⟩) 2 s u _ (has_new [.text s, .text u] 2 _ hE rfl (by simp)) (by omega) (by omega) hle) ?_
  rintro e w' ⟨rfl, hb⟩
  exact ⟨rfl, below_then ((Below.refl _ _).alloc (Nat.le_refl _) _) (by simp) hb⟩

set_option maxRecDepth 100000 in
set_option maxHeartbeats 1000000 in
theorem xvalueLimits_walk (n k : Nat) (w : World) (hE : Env w) (hn : n < 65536) (hk : k < 65536) :
    Calls Tryz.prog 6 #[.int .u16 n, .int .u16 k] w fun e w' => e = .returned (.bool true) ∧ Below w.heap.size w w' := by
  obtain ⟨i0, hi, hz0, hz1, hz2⟩ := info_parts info5
  go_enter Tryz.func6, Tryz.ntmps6
  obtain ⟨N, hN⟩ : ∃ N, N = n % 32768 := ⟨_, rfl⟩
  obtain ⟨M, hM⟩ : ∃ M, M = k % 32768 := ⟨_, rfl⟩
  have hN1 : N < 32768 := by omega
  have hM1 : M < 32768 := by omega
  have hNI : (n : Int) % 32768 = (N : Int) := by omega
  have hMI : (k : Int) % 32768 = (M : Int) := by omega
  have HNI := Lib.hid hNI
  have HMI := Lib.hid hMI
  clear hN hM hNI hMI
  go_wp2_with (first
    | (at_make; refine wpList_make_full _ rfl (.tmp 11) (.tmp 11) 42 rfl w.heap.size 5 i0 _ 1 Tryz.underlying42 hi hz0 hz1 .i64 .i64 _ _ N rfl rfl HNI.out HNI.out (by rw [hz2]; omega) (by unfold maxLen; omega) (Nat.le_refl _) ?_; intro w1 hown1 hg1; have hconv1 := conv_zero w1 _ _ _ hown1)
    | (at_make; refine wpList_make_full _ rfl (.tmp 16) (.tmp 16) 42 rfl w.heap.size 5 i0 _ 1 Tryz.underlying42 hi hz0 hz1 .i64 .i64 _ _ M rfl rfl HMI.out HMI.out (by rw [hz2]; omega) (by unfold maxLen; omega) hg1.size ?_; intro w2 hown2 hg2; have hconv2 := conv_zero w2 _ _ _ hown2))
  have hbel2 : Below w.heap.size w w2 := below_grown (below_grown (Below.refl _ _) (Nat.le_refl _) (fun _ h => by cases h) hg1) hg1.size (fun _ h => by cases h) hg2
  have hE2 := hE.below hbel2
  clear hown1 hg1 hconv1 hown2 hg2 hconv2 hE
  refine Calls.mono (ofText_any _ _) ?_
  rintro e w3 ⟨rfl, hb3⟩
  dsimp only [vText]
  go_wp2_with fail
  refine Calls.mono (ofText_any _ _) ?_
  rintro e w4 ⟨rfl, hb4⟩
  dsimp only [vText]
  have hE4 := (hE2.below hb3).below hb4
  have hbel4 := below_then (below_then hbel2 hbel2.size hb3) (Nat.le_trans hbel2.size hb3.size) hb4
  clear hb3 hb4 hE2 hbel2
  have hsN := zeroText_size N
  have hsM := zeroText_size M
  by_cases hbig : 32768 < N + M
  · go_wp2_with fail
    refine Calls.mono (call_concat_new_long _ _ _ hE4 (by omega) (by omega) (by omega)) ?_
    rintro e w5 ⟨rfl, hb5⟩
    dsimp only [vZero]
    have hE5 := hE4.below hb5
    have hbel5 := below_then hbel4 hbel4.size hb5
    clear hb5 hE4 hbel4
    have hg := heap_alloc_new w5 (.cells #[.int .i64 0, .slice none 0 0, .int .i64 0, .int .i64 0, .string ⟨#[]⟩, .bool false] 31)
    obtain ⟨hp1, hp2, hp3⟩ := put_new w5 #[.int .i64 0, .slice none 0 0, .int .i64 0, .int .i64 0, .string ⟨#[]⟩, .bool false] #[.int .i64 0, .slice none 0 0, .int .i64 0, .int .i64 0, .string ⟨#[]⟩, .bool false] 31
    have hbel6 := below_then hbel5 hbel5.size hp1
    have hE6 := hE5.below hp1
    clear hE5 hbel5 hp1 hp3
    have hbigI : (32768 : Int) < (N : Int) + (M : Int) := by omega
    go_wp2_with (refine wpList_store_row rfl 31 (.tmp 7) (.tmp 26) rfl (w5.heap.size) #[.int .i64 0, .slice none 0 0, .int .i64 0, .int .i64 0, .string ⟨#[]⟩, .bool false] rfl rfl 31 _ hg (by kernel_rfl) rfl (by simp [Value.oneCell']) ?_)
    refine Calls.mono (live_any _ hE6) ?_
    rintro e w7 ⟨rfl, hb7⟩
    dsimp only
    have hp7 := (hb7.block _ (Array.getElem?_eq_some_iff.1 hp2).1).trans hp2
    have hc1 := Lib.cell_of_heap hp7 4
    simp at hc1
    have hbel7 := below_then hbel6 hbel6.size hb7
    clear hb7 hbel6 hE6 hp2 hp7 hg
    go_wp2_with fail
    go_ret
    exact ⟨rfl, hbel7⟩
  · go_wp2_with fail
    refine Calls.mono (call_concat_new _ _ _ hE4 (by omega) (by omega) (by omega)) ?_
    obtain ⟨x, hx⟩ : ∃ x, x = zeroText N ++ zeroText M := ⟨_, rfl⟩
    have hsx : x.size = N + M := by rw [hx, ByteArray.size_append, hsN, hsM]
    rw [← hx]
    clear hx
    rintro e w5 ⟨rfl, hb5⟩
    dsimp only [vText]
    have hE5 := hE4.below hb5
    have hbel5 := below_then hbel4 hbel4.size hb5
    clear hb5 hE4 hbel4
    have hg := heap_alloc_new w5 (.cells #[.int .i64 0, .slice none 0 0, .int .i64 0, .int .i64 0, .string ⟨#[]⟩, .bool false] 31)
    obtain ⟨hp1, hp2, hp3⟩ := put_new w5 #[.int .i64 0, .slice none 0 0, .int .i64 0, .int .i64 0, .string ⟨#[]⟩, .bool false] #[.int .i64 2, .slice none 0 0, .int .i64 0, .int .i64 0, .string x, .bool false] 31
    have hbel6 := below_then hbel5 hbel5.size hp1
    have hE6 := hE5.below hp1
    clear hE5 hbel5 hp1 hp3
    have hbigI : ¬ (32768 : Int) < (N : Int) + (M : Int) := by omega
    go_wp2_with (refine wpList_store_row rfl 31 (.tmp 7) (.tmp 26) rfl (w5.heap.size) #[.int .i64 2, .slice none 0 0, .int .i64 0, .int .i64 0, .string x, .bool false] rfl rfl 31 _ hg (by kernel_rfl) rfl (by simp [Value.oneCell']) ?_)
    refine Calls.mono (live_any _ hE6) ?_
    rintro e w7 ⟨rfl, hb7⟩
    dsimp only
    have hp7 := (hb7.block _ (Array.getElem?_eq_some_iff.1 hp2).1).trans hp2
    have hc1 := Lib.cell_of_heap hp7 4
    simp at hc1
    have hbel7 := below_then hbel6 hbel6.size hb7
    clear hb7 hbel6 hE6 hp2 hp7 hg
    go_wp2_with fail
    go_ret
    exact ⟨rfl, hbel7⟩
end Go.Proofs.YtaadhehcoegmhaaGreatDoor
