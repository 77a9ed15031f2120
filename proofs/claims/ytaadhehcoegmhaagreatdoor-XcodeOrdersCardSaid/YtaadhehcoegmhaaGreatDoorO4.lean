/- The scanner: token. -/
import Derived.Test.YtaadhehcoegmhaaGreatDoorO3
import Derived.WalkMore
import Derived.Defers
import Derived.Recover
namespace Go.Proofs.YtaadhehcoegmhaaGreatDoor
open Go Go.RowKit

def lxOf : Tok → Nat → Lx
  | .num d, a => ⟨1, [d], a⟩
  | .var c, a => ⟨7, [c], a⟩
  | .plus, a => ⟨8, [43], a⟩
def nextOf : Tok → Int
  | .plus => 0
  | _ => 1

theorem drop_le {l r : List UInt8} {a : Nat} {x : List UInt8} (hd : l.drop a = x ++ r) (hx : 0 < x.length) : a + x.length ≤ l.length ∧ r.length + x.length ≤ l.length := by
  have := congrArg List.length hd
  simp at this
  omega

theorem bs_mid (l : List UInt8) (i j : Nat) : (bs l).extract i j = bs ((l.drop i).take (j - i)) := by
  apply ByteArray.ext
  simp

set_option maxRecDepth 100000 in
set_option maxHeartbeats 2000000 in
theorem token_num (B c : Nat) (l : List UInt8) (a : Nat) (ts : List Lx) (next : Int) (r : List UInt8) (w : World) (d : UInt8) (hdd : d = 48 ∨ d = 49) (h : Scan B c l a ts next w) (hd : l.drop a = d :: r) (hr : Stops r) (hl : l.length ≤ 900) (hts : ts.length ≤ 900) (hBw : B ≤ w.heap.size) :
    Calls Tryz.prog 209 #[.pointer (some ⟨c, 0, none⟩)] w fun e w' => e = .returned (.bool true) ∧ Scan B c l (a + 1) (ts ++ [⟨1, [d], a⟩]) 1 w' ∧ Below B w w' := by
  obtain ⟨hal, hrl⟩ := drop_le (x := [d]) hd (by simp)
  simp only [List.length_singleton] at hal hrl
  have hz := bs_size (d :: r)
  have hex : (bs (d :: r)).extract 0 1 = bs [d] := by rw [bs_mid]; rfl
  have HX := Lib.hid hex
  have H := Lib.hid h
  have HD := Lib.hid hd
  clear h hd hex
  go_enter Tryz.func209, Tryz.ntmps209
  go_wp2_with fail
  go_step3
  go_wp2_with fail
  refine Calls.mono (rest_scan B c l a ts next _ H.out (by omega)) ?_
  rintro e w1 ⟨rfl, hb1⟩
  dsimp only
  rw [HD.out]
  have hB1 := Lib.hid (H.out.below hb1)
  go_wp2_with fail
  refine Calls.mono (number_dig d r _ hdd hr (by omega)) ?_
  rintro e w2 ⟨rfl, hb2⟩
  dsimp only
  have hB2 := Lib.hid (hB1.out.below hb2)
  have hb12 := (hb1.mono hBw).trans (hb2.mono (Nat.le_trans hBw hb1.size))
  clear hb1 hb2
  go_wp2_with fail
  rw [HX.out]
  refine Calls.mono (add_any1 B c l a ts next 1 [d] 1 _ hB2.out hal hl hts (by simp)) ?_
  rintro e w3 ⟨rfl, h3, hb3⟩
  dsimp only
  have H3 := Lib.hid h3
  clear h3
  go_wp2_with fail
  rw [Exit.noGoto_ret]
  go_ret
  exact ⟨rfl, H3.out, hb12.trans hb3⟩

set_option maxRecDepth 100000 in
set_option maxHeartbeats 2000000 in
theorem token_var (B c : Nat) (l : List UInt8) (a : Nat) (ts : List Lx) (next : Int) (r : List UInt8) (w : World) (x : UInt8) (hx1 : 97 ≤ x.toNat) (hx2 : x.toNat ≤ 104) (h : Scan B c l a ts next w) (hd : l.drop a = 36 :: x :: r) (hr : Stops r) (hl : l.length ≤ 900) (hts : ts.length ≤ 900) (hBw : B ≤ w.heap.size) :
    Calls Tryz.prog 209 #[.pointer (some ⟨c, 0, none⟩)] w fun e w' => e = .returned (.bool true) ∧ Scan B c l (a + 2) (ts ++ [⟨7, [x], a⟩]) 1 w' ∧ Below B w w' := by
  obtain ⟨hal, hrl⟩ := drop_le (x := [36, x]) hd (by simp)
  simp only [List.length_cons, List.length_nil] at hal hrl
  have hz := bs_size (36 :: x :: r)
  have hex : (bs (36 :: x :: r)).extract 1 (r.length + 1 + 1) = bs (x :: r) := bs_drop (36 :: x :: r) 1 _ rfl
  have hex2 : (bs (36 :: x :: r)).extract 1 2 = bs [x] := by rw [bs_mid]; rfl
  have HX := Lib.hid hex
  have HX2 := Lib.hid hex2
  have H := Lib.hid h
  have HD := Lib.hid hd
  clear h hd hex hex2
  go_enter Tryz.func209, Tryz.ntmps209
  go_wp2_with fail
  go_step3
  go_wp2_with fail
  refine Calls.mono (rest_scan B c l a ts next _ H.out (by omega)) ?_
  rintro e w1 ⟨rfl, hb1⟩
  dsimp only
  rw [HD.out]
  have hB1 := Lib.hid (H.out.below hb1)
  go_wp2_with fail
  refine Calls.mono (number_not 36 (x :: r) _ (.inl rfl) (by simp; omega)) ?_
  rintro e w2 ⟨rfl, hb2⟩
  dsimp only
  have hB2 := Lib.hid (hB1.out.below hb2)
  have hb12 := (hb1.mono hBw).trans (hb2.mono (Nat.le_trans hBw hb1.size))
  have hs2 := Nat.le_trans hb1.size hb2.size
  clear hb1 hb2
  go_wp2_with fail
  rw [HX.out]
  refine Calls.mono (qname_low x r _ hx1 hx2 hr (by omega)) ?_
  rintro e w3 ⟨rfl, hb3⟩
  dsimp only
  have hB3 := Lib.hid (hB2.out.below hb3)
  have hb13 := hb12.trans (hb3.mono (Nat.le_trans hBw hs2))
  clear hb3 hb12
  go_wp2_with fail
  rw [HX2.out]
  refine Calls.mono (add_any1 B c l a ts next 7 [x] 2 _ hB3.out hal hl hts (by simp)) ?_
  rintro e w4 ⟨rfl, h4, hb4⟩
  dsimp only
  have H4 := Lib.hid h4
  clear h4
  go_wp2_with fail
  rw [Exit.noGoto_ret]
  go_ret
  exact ⟨rfl, H4.out, hb13.trans hb4⟩

set_option maxRecDepth 100000 in
set_option maxHeartbeats 2000000 in
theorem token_plus (B c : Nat) (l : List UInt8) (a : Nat) (ts : List Lx) (next : Int) (r : List UInt8) (w : World) (h : Scan B c l a ts next w) (hd : l.drop a = 43 :: r) (hl : l.length ≤ 900) (hts : ts.length ≤ 900) (hBw : B ≤ w.heap.size) :
    Calls Tryz.prog 209 #[.pointer (some ⟨c, 0, none⟩)] w fun e w' => e = .returned (.bool true) ∧ Scan B c l (a + 1) (ts ++ [⟨8, [43], a⟩]) 0 w' ∧ Below B w w' := by
  obtain ⟨hal, hrl⟩ := drop_le (x := [43]) hd (by simp)
  simp only [List.length_singleton] at hal hrl
  have hrl2 : (43 :: r).length ≤ l.length := by rw [← hd]; simp
  have hz := bs_size (43 :: r)
  have H := Lib.hid h
  have HD := Lib.hid hd
  clear h hd
  go_enter Tryz.func209, Tryz.ntmps209
  go_wp2_with fail
  go_step3
  go_wp2_with fail
  refine Calls.mono (rest_scan B c l a ts next _ H.out (by omega)) ?_
  rintro e w1 ⟨rfl, hb1⟩
  dsimp only
  rw [HD.out]
  have hB1 := Lib.hid (H.out.below hb1)
  go_wp2_with fail
  refine Calls.mono (number_not 43 r _ (.inr rfl) (by omega)) ?_
  rintro e w2 ⟨rfl, hb2⟩
  dsimp only
  have hB2 := Lib.hid (hB1.out.below hb2)
  have hb12 := (hb1.mono hBw).trans (hb2.mono (Nat.le_trans hBw hb1.size))
  have hs2 := Nat.le_trans hb1.size hb2.size
  clear hb1 hb2
  go_wp2_with fail
  refine Calls.mono (name_plus r _) ?_
  rintro e w3 ⟨rfl, hb3⟩
  dsimp only
  have hB3 := Lib.hid (hB2.out.below hb3)
  have hb13 := hb12.trans (hb3.mono (Nat.le_trans hBw hs2))
  have hs3 := Nat.le_trans hs2 hb3.size
  clear hb3 hb12
  go_wp2_with fail
  refine Calls.mono (sign_plus B c l a ts next r _ hB3.out HD.out hl hts (by omega)) ?_
  rintro e w4 ⟨rfl, h4, hb4⟩
  dsimp only
  have H4 := Lib.hid h4
  clear h4
  go_wp2_with fail
  rw [Exit.noGoto_ret]
  go_ret
  exact ⟨rfl, H4.out, hb13.trans hb4⟩

theorem token_any (B c : Nat) (l : List UInt8) (a : Nat) (ts : List Lx) (next : Int) (t : Tok) (r : List UInt8) (w : World) (ht : t.ok) (h : Scan B c l a ts next w) (hd : l.drop a = t.bytes ++ r) (hr : Stops r) (hl : l.length ≤ 900) (hts : ts.length ≤ 900) (hBw : B ≤ w.heap.size) :
    Calls Tryz.prog 209 #[.pointer (some ⟨c, 0, none⟩)] w fun e w' => e = .returned (.bool true) ∧ Scan B c l (a + t.bytes.length) (ts ++ [lxOf t a]) (nextOf t) w' ∧ Below B w w' := by
  cases t with
  | num d => exact token_num B c l a ts next r w d ht h hd hr hl hts hBw
  | var x => exact token_var B c l a ts next r w x ht.1 ht.2 h hd hr hl hts hBw
  | plus => exact token_plus B c l a ts next r w h hd hl hts hBw
end Go.Proofs.YtaadhehcoegmhaaGreatDoor
/- xplex.Scan at tokens with a blank between. -/
namespace Go.Proofs.YtaadhehcoegmhaaGreatDoor
open Go Go.RowKit

theorem blanks_scan (B c : Nat) (l : List UInt8) (a : Nat) (ts : List Lx) (next : Int) (w : World) (h : Scan B c l a ts next w) (ha : a ≤ l.length) (hl : l.length ≤ 900) :
    Calls Tryz.prog 208 #[.pointer (some ⟨c, 0, none⟩)] w fun e w' => e = .returned (.tuple #[]) ∧ Scan B c l (l.length - (trimSet [9, 10, 13, 32] (l.drop a)).length) ts next w' ∧ Below B w w' := by
  obtain ⟨⟨lex, h1, h2⟩, hB⟩ := h
  have hlt := (Array.getElem?_eq_some_iff.1 h1).1
  refine (blanks_any c l a lex next w h1 ha hl).mono ?_
  rintro e w' ⟨rfl, h3, h4⟩
  exact ⟨rfl, ⟨⟨lex, h3, h2.kept h4 (.inr (Ne.symm (own_ne h2 h1 (by decide))))⟩, hB⟩, ⟨h4.os, h4.tape, h4.output, h4.size, fun i hi => h4.block i (by omega) (fun q => by cases q; omega)⟩⟩

/-- The tokens as the scanner notes them. -/
def lexFrom : Nat → List Tok → List Lx
  | _, [] => []
  | a, t :: ts => lxOf t a :: lexFrom (a + t.bytes.length + 1) ts
theorem lexFrom_length : ∀ (ts : List Tok) (a : Nat), (lexFrom a ts).length = ts.length
  | [], _ => rfl
  | t :: ts, a => by simp [lexFrom, lexFrom_length ts]

theorem Tok.bytes_pos (t : Tok) : 0 < t.bytes.length ∧ t.bytes.length ≤ 2 := by cases t <;> simp [Tok.bytes]
theorem joinT_head (t : Tok) (ts : List Tok) (ht : t.ok) : ∃ x r, joinT (t :: ts) = x :: r ∧ ([9, 10, 13, 32] : List UInt8).contains x = false := by
  rw [joinT_cons]
  cases t with
  | num d => rcases ht with rfl | rfl <;> exact ⟨_, _, rfl, rfl⟩
  | var c => exact ⟨_, _, rfl, rfl⟩
  | plus => exact ⟨_, _, rfl, rfl⟩
theorem trim_join (ts : List Tok) (h : ∀ t ∈ ts, t.ok) : trimSet [9, 10, 13, 32] (joinT ts) = joinT ts := by
  cases ts with
  | nil => rfl
  | cons t ts =>
    obtain ⟨x, r, h1, h2⟩ := joinT_head t ts (h t (by simp))
    rw [h1]
    unfold trimSet
    rw [List.dropWhile_cons, if_neg (by rw [h2]; simp)]
theorem trim_tail (ts : List Tok) (h : ∀ t ∈ ts, t.ok) : trimSet [9, 10, 13, 32] (tailT ts) = joinT ts := by
  cases ts with
  | nil => rfl
  | cons t ts =>
    have := trim_join (t :: ts) h
    exact this

theorem joinT_chs : ∀ (ts : List Tok), (∀ t ∈ ts, t.ok) → ∀ x ∈ joinT ts, ((x.toNat : Nat) : Int) ∈ chs
  | [], _, x, hx => by simp [joinT] at hx
  | t :: ts, h, x, hx => by
    rw [joinT_cons] at hx
    rcases List.mem_append.1 hx with hx | hx
    · have ht := h t (by simp)
      cases t with
      | num d =>
        simp [Tok.bytes] at hx
        subst hx
        rcases ht with rfl | rfl <;> simp [chs]
      | var c =>
        simp [Tok.bytes] at hx
        rcases hx with rfl | rfl
        · simp [chs]
        · have h1 := ht.1
          have h2 := ht.2
          simp only [chs, List.mem_cons, List.not_mem_nil, or_false]
          omega
      | plus =>
        simp [Tok.bytes] at hx
        subst hx
        simp [chs]
    · cases ts with
      | nil => simp [tailT] at hx
      | cons u ts =>
        simp only [tailT, List.mem_cons] at hx
        rcases hx with rfl | hx
        · simp [chs]
        · exact joinT_chs (u :: ts) (fun t ht => h t (by simp at ht ⊢; exact .inr ht)) x hx
theorem chs_small {c : Int} (h : c ∈ chs) : 0 ≤ c ∧ c < 128 := by
  simp only [chs, List.mem_cons, List.not_mem_nil, or_false] at h
  omega

/-- Where a scanner stands. -/
def scanPos (c : Nat) (w : World) : Nat := match w.cell? ⟨c, 1, none⟩ with | some (.int _ a) => a.toNat | _ => 0
theorem Scan.pos {B c : Nat} {l : List UInt8} {a : Nat} {ts : List Lx} {next : Int} {w : World} (h : Scan B c l a ts next w) : scanPos c w = a := by
  obtain ⟨⟨lex, h1, _⟩, _⟩ := h
  have : w.cell? ⟨c, 1, none⟩ = some (.int .i64 a) := by rw [Lib.cell_of_heap h1]; rfl
  simp [scanPos, this]

set_option maxRecDepth 100000 in
set_option maxHeartbeats 4000000 in
theorem scan_any (toks : List Tok) (hok : ∀ t ∈ toks, t.ok) (hn : toks.length ≤ 100) (w : World) :
    Calls Tryz.prog 157 #[.string (bs (joinT toks))] w fun e w' => ∃ lex, e = .returned (.tuple #[lex, .int .i64 0, .int .i64 0]) ∧ w'.ownsRow w.heap.size 347 3 lex (lexFrom 0 toks).length (lexCells (lexFrom 0 toks)) ∧ Below w.heap.size w w' := by
  obtain ⟨l, hlj⟩ : ∃ l, l = joinT toks := ⟨_, rfl⟩
  have hll : l.length ≤ 300 := by
    have : ∀ ts : List Tok, (joinT ts).length ≤ 3 * ts.length ∧ (tailT ts).length ≤ 3 * ts.length + 1 := by
      intro ts
      induction ts with
      | nil => simp [joinT, tailT]
      | cons t ts ih =>
        have := t.bytes_pos
        have h1 : (joinT (t :: ts)).length ≤ 3 * (ts.length + 1) := by
          rw [joinT_cons, List.length_append]
          cases ts with
          | nil => simp [tailT]; omega
          | cons u ts =>
            have := ih.2
            simp only [tailT, List.length_cons] at ih ⊢
            omega
        exact ⟨h1, by simp only [tailT, List.length_cons]; omega⟩
    have := (this toks).1
    rw [hlj]; omega
  have hch := joinT_chs toks hok
  rw [← hlj] at hch ⊢
  have HJ := Lib.hid hlj
  have HOK := Lib.hid hok
  have HCH := Lib.hid hch
  have hz := bs_size l
  have hgt : ¬ ((l.length : Int) > 512) := by omega
  clear hlj hok hch
  go_enter Tryz.func157, Tryz.ntmps157
  go_wp2_with fail
  go_loopw [5] (fun _ wr => ∃ i : Nat, i ≤ l.length ∧ wr.heap[w.heap.size]? = some (.stringIter (bs l) i) ∧ Below w.heap.size w wr)
    (fun _ wr => l.length - wr.iterPos w.heap.size)
  case atStart => exact ⟨0, by omega, World.iter_heap w _ _, (Below.refl _ _).alloc (Nat.le_refl _) _⟩
  case round =>
    obtain ⟨i, hi, hit, hbel⟩ := hrel
    rename World => wr
    by_cases hlt : i < l.length
    · obtain ⟨x, hx⟩ : ∃ x, l[i]? = some x := ⟨l[i], by simp [hlt]⟩
      have hxc := HCH.out x (List.mem_of_getElem? hx)
      have hxs := chs_small hxc
      have hsz : i < (bs l).size := by rw [bs_size]; exact hlt
      have hbx : ((bs l)[i]'hsz) = x := by have := (List.getElem?_eq_some_iff.1 hx).2; rw [← this]; rfl
      have hnx : ∀ ty, (Instr.next (.pointer (some ⟨w.heap.size, 0, none⟩)) true ty).run Tryz.prog wr = .ok (.tuple #[.bool true, .int .i64 i, .int .i32 x.toNat]) (wr.iterAt w.heap.size (bs l) (i + 1)) := fun ty => by
        have := Lib.run_next_ascii_at (P := Tryz.prog) wr w.heap.size (bs l) i ty hit hsz (by rw [hbx]; omega)
        rwa [hbx] at this
      have hex : (bs l).extract i l.length = bs (l.drop i) := bs_drop l i _ rfl
      have hd0 : (bs (l.drop i)).data.toList[0]? = some x := by simp [hx]
      have hit2 := Lib.iterAt_heap wr w.heap.size (bs l) i (i + 1) hit
      have hbel2 := Lib.below_iterAt hbel (Nat.le_refl w.heap.size) (bs l) (i + 1)
      have hpos : wr.iterPos w.heap.size = i := by simp [World.iterPos, hit]
      have HX := Lib.hid hex
      have HD := Lib.hid hd0
      have HC := Lib.hid hxc
      have HI := Lib.hid hit2
      have HB := Lib.hid hbel2
      have HP := Lib.hid hpos
      have hne : (((x.toNat : Nat) : Int) == 65533) = false := by simp; omega
      have hil : (i : Int) ≤ (l.length : Int) := by omega
      clear hex hd0 hxc hit2 hbel2 hpos hx hbx hit
      go_wp2_with fail
      rw [HX.out]
      refine Calls.mono (Tryz.utf8_DecodeRuneInString_ascii _ x _ HD.out (by omega)) ?_
      rintro e w1 ⟨rfl, rfl⟩
      dsimp only
      go_wp2_with fail
      refine Calls.mono (isChar_ch _ HC.out _) ?_
      rintro e w2 ⟨rfl, hb2⟩
      dsimp only
      go_wp2_with fail
      go_roundw
      case rel => exact ⟨i + 1, by omega, (hb2.block _ (Array.getElem?_eq_some_iff.1 HI.out).1).trans HI.out, below_then HB.out HB.out.size hb2⟩
      case measure =>
        have : w2.heap[w.heap.size]? = some (.stringIter (bs l) (i + 1)) := (hb2.block _ (Array.getElem?_eq_some_iff.1 HI.out).1).trans HI.out
        rw [HP.out]
        simp [World.iterPos, this]
        omega
    · obtain rfl : i = l.length := by omega
      have hnx := fun ty => Lib.run_next_end_at (P := Tryz.prog) wr w.heap.size (bs l) l.length ty hit (by rw [bs_size]; omega)
      have HB := Lib.hid hbel
      clear hit
      go_wp2_with fail
      have hsc : Scan w.heap.size wr.heap.size l 0 [] 0 (wr.alloc (.cells (scanCells l 0 (.slice none 0 0) 0) 296)) := ⟨⟨.slice none 0 0, heap_alloc_new wr _, rfl, .inl ⟨rfl, rfl⟩⟩, hbel.size⟩
      have hbA := hbel.alloc (B := w.heap.size) hbel.size (.cells (scanCells l 0 (.slice none 0 0) 0) 296)
      obtain ⟨c, hcw⟩ : ∃ c, c = wr.heap.size := ⟨_, rfl⟩
      rw [← hcw] at hsc ⊢
      have htr : l.length - (trimSet [9, 10, 13, 32] (l.drop 0)).length = 0 := by rw [List.drop_zero]; have := trim_join toks HOK.out; rw [← HJ.out] at this; rw [this]; omega
      have HTR := Lib.hid htr
      have HCW := Lib.hid hcw
      clear hnx htr hcw hbel
      refine Calls.mono (blanks_scan w.heap.size c l 0 [] 0 _ hsc (by omega) (by omega)) ?_
      rintro e w1 ⟨rfl, h1, hb1⟩
      dsimp only
      rw [HTR.out] at h1
      have hbw := hbA.trans hb1
      have H1 := Lib.hid h1
      clear hsc hbA hb1 h1 hlt hi
      go_wp2_with fail
      go_loopw [10] (fun _ wr => ∃ (a : Nat) (ts : List Lx) (rest : List Tok) (nx : Int), a ≤ l.length ∧ l.drop a = joinT rest ∧ ts ++ lexFrom a rest = lexFrom 0 toks ∧ (∀ t ∈ rest, t.ok) ∧ ts.length ≤ 100 ∧ Scan w.heap.size c l a ts nx wr ∧ Below w.heap.size w wr)
        (fun _ wr => l.length - scanPos c wr)
      case atStart => exact ⟨0, [], toks, 0, by omega, by rw [List.drop_zero]; exact HJ.out, rfl, HOK.out, by simp, H1.out, hbw⟩
      case round =>
        obtain ⟨a, ts, rest, nx, ha, hd, hts, hrest, htl, hsc, hbel⟩ := hrel
        rename World => wx
        clear H1 hbw
        have HS := Lib.hid hsc
        obtain ⟨⟨lex, hrow, hown⟩, hBc⟩ := hsc
        have c1 : wx.cell? ⟨c, 1, none⟩ = some (.int .i64 a) := by rw [Lib.cell_of_heap hrow]; rfl
        have c2 : wx.cell? ⟨c, 2, none⟩ = some lex := by rw [Lib.cell_of_heap hrow]; rfl
        have HO := Lib.hid hown
        clear hrow hown
        cases rest with
        | nil =>
          have hd' : l.drop a = [] := hd
          obtain rfl : a = l.length := by
            have := List.drop_eq_nil_iff.1 hd'
            omega
          have htse : ts = lexFrom 0 toks := by simpa [lexFrom] using hts
          have HT := Lib.hid htse
          clear hd hd' hts htse hrest
          go_wp2_with fail
          go_ret3
          exact ⟨lex, rfl, by rw [← HT.out]; exact HO.out, hbel⟩
        | cons t rest =>
          rw [joinT_cons] at hd
          have ht := hrest t (by simp)
          have hrest2 : ∀ u ∈ rest, u.ok := fun u hu => hrest u (by simp [hu])
          have hbp := t.bytes_pos
          have hlen := congrArg List.length hd
          simp only [List.length_drop, List.length_append] at hlen
          have hal : (a : Int) < (l.length : Int) := by omega
          have hd2 : l.drop (a + t.bytes.length) = tailT rest := by
            rw [← List.drop_drop, hd, List.drop_left]
          have htrim : trimSet [9, 10, 13, 32] (l.drop (a + t.bytes.length)) = joinT rest := by rw [hd2]; exact trim_tail rest hrest2
          have hd3 : l.drop (l.length - (joinT rest).length) = joinT rest := by
            cases rest with
            | nil => simp [joinT]
            | cons u rest =>
              have h1 : l.drop (a + t.bytes.length + 1) = joinT (u :: rest) := by rw [← List.drop_drop, hd2]; rfl
              have h2 := congrArg List.length h1
              rw [List.length_drop] at h2
              have h3 : l.length - (joinT (u :: rest)).length = a + t.bytes.length + 1 := by
                have : 0 < (tailT (u :: rest)).length := by simp [tailT]
                have h4 : (tailT (u :: rest)).length = (joinT (u :: rest)).length + 1 := by simp [tailT]
                omega
              rw [h3]; exact h1
          have hlex : ts ++ [lxOf t a] ++ lexFrom (l.length - (joinT rest).length) rest = lexFrom 0 toks := by
            rw [← hts, List.append_assoc]
            congr 1
            cases rest with
            | nil => rfl
            | cons u rest =>
              have h4 : (tailT (u :: rest)).length = (joinT (u :: rest)).length + 1 := by simp [tailT]
              have h3 : l.length - (joinT (u :: rest)).length = a + t.bytes.length + 1 := by omega
              rw [h3]; rfl
          have htl2 : ts.length + 1 ≤ 100 := by
            have := congrArg List.length hts
            rw [List.length_append, lexFrom_length, lexFrom_length] at this
            simp at this
            omega
          have hj2 : (joinT rest).length ≤ l.length := by
            have := congrArg List.length hd3
            rw [List.length_drop] at this
            omega
          have hgo : a < l.length - (joinT rest).length := by
            cases rest with
            | nil => simp [joinT]; omega
            | cons u rest =>
              have h4 : (tailT (u :: rest)).length = (joinT (u :: rest)).length + 1 := by simp [tailT]
              omega
          have hal2 : a + t.bytes.length ≤ l.length := by omega
          have HD := Lib.hid hd
          have HD3 := Lib.hid hd3
          have HT := Lib.hid htrim
          have HL := Lib.hid hlex
          have HR := Lib.hid hrest2
          clear hd hd2 hd3 htrim hlex hrest2 hts hrest hlen
          go_wp2_with fail
          refine Calls.mono (token_any w.heap.size c l a ts nx t (tailT rest) _ ht HS.out HD.out (tailT_stops rest) (by omega) (by omega) hbel.size) ?_
          rintro e w5 ⟨rfl, h5, hb5⟩
          dsimp only
          have HS5 := Lib.hid h5
          obtain ⟨⟨lex5, hrow5, hown5⟩, _⟩ := h5
          have d2 : w5.cell? ⟨c, 2, none⟩ = some lex5 := by rw [Lib.cell_of_heap hrow5]; rfl
          obtain ⟨cap5, A5, rfl⟩ : ∃ cap A, lex5 = .slice A (ts ++ [lxOf t a]).length cap := by
            rcases hown5.2 with ⟨h6, h7⟩ | ⟨g, cap, cur, h6, _⟩
            · simp at h7
            · exact ⟨cap, _, h6⟩
          have hln : (ts ++ [lxOf t a]).length = ts.length + 1 := by simp
          rw [hln] at d2
          have hl512 : ¬ ((ts.length : Int) + 1 > 512) := by omega
          have hbel5 := hbel.trans hb5
          clear hrow5 hown5 hb5 c1 c2 hln
          go_wp2_with fail
          refine Calls.mono (blanks_scan w.heap.size c l _ _ _ _ HS5.out hal2 (by omega)) ?_
          rintro e w6 ⟨rfl, h6, hb6⟩
          dsimp only
          rw [HT.out] at h6
          have HS6 := Lib.hid h6
          have hbel6 := hbel5.trans hb6
          clear h6 hb6
          go_wp2_with fail
          go_roundw
          case rel => exact ⟨l.length - (joinT rest).length, ts ++ [lxOf t a], rest, nextOf t, by omega, HD3.out, HL.out, HR.out, by simp; omega, HS6.out, hbel6⟩
          case measure => rw [HS.out.pos, HS6.out.pos]; omega
end Go.Proofs.YtaadhehcoegmhaaGreatDoor
/- The parser's tokens: peek, pass, is, eat. -/
namespace Go.Proofs.YtaadhehcoegmhaaGreatDoor
open Go Go.RowKit

/-- A value that reads as these tokens, in a block below B. -/
def LexIs (B : Nat) (w : World) (v : Value) (ts : List Lx) : Prop :=
  ∃ A cap, v = .slice A ts.length cap ∧ ts.length ≤ cap ∧ (ts ≠ [] → ∃ b off, A = some ⟨b, off, none⟩ ∧ b < B ∧ ∀ i t, ts[i]? = some t → w.cell? ⟨b, off + 3 * i, none⟩ = some (.int .i64 t.kind) ∧ w.cell? ⟨b, off + 3 * i + 1, none⟩ = some (.string (bs t.text)) ∧ w.cell? ⟨b, off + 3 * i + 2, none⟩ = some (.int .i64 t.at_))
theorem LexIs.kept {B : Nat} {w w' : World} {v : Value} {ts : List Lx} (h : LexIs B w v ts) (hb : ∀ k, k < B → w'.heap[k]? = w.heap[k]?) : LexIs B w' v ts := by
  obtain ⟨A, cap, h1, h2, h3⟩ := h
  refine ⟨A, cap, h1, h2, fun hne => ?_⟩
  obtain ⟨b, off, h4, h6, h5⟩ := h3 hne
  have hc : ∀ k, w'.cell? ⟨b, k, none⟩ = w.cell? ⟨b, k, none⟩ := fun k => World.cell?_of_block (w := w) (hb b h6)
  exact ⟨b, off, h4, h6, fun i t ht => by rw [hc, hc, hc]; exact h5 i t ht⟩

/-- A parser: its block, what is left, and no bracket open; all of it below B. -/
structure Par (B p : Nat) (ts : List Lx) (w : World) : Prop where
  row : ∃ lex, w.heap[p]? = some (.cells #[lex, .int .i64 0, .int .i64 0] 227 (0, 0)) ∧ LexIs B w lex ts
  lt : p < B
  le : B ≤ w.heap.size
  low : 2 < p
  env : Env w
/-- The three variables lie in the first blocks. -/
theorem Env.first {w w' : World} (h : Env w) (hb : ∀ k, k < 3 → w'.heap[k]? = w.heap[k]?) : Env w' := by
  obtain ⟨m, hm⟩ := h.max
  have hc : ∀ k j, k < 3 → w'.cell? ⟨k, j, none⟩ = w.cell? ⟨k, j, none⟩ := fun k j hk => World.cell?_of_block (w := w) (hb k hk)
  exact ⟨⟨m, (hc 2 0 (by decide)).trans hm⟩, fun c hc' => (hc 0 _ (by decide)).trans (h.tabs.1 c hc'), fun i hi => ⟨(hc 1 _ (by decide)).trans (h.tabs.2 i hi).1, (hc 1 _ (by decide)).trans (h.tabs.2 i hi).2⟩⟩
theorem Env.low {w : World} (h : Env w) : 2 < w.heap.size := by
  obtain ⟨m, hm⟩ := h.max
  exact World.block_lt_of_cell? w _ hm
theorem Par.kept {B p : Nat} {ts : List Lx} {w w' : World} (h : Par B p ts w) (hs : w.heap.size ≤ w'.heap.size) (hb : ∀ k, k < B → w'.heap[k]? = w.heap[k]?) : Par B p ts w' := by
  obtain ⟨⟨lex, h1, h2⟩, h3, h4, h5, h6⟩ := h
  exact ⟨⟨lex, (hb _ h3).trans h1, h2.kept hb⟩, h3, Nat.le_trans h4 hs, h5, h6.first fun k hk => hb k (by omega)⟩
theorem Par.below {B p : Nat} {ts : List Lx} {w w' : World} (h : Par B p ts w) (hb : Below w.heap.size w w') : Par B p ts w' :=
  h.kept hb.size fun k hk => hb.block k (Nat.lt_of_lt_of_le hk h.le)
theorem Par.setRow {B p : Nat} {ts : List Lx} {w : World} (h : Par B p ts w) {q : Nat} {cs : Array Value} (hq : B ≤ q) : Par B p ts (w.setRow q cs) :=
  h.kept (by simp [World.setRow]) fun k hk => heap_setRow_ne _ _ _ _ (by omega)

/-- A token as a value. -/
def Lx.val (t : Lx) : Value := .agg #[.int .i64 t.kind, .string (bs t.text), .int .i64 t.at_]
def noLx : Lx := ⟨0, [], 0⟩
def headLx : List Lx → Lx
  | [] => noLx
  | t :: _ => t

set_option maxRecDepth 100000 in
set_option maxHeartbeats 2000000 in
theorem peek_any (B p : Nat) (ts : List Lx) (w : World) (h : Par B p ts w) :
    Calls Tryz.prog 306 #[.pointer (some ⟨p, 0, none⟩)] w fun e w' => e = .returned (headLx ts).val ∧ Below w.heap.size w w' := by
  obtain ⟨⟨lex, h1, A, cap, rfl, hcap, hcells⟩, _, _⟩ := h
  have c0 : w.cell? ⟨p, 0, none⟩ = some (.slice A ts.length cap) := by rw [Lib.cell_of_heap h1]; rfl
  have hg : (w.alloc (.cells #[.int .i64 0, .string ⟨#[]⟩, .int .i64 0] 347)).heap[w.heap.size]? = some (.cells #[.int .i64 0, .string ⟨#[]⟩, .int .i64 0] 347 (0, 0)) := heap_alloc_new w _
  have HG := Lib.hid hg
  have c0' := cell_alloc c0 (.cells #[.int .i64 0, .string ⟨#[]⟩, .int .i64 0] 347)
  cases ts with
  | nil =>
    clear c0 h1 hcells hg
    go_enter Tryz.func306, Tryz.ntmps306
    go_wp2_with (refine wpList_store_row rfl 347 (.tmp 2) (.tmp 9) rfl w.heap.size #[.int .i64 0, .string ⟨#[]⟩, .int .i64 0] rfl rfl 347 _ HG.out (by kernel_rfl) rfl (by simp [Value.oneCell']) ?_)
    exact bodyPost_ret (results_cell_row Tryz.results306 _ _ (w.heap.size) 347 _ (0, 0) _ rfl (setRow_heap _ _ _ _ 347 _ HG.out) Tryz.underlying347 rfl (by kernel_rfl)) rfl ⟨rfl, below_setRow ((Below.refl _ _).alloc (Nat.le_refl _) _) (by omega)⟩
  | cons t ts =>
    obtain ⟨b, off, rfl, _, hc⟩ := hcells (by simp)
    obtain ⟨d0, d1, d2⟩ := hc 0 t rfl
    rw [Nat.mul_zero, Nat.add_zero] at d0 d1 d2
    have d0' := cell_alloc d0 (.cells #[.int .i64 0, .string ⟨#[]⟩, .int .i64 0] 347)
    have d1' := cell_alloc d1 (.cells #[.int .i64 0, .string ⟨#[]⟩, .int .i64 0] 347)
    have d2' := cell_alloc d2 (.cells #[.int .i64 0, .string ⟨#[]⟩, .int .i64 0] 347)
    clear c0 h1 hcells hg hc d0 d1 d2
    go_enter Tryz.func306, Tryz.ntmps306
    go_wp2_with (refine wpList_store_row rfl 347 (.tmp 2) (.tmp 15) rfl w.heap.size #[.int .i64 t.kind, .string (bs t.text), .int .i64 t.at_] rfl rfl 347 _ HG.out (by kernel_rfl) rfl (by simp [Value.oneCell']) ?_)
    exact bodyPost_ret (results_cell_row Tryz.results306 _ _ (w.heap.size) 347 _ (0, 0) _ rfl (setRow_heap _ _ _ _ 347 _ HG.out) Tryz.underlying347 rfl (by kernel_rfl)) rfl ⟨rfl, below_setRow ((Below.refl _ _).alloc (Nat.le_refl _) _) (by omega)⟩
end Go.Proofs.YtaadhehcoegmhaaGreatDoor
/- The parser's tokens: pass. -/
namespace Go.Proofs.YtaadhehcoegmhaaGreatDoor
open Go Go.RowKit

set_option maxRecDepth 100000 in
set_option maxHeartbeats 4000000 in
theorem pass_any (B p : Nat) (t : Lx) (ts : List Lx) (w : World) (h : Par B p (t :: ts) w) (hn : ts.length ≤ 1000) :
    Calls Tryz.prog 265 #[.pointer (some ⟨p, 0, none⟩)] w fun e w' => e = .returned t.val ∧ Par B p ts w' ∧ w.grownBy w' (some p) := by
  have hg0 : (w.alloc (.cells #[.int .i64 0, .string ⟨#[]⟩, .int .i64 0] 347)).heap[w.heap.size]? = some (.cells #[.int .i64 0, .string ⟨#[]⟩, .int .i64 0] 347 (0, 0)) := heap_alloc_new w _
  have hb0 : Below w.heap.size w (w.alloc (.cells #[.int .i64 0, .string ⟨#[]⟩, .int .i64 0] 347)) := (Below.refl _ _).alloc (Nat.le_refl _) _
  have hP0 := Lib.hid (h.below hb0)
  have hpB := h.lt
  have hBw := h.le
  obtain ⟨⟨lex, hrow0, A, cap, rfl, hcap, hcells⟩, _, _⟩ := h
  obtain ⟨b, off, rfl, hbB, hc0⟩ := hcells (by simp)
  have hpw : p < w.heap.size := (Array.getElem?_eq_some_iff.1 hrow0).1
  have hbw0 : b < w.heap.size := at_lt (hc0 0 t rfl).1
  have hbp : b ≠ p := fun e => by
    subst e
    have h1 := (hc0 0 t rfl).2.1
    rw [Lib.cell_of_heap hrow0] at h1
    match hq : off + 3 * 0 + 1 with
    | 0 => omega
    | 1 => rw [hq] at h1; simp at h1
    | 2 => rw [hq] at h1; simp at h1
    | k + 3 => rw [hq] at h1; simp at h1
  have HROW0 := Lib.hid hrow0
  have HC0 := Lib.hid hc0
  clear hrow0 hc0 hcells
  go_enter Tryz.func265, Tryz.ntmps265
  go_wp2_with fail
  refine Calls.mono (peek_any B p (t :: ts) _ hP0.out) ?_
  rintro e w1 ⟨rfl, hb1⟩
  dsimp only
  simp only [headLx, Lx.val]
  have hP1 := Lib.hid (hP0.out.below hb1)
  have hg1 := (hb1.block _ (Array.getElem?_eq_some_iff.1 hg0).1).trans hg0
  have hbw1 := below_then hb0 hb0.size hb1
  obtain ⟨hp1, hp2, hp3⟩ := put_new w1 #[.int .i64 0, .string ⟨#[]⟩, .int .i64 0] #[.int .i64 t.kind, .string (bs t.text), .int .i64 t.at_] 347
  have HG1 := Lib.hid hg1
  have HGA := Lib.hid (heap_alloc_new w1 (.cells #[.int .i64 0, .string ⟨#[]⟩, .int .i64 0] 347))
  obtain ⟨W, hW⟩ : ∃ W, W = (w1.alloc (.cells #[.int .i64 0, .string ⟨#[]⟩, .int .i64 0] 347)).setRow w1.heap.size #[.int .i64 t.kind, .string (bs t.text), .int .i64 t.at_] := ⟨_, rfl⟩
  rw [← hW] at hp1 hp2 hp3
  have HW := Lib.hid hW
  have hbw := below_then hbw1 hbw1.size hp1
  have hrow := (hbw.block _ hpw).trans HROW0.out
  have hg1W := (hp1.block _ (Array.getElem?_eq_some_iff.1 hg1).1).trans hg1
  have q0 : W.cell? ⟨w1.heap.size, 0, none⟩ = some (.int .i64 t.kind) := by rw [Lib.cell_of_heap hp2]; rfl
  have q1 : W.cell? ⟨w1.heap.size, 1, none⟩ = some (.string (bs t.text)) := by rw [Lib.cell_of_heap hp2]; rfl
  have q2 : W.cell? ⟨w1.heap.size, 2, none⟩ = some (.int .i64 t.at_) := by rw [Lib.cell_of_heap hp2]; rfl
  have c0 : W.cell? ⟨p, 0, none⟩ = some (.slice (some ⟨b, off, none⟩) (ts.length + 1) cap) := by rw [Lib.cell_of_heap hrow]; rfl
  have f0 : W.frozen? ⟨p, 0, none⟩ = false := by simp [World.frozen?, hrow]
  have hsz1 := hbw1.size
  have hpq : ¬ p = w1.heap.size := by omega
  have hqp : ¬ w1.heap.size = p := by omega
  have hgt : ((ts.length : Int) + 1 > 0) := by omega
  have HROW := Lib.hid hrow
  have HG1W := Lib.hid hg1W
  have HBW := Lib.hid hbw
  have HP2 := Lib.hid hp2
  have hENV := Lib.hid ((hP1.out.below hp1).env)
  have hLOW := hP1.out.low
  simp only [List.length_cons] at hcap
  clear hg0 hb0 hb1 hg1 hrow hg1W hbw hp2 hp1 hW
  have hfin : ∀ v W3, v = (if cap = 1 then .slice (some ⟨b, off, none⟩) ts.length (cap - 1) else .slice (some ⟨b, off + 3, none⟩) ts.length (cap - 1) : Value) → W3 = (W.setCell ⟨p, 0, none⟩ v).setRow w.heap.size #[.int .i64 t.kind, .string (bs t.text), .int .i64 t.at_] → Par B p ts W3 ∧ w.grownBy W3 (some p) := by
    rintro v W3 hv rfl
    have hblk : ∀ k, k ≠ p → k ≠ w.heap.size → ((W.setCell ⟨p, 0, none⟩ v).setRow w.heap.size #[.int .i64 t.kind, .string (bs t.text), .int .i64 t.at_]).heap[k]? = W.heap[k]? := fun k h1 h2 => by
      rw [heap_setRow_ne _ _ _ _ h2, Below.heap_setCell _ _ _ _ h1]
    refine ⟨⟨⟨v, ?_, ?_⟩, hpB, by have := HBW.out.size; simp [World.setRow, World.setCell]; omega, hLOW, hENV.out.first fun k hk => hblk k (by omega) (by omega)⟩, ?_⟩
    · rw [heap_setRow_ne _ _ _ _ (by omega), setCell_row HROW.out]; rfl
    · refine ⟨if cap = 1 then some ⟨b, off, none⟩ else some ⟨b, off + 3, none⟩, cap - 1, by rw [hv]; split <;> rfl, by omega, fun hne => ?_⟩
      have hc1 : cap ≠ 1 := by
        intro e
        have : 0 < ts.length := List.length_pos_iff.2 hne
        omega
      refine ⟨b, off + 3, by rw [if_neg hc1], hbB, fun i u hu => ?_⟩
      have h := HC0.out (i + 1) u hu
      have hcb : ∀ k x, w.cell? ⟨b, k, none⟩ = some x → ((W.setCell ⟨p, 0, none⟩ v).setRow w.heap.size #[.int .i64 t.kind, .string (bs t.text), .int .i64 t.at_]).cell? ⟨b, k, none⟩ = some x := fun k x hx => by
        rw [World.cell?_of_block (w := W) (hblk b hbp (by omega)), HBW.out.cell hbw0, hx]
      rw [show off + 3 + 3 * i = off + 3 * (i + 1) by omega]
      exact ⟨hcb _ _ h.1, hcb _ _ h.2.1, hcb _ _ h.2.2⟩
    · have hs := HBW.out.size
      refine ⟨HBW.out.os, HBW.out.tape, HBW.out.output, by simpa [World.setRow, World.setCell] using hs, fun k hk hne => ?_⟩
      rw [hblk k (fun e => hne (by rw [e])) (by omega), HBW.out.block k hk]
  have HFIN := Lib.hid hfin
  clear hfin
  have hg3 : ∀ v, (W.setCell ⟨p, 0, none⟩ v).heap[w.heap.size]? = some (.cells #[.int .i64 0, .string ⟨#[]⟩, .int .i64 0] 347 (0, 0)) := fun v => (Below.heap_setCell _ _ _ _ (by show w.heap.size ≠ p; omega)).trans HG1W.out
  have HG3 := Lib.hid hg3
  clear hg3
  by_cases hcap1 : cap = 1
  all_goals
    go_wp2_with (first
      | (refine wpList_store_row rfl 347 (.tmp 3) (.tmp 5) rfl w1.heap.size #[.int .i64 t.kind, .string (bs t.text), .int .i64 t.at_] rfl rfl 347 _ HGA.out (by kernel_rfl) rfl (by simp [Value.oneCell']) ?_; rw [← HW.out])
      | (refine wpList_store_row rfl 347 (.tmp 2) (.tmp 20) rfl w.heap.size #[.int .i64 t.kind, .string (bs t.text), .int .i64 t.at_] rfl rfl 347 _ (HG3.out _) (by kernel_rfl) rfl (by simp [Value.oneCell']) ?_))
    exact bodyPost_ret (results_cell_row Tryz.results265 _ _ (w.heap.size) 347 _ (0, 0) _ rfl (setRow_heap _ _ _ _ 347 _ (HG3.out _)) Tryz.underlying347 rfl (by kernel_rfl)) rfl ⟨rfl, HFIN.out _ _ (by simp [hcap1]) rfl⟩
end Go.Proofs.YtaadhehcoegmhaaGreatDoor
/- The parser's tokens: is, eat. -/
namespace Go.Proofs.YtaadhehcoegmhaaGreatDoor
open Go Go.RowKit

/-- Is the next token of this kind, and one of these? -/
def isLx (ts : List Lx) (k : Int) (qs : List (List UInt8)) : Bool := ((headLx ts).kind == k) && Lib.containsS (qs.map bs) (bs (headLx ts).text)

set_option maxRecDepth 100000 in
set_option maxHeartbeats 2000000 in
theorem is_any (B p : Nat) (ts : List Lx) (k : Int) (qs : List (List UInt8)) (g n : Nat) (w : World) (h : Par B p ts w) (hg : w.heap[g]? = some (.cells (strCells qs) 9 (0, 0))) (hq : n = qs.length) (hq2 : n ≤ 1000) :
    Calls Tryz.prog 263 #[.pointer (some ⟨p, 0, none⟩), .int .i64 k, .slice (some ⟨g, 0, none⟩) n n] w fun e w' => e = .returned (.bool (isLx ts k qs)) ∧ Below w.heap.size w w' := by
  have HP := Lib.hid h
  have HQ := Lib.hid hq
  clear h hq
  obtain ⟨x, hx⟩ : ∃ x, x = headLx ts := ⟨_, rfl⟩
  have hpk : ∀ w, Par B p ts w → Calls Tryz.prog 306 #[.pointer (some ⟨p, 0, none⟩)] w fun e w' => e = .returned x.val ∧ Below w.heap.size w w' := fun w hw => by rw [hx]; exact peek_any B p ts w hw
  have hres : isLx ts k qs = ((x.kind == k) && Lib.containsS (qs.map bs) (bs x.text)) := by rw [hx]; rfl
  have HPK := Lib.hid hpk
  have HR := Lib.hid hres
  clear hpk hx hres
  go_enter Tryz.func263, Tryz.ntmps263
  go_wp2_with fail
  refine Calls.mono (HPK.out w HP.out) ?_
  rintro e w1 ⟨rfl, hb1⟩
  dsimp only
  simp only [Lx.val]
  obtain ⟨hp1, hp2, hp3⟩ := put_new w1 #[.int .i64 0, .string ⟨#[]⟩, .int .i64 0] #[.int .i64 x.kind, .string (bs x.text), .int .i64 x.at_] 347
  have HGA := Lib.hid (heap_alloc_new w1 (.cells #[.int .i64 0, .string ⟨#[]⟩, .int .i64 0] 347))
  obtain ⟨W, hW⟩ : ∃ W, W = (w1.alloc (.cells #[.int .i64 0, .string ⟨#[]⟩, .int .i64 0] 347)).setRow w1.heap.size #[.int .i64 x.kind, .string (bs x.text), .int .i64 x.at_] := ⟨_, rfl⟩
  rw [← hW] at hp1 hp2 hp3
  have HW := Lib.hid hW
  have hbw := below_then hb1 hb1.size hp1
  have q0 : W.cell? ⟨w1.heap.size, 0, none⟩ = some (.int .i64 x.kind) := by rw [Lib.cell_of_heap hp2]; rfl
  have q1 : W.cell? ⟨w1.heap.size, 1, none⟩ = some (.string (bs x.text)) := by rw [Lib.cell_of_heap hp2]; rfl
  have hrow : ∀ j, j < (qs.map bs).length → W.cell? ⟨g, 0 + j, none⟩ = some (.string ((qs.map bs).getD j ByteArray.empty)) := fun j hj => by
    have hjl : j < qs.length := by simpa using hj
    rw [strCells_at (p := qs[j]) ((hbw.block _ (Array.getElem?_eq_some_iff.1 hg).1).trans hg) (by simp [hjl])]
    simp [List.getD, hjl]
  have hct := Tryz.slices_Contains_string g 0 n n (qs.map bs) (bs x.text) W (by simp [HQ.out]) (by omega) hrow
  have HCT := Lib.hid hct
  have HBW := Lib.hid hbw
  clear hct hrow hp1 hp2 hb1 hbw hW hg
  by_cases hk : x.kind = k
  · subst hk
    go_wp2_with (refine wpList_store_row rfl 347 (.tmp 7) (.tmp 9) rfl w1.heap.size #[.int .i64 x.kind, .string (bs x.text), .int .i64 x.at_] rfl rfl 347 _ HGA.out (by kernel_rfl) rfl (by simp [Value.oneCell']) ?_; rw [← HW.out])
    refine Calls.mono HCT.out ?_
    rintro e w2 ⟨rfl, rfl⟩
    dsimp only
    rw [HQ.out, show (qs.map bs).take qs.length = qs.map bs from List.take_of_length_le (by simp)]
    have hb : isLx ts x.kind qs = Lib.containsS (qs.map bs) (bs x.text) := by rw [HR.out]; simp
    rw [← hb]
    clear hb
    go_wp2_with fail
    go_ret
    exact ⟨rfl, HBW.out⟩
  · have hkf : (x.kind == k) = false := by simpa using hk
    have hb : isLx ts k qs = false := by rw [HR.out, hkf]; rfl
    have HBB := Lib.hid hb
    clear hb hk
    go_wp2_with (refine wpList_store_row rfl 347 (.tmp 7) (.tmp 9) rfl w1.heap.size #[.int .i64 x.kind, .string (bs x.text), .int .i64 x.at_] rfl rfl 347 _ HGA.out (by kernel_rfl) rfl (by simp [Value.oneCell']) ?_; rw [← HW.out])
    go_ret
    exact ⟨by rw [HBB.out]; rfl, HBW.out⟩

set_option maxRecDepth 100000 in
set_option maxHeartbeats 2000000 in
theorem eat_no (B p : Nat) (ts : List Lx) (k : Int) (q : List UInt8) (w : World) (h : Par B p ts w) (hno : isLx ts k [q] = false) :
    Calls Tryz.prog 304 #[.pointer (some ⟨p, 0, none⟩), .int .i64 k, .string (bs q)] w fun e w' => e = .returned (.bool false) ∧ Below w.heap.size w w' := by
  have HN := Lib.hid hno
  have HP := Lib.hid h
  clear h hno
  go_enter Tryz.func304, Tryz.ntmps304
  go_wp2_with fail
  refine Calls.mono (is_any B p ts k [q] w.heap.size 1 _ (HP.out.below ((Below.refl _ _).alloc (Nat.le_refl _) _)) (heap_alloc_new w _) rfl (by decide)) ?_
  rintro e w1 ⟨rfl, hb1⟩
  dsimp only
  rw [HN.out]
  go_wp2_with fail
  go_ret
  exact ⟨rfl, below_then ((Below.refl _ _).alloc (Nat.le_refl _) _) (by simp) hb1⟩
end Go.Proofs.YtaadhehcoegmhaaGreatDoor
/- Expressions as cells; kids; a variable as primary. -/
namespace Go.Proofs.YtaadhehcoegmhaaGreatDoor
open Go Go.RowKit

/-- The statements' own expressions: a number, a variable, a sum. -/
inductive Ex where
  | num (k v : Int) | var (t : List UInt8) | add (a b : Ex)
/-- The cells of an expression without kids. -/
def leafCells (op : Int) (t : List UInt8) (k v : Int) (kids : Value) : List Value := [.int .i64 op, .string (bs t), .int .i64 k, .int .i64 v, .int .i64 0, .int .i64 0, kids]
/-- These cells say this expression; its rows lie from block lo on. -/
def ExIs (lo : Nat) (w : World) : Ex → List Value → Prop
  | .num k v, cs => cs = leafCells 16 [] k v (.slice none 0 0)
  | .var t, cs => cs = leafCells 18 t 0 0 (.slice none 0 0)
  | .add a b, cs => ∃ g cap ca cb, cs = leafCells 9 [] 0 0 (.slice (some ⟨g, 0, none⟩) 2 cap) ∧ 2 ≤ cap ∧ lo ≤ g ∧ ExIs lo w a ca ∧ ExIs lo w b cb ∧ ∀ i v, (ca ++ cb)[i]? = some v → w.cell? ⟨g, i, none⟩ = some v
theorem ExIs.length {lo : Nat} {w : World} {e : Ex} {cs : List Value} (h : ExIs lo w e cs) : cs.length = 7 := by
  cases e with
  | num => rw [h]; rfl
  | var => rw [h]; rfl
  | add a b => obtain ⟨g, cap, ca, cb, rfl, _⟩ := h; rfl
theorem ExIs.kept {lo : Nat} {w w' : World} : ∀ {e : Ex} {cs : List Value}, ExIs lo w e cs → (∀ k, lo ≤ k → k < w.heap.size → w'.heap[k]? = w.heap[k]?) → ExIs lo w' e cs
  | .num _ _, _, h, _ => h
  | .var _, _, h, _ => h
  | .add _ _, _, ⟨g, cap, ca, cb, h1, h2, h6, h3, h4, h5⟩, hb => ⟨g, cap, ca, cb, h1, h2, h6, h3.kept hb, h4.kept hb, fun i v hv => (World.cell?_of_block (w := w) (a := ⟨g, i, none⟩) (hb g h6 (at_lt (h5 i v hv)))).trans (h5 i v hv)⟩
theorem ExIs.mono {lo lo' : Nat} {w : World} (hl : lo' ≤ lo) : ∀ {e : Ex} {cs : List Value}, ExIs lo w e cs → ExIs lo' w e cs
  | .num _ _, _, h => h
  | .var _, _, h => h
  | .add _ _, _, ⟨g, cap, ca, cb, h1, h2, h6, h3, h4, h5⟩ => ⟨g, cap, ca, cb, h1, h2, Nat.le_trans hl h6, h3.mono hl, h4.mono hl, h5⟩
theorem ExIs.below {lo : Nat} {w w' : World} {e : Ex} {cs : List Value} (h : ExIs lo w e cs) (hb : Below w.heap.size w w') : ExIs lo w' e cs := h.kept fun k _ hk => hb.block k hk
theorem ExIs.setRow {lo q : Nat} {w : World} {e : Ex} {cs : List Value} {xs : Array Value} (h : ExIs lo w e cs) (hq : q < lo) : ExIs lo (w.setRow q xs) e cs := h.kept fun k hk _ => heap_setRow_ne _ _ _ _ (by omega)

theorem info155 : (Tryz.prog.info? 155).map (fun i => (i.zero, i.size, i.bytes)) = some (some (.agg #[.int .i64 0, .string ⟨#[]⟩, .int .i64 0, .int .i64 0, .int .i64 0, .int .i64 0, .slice none 0 0]), 7, 80) := by kernel_rfl

set_option maxRecDepth 100000 in
set_option maxHeartbeats 2000000 in
theorem kids_any (op : Int) (A : Option Addr) (n cap : Nat) (w : World) :
    Calls Tryz.prog 266 #[.int .i64 op, .slice A n cap] w fun e w' => e = .returned (.agg (leafCells op [] 0 0 (.slice A n cap)).toArray) ∧ Below w.heap.size w w' := by
  have HGA := Lib.hid (heap_alloc_new w (.cells #[.int .i64 0, .string ⟨#[]⟩, .int .i64 0, .int .i64 0, .int .i64 0, .int .i64 0, .slice none 0 0] 155))
  go_enter Tryz.func266, Tryz.ntmps266
  go_wp2_with (refine wpList_store_row rfl 155 (.tmp 4) (.tmp 7) rfl w.heap.size #[.int .i64 op, .string ⟨#[]⟩, .int .i64 0, .int .i64 0, .int .i64 0, .int .i64 0, .slice A n cap] rfl rfl 155 _ HGA.out (by kernel_rfl) rfl (by simp [Value.oneCell']) ?_)
  exact bodyPost_ret (results_cell_row Tryz.results266 _ _ (w.heap.size) 155 _ (0, 0) _ rfl (setRow_heap _ _ _ _ 155 _ HGA.out) Tryz.underlying155 rfl (by kernel_rfl)) rfl ⟨rfl, below_setRow ((Below.refl _ _).alloc (Nat.le_refl _) _) (by omega)⟩

theorem _root_.Go.World.grownBy.trans2 {a b c : World} {row : Option Nat} (h : a.grownBy b row) (k : b.grownBy c row) (_hs : a.heap.size ≤ b.heap.size) : a.grownBy c row :=
  h.trans k
theorem grown_setRow {w w' : World} {row : Option Nat} {q : Nat} {cs : Array Value} (h : w.grownBy w' row) (hq : w.heap.size ≤ q) : w.grownBy (w'.setRow q cs) row :=
  ⟨h.os, h.tape, h.output, by simpa [World.setRow] using h.size, fun k hk hne => (heap_setRow_ne _ _ _ _ (by omega)).trans (h.block k hk hne)⟩
theorem field_text (k a : Int) (x : List UInt8) (w : World) : (Instr.field 347 (.agg #[.int .i64 k, .string (bs x), .int .i64 a]) 1).run Tryz.prog w = .ok (.string (bs x)) w := by kernel_rfl

set_option maxRecDepth 100000 in
set_option maxHeartbeats 4000000 in
theorem primary_var (B p : Nat) (x : List UInt8) (at_ : Nat) (ts : List Lx) (w : World) (h : Par B p (⟨7, x, at_⟩ :: ts) w) (hn : ts.length ≤ 1000) :
    Calls Tryz.prog 330 #[.pointer (some ⟨p, 0, none⟩)] w fun e w' => e = .returned (.tuple #[.agg (leafCells 18 x 0 0 (.slice none 0 0)).toArray, .bool true]) ∧ Par B p ts w' ∧ w.grownBy w' (some p) := by
  have hpw : p < w.heap.size := Nat.lt_of_lt_of_le h.lt h.le
  have hBw := h.le
  have hg0 := heap_alloc_new w (.cells #[.int .i64 0, .string ⟨#[]⟩, .int .i64 0, .int .i64 0, .int .i64 0, .int .i64 0, .slice none 0 0] 155)
  have hb0 : Below w.heap.size w (w.alloc (.cells #[.int .i64 0, .string ⟨#[]⟩, .int .i64 0, .int .i64 0, .int .i64 0, .int .i64 0, .slice none 0 0] 155)) := (Below.refl _ _).alloc (Nat.le_refl _) _
  have hP0 := Lib.hid (h.below hb0)
  clear h
  go_enter Tryz.func330, Tryz.ntmps330
  go_wp2_with fail
  refine Calls.mono (peek_any B p _ _ hP0.out) ?_
  rintro e w1 ⟨rfl, hb1⟩
  dsimp only
  simp only [headLx, Lx.val]
  obtain ⟨hp1, hp2, hp3⟩ := put_new w1 #[.int .i64 0, .string ⟨#[]⟩, .int .i64 0] #[.int .i64 7, .string (bs x), .int .i64 at_] 347
  have HGA := Lib.hid (heap_alloc_new w1 (.cells #[.int .i64 0, .string ⟨#[]⟩, .int .i64 0] 347))
  obtain ⟨W, hW⟩ : ∃ W, W = (w1.alloc (.cells #[.int .i64 0, .string ⟨#[]⟩, .int .i64 0] 347)).setRow w1.heap.size #[.int .i64 7, .string (bs x), .int .i64 at_] := ⟨_, rfl⟩
  rw [← hW] at hp1 hp2 hp3
  have HW := Lib.hid hW
  have hbw1 := below_then hb0 hb0.size hb1
  have hbw := below_then hbw1 hbw1.size hp1
  have hgW := (hp1.block _ (by have := hb1.size; simp at this; omega)).trans ((hb1.block _ (by simp)).trans hg0)
  have hPW := Lib.hid ((hP0.out.below hb1).below hp1)
  have q0 : W.cell? ⟨w1.heap.size, 0, none⟩ = some (.int .i64 7) := by rw [Lib.cell_of_heap hp2]; rfl
  have HGW := Lib.hid hgW
  have HBW := Lib.hid hbw
  clear hp1 hp2 hb1 hbw hW hg0 hb0 hgW hbw1
  go_wp2_with (refine wpList_store_row rfl 347 (.tmp 4) (.tmp 12) rfl w1.heap.size #[.int .i64 7, .string (bs x), .int .i64 at_] rfl rfl 347 _ HGA.out (by kernel_rfl) rfl (by simp [Value.oneCell']) ?_; rw [← HW.out])
  refine Calls.mono (pass_any B p _ ts _ hPW.out hn) ?_
  rintro e w2 ⟨rfl, hP2, hgr⟩
  dsimp only
  simp only [Lx.val]
  have hg2 := (hgr.block w.heap.size (Array.getElem?_eq_some_iff.1 HGW.out).1 (by intro e; cases e; omega)).trans HGW.out
  have HG2 := Lib.hid hg2
  have HP2 := Lib.hid hP2
  have hfd := field_text 7 at_ x
  clear hg2 hP2
  go_wp2_with (refine wpList_store_row rfl 155 (.tmp 2) (.tmp 22) rfl w.heap.size #[.int .i64 18, .string (bs x), .int .i64 0, .int .i64 0, .int .i64 0, .int .i64 0, .slice none 0 0] rfl rfl 155 _ HG2.out (by kernel_rfl) rfl (by simp [Value.oneCell']) ?_)
  exact bodyPost_ret (results_cell_tmp Tryz.results330 _ _ (w.heap.size) 155 _ (0, 0) _ rfl (setRow_heap _ _ _ _ 155 _ HG2.out) Tryz.underlying155 rfl (by kernel_rfl)) rfl ⟨rfl, HP2.out.setRow hBw, grown_setRow ((grown_of_below HBW.out (some p)).trans2 hgr HBW.out.size) (Nat.le_refl _)⟩
end Go.Proofs.YtaadhehcoegmhaaGreatDoor
/- predicates where there are none; path and negated at a leaf. -/
namespace Go.Proofs.YtaadhehcoegmhaaGreatDoor
open Go Go.RowKit

/-- What may stand behind a primary: nothing, or a plus. -/
def Calm (ts : List Lx) : Prop := ts = [] ∨ ∃ a r, ts = ⟨8, [43], a⟩ :: r
theorem bs_inj {a b : List UInt8} (h : bs a = bs b) : a = b := by
  have := congrArg (fun s : ByteArray => s.data.toList) h
  simpa using this
theorem calm_not {ts : List Lx} (h : Calm ts) (k : Int) (qs : List (List UInt8)) (hk : k ≠ 0) (hq : k = 8 → [43] ∉ qs) : isLx ts k qs = false := by
  rcases h with rfl | ⟨a, r, rfl⟩
  · have : ((0 : Int) == k) = false := by simpa using fun e => hk e.symm
    simp [isLx, headLx, noLx, this]
  · by_cases h8 : k = 8
    · have hn := hq h8
      subst h8
      have : Lib.containsS (qs.map bs) (bs [43]) = false := by
        cases hc : Lib.containsS (qs.map bs) (bs [43]) with
        | false => rfl
        | true =>
          obtain ⟨q, hq1, hq2⟩ := List.mem_map.1 ((Lib.containsS_iff _ _).1 hc)
          exact absurd (bs_inj hq2 ▸ hq1) hn
      simp [isLx, headLx, this]
    · have : ((8 : Int) == k) = false := by simpa using fun e => h8 e.symm
      simp [isLx, headLx, this]

set_option maxRecDepth 100000 in
set_option maxHeartbeats 2000000 in
theorem predicates_none (B p : Nat) (ts : List Lx) (w : World) (h : Par B p ts w) (hno : isLx ts 9 [[91]] = false) :
    Calls Tryz.prog 331 #[.pointer (some ⟨p, 0, none⟩)] w fun e w' => e = .returned (.slice none 0 0) ∧ Below w.heap.size w w' := by
  have HP := Lib.hid h
  have HN := Lib.hid hno
  clear h hno
  go_enter Tryz.func331, Tryz.ntmps331
  go_wp2_with fail
  go_loopw [3] (fun v wr => v = .slice none 0 0 ∧ w = wr)
    (fun _ _ => 0)
  case atStart => exact ⟨rfl, rfl⟩
  case round =>
    obtain ⟨rfl, rfl⟩ := hrel
    go_wp2_with fail
    refine Calls.mono (eat_no B p ts 9 [91] w HP.out HN.out) ?_
    rintro e w1 ⟨rfl, hb1⟩
    dsimp only
    go_wp2_with fail
    go_ret
    exact ⟨rfl, hb1⟩

/-- The type's cells, bare. -/
abbrev zero155 : Array Value := #[.int .i64 0, .string ⟨#[]⟩, .int .i64 0, .int .i64 0, .int .i64 0, .int .i64 0, .slice none 0 0]
abbrev leaf7 (op : Int) (x : List UInt8) (k v : Int) : Array Value := #[.int .i64 op, .string (bs x), .int .i64 k, .int .i64 v, .int .i64 0, .int .i64 0, .slice none 0 0]

/-- What a function of the parser does at a leaf. -/
def LeafAt (f : FuncId) (res : Value) (B p : Nat) (t : Lx) (ts : List Lx) : Prop :=
  ∀ w, Par B p (t :: ts) w → Calls Tryz.prog f #[.pointer (some ⟨p, 0, none⟩)] w fun e w' => e = .returned res ∧ Par B p ts w' ∧ w.grownBy w' (some p)

set_option maxRecDepth 100000 in
set_option maxHeartbeats 4000000 in
theorem path_leaf (B p : Nat) (t : Lx) (ts : List Lx) (op k v : Int) (x : List UInt8) (hts : Calm ts)
    (hprim : LeafAt 330 (.tuple #[.agg (leaf7 op x k v), .bool true]) B p t ts) : LeafAt 305 (.agg (leaf7 op x k v)) B p t ts := by
  intro w h
  have hpw : p < w.heap.size := Nat.lt_of_lt_of_le h.lt h.le
  have hBw := h.le
  have hg0 := heap_alloc_new w (.cells zero155 155)
  have hb0 : Below w.heap.size w (w.alloc (.cells zero155 155)) := (Below.refl _ _).alloc (Nat.le_refl _) _
  have hP0 := Lib.hid (h.below hb0)
  have HPR := Lib.hid hprim
  clear h hprim
  go_enter Tryz.func305, Tryz.ntmps305
  go_wp2_with fail
  refine Calls.mono (HPR.out _ hP0.out) ?_
  rintro e w1 ⟨rfl, hP1, hgr1⟩
  dsimp only
  obtain ⟨hp1, hp2, hp3⟩ := put_new w1 zero155 (leaf7 op x k v) 155
  have HGA := Lib.hid (heap_alloc_new w1 (.cells zero155 155))
  obtain ⟨W, hW⟩ : ∃ W, W = (w1.alloc (.cells zero155 155)).setRow w1.heap.size (leaf7 op x k v) := ⟨_, rfl⟩
  rw [← hW] at hp1 hp2 hp3
  have HW := Lib.hid hW
  have hs1 := hgr1.size
  simp at hs1
  have hg1 := (hgr1.block w.heap.size (by simp) (by intro e; cases e; omega)).trans hg0
  have hgW := (hp1.block _ (by omega)).trans hg1
  have hPW := Lib.hid (hP1.below hp1)
  have hgrW : w.grownBy W (some p) := ((grown_of_below hb0 (some p)).trans hgr1).trans (grown_of_below hp1 (some p))
  have HGW := Lib.hid hgW
  have HGR := Lib.hid hgrW
  have HQ := Lib.hid hp2
  clear hp1 hp2 hW hg0 hb0 hgW hg1 hgrW hgr1 hP1
  go_wp2_with (refine wpList_store_row rfl 155 (.tmp 3) (.tmp 10) rfl w1.heap.size (leaf7 op x k v) rfl rfl 155 _ HGA.out (by kernel_rfl) rfl (by simp [Value.oneCell']) ?_; rw [← HW.out])
  refine Calls.mono (predicates_none B p ts W hPW.out (calm_not hts 9 _ (by decide) (by decide))) ?_
  rintro e w2 ⟨rfl, hb2⟩
  dsimp only
  have hPn2 := Lib.hid (hPW.out.below hb2)
  have hq2 := (hb2.block _ (Array.getElem?_eq_some_iff.1 HQ.out).1).trans HQ.out
  have hg2 := (hb2.block _ (Array.getElem?_eq_some_iff.1 HGW.out).1).trans HGW.out
  have hgr2 := HGR.out.trans (grown_of_below hb2 (some p))
  have HQ2 := Lib.hid hq2
  have HG2 := Lib.hid hg2
  have HGR2 := Lib.hid hgr2
  clear hb2 hq2 hg2 hgr2
  go_wp2_with fail
  refine Calls.mono (is_any B p ts 8 [[47], [47, 47]] w2.heap.size 2 _ (hPn2.out.below ((Below.refl _ _).alloc (Nat.le_refl _) _)) (heap_alloc_new w2 _) rfl (by decide)) ?_
  rintro e w3 ⟨rfl, hb3⟩
  dsimp only
  rw [calm_not hts 8 [[47], [47, 47]] (by decide) (by decide)]
  have hbb3 := below_then ((Below.refl _ _).alloc (Nat.le_refl _) _) (by simp) hb3
  have hq3 := (hbb3.block _ (Array.getElem?_eq_some_iff.1 HQ2.out).1).trans HQ2.out
  have hg3 := (hbb3.block _ (Array.getElem?_eq_some_iff.1 HG2.out).1).trans HG2.out
  have hgr3 := HGR2.out.trans (grown_of_below hbb3 (some p))
  have hP3 := hPn2.out.below hbb3
  have r0 : w3.cell? ⟨w1.heap.size, 0, none⟩ = some (.int .i64 op) := by rw [Lib.cell_of_heap hq3]; rfl
  have r1 : w3.cell? ⟨w1.heap.size, 1, none⟩ = some (.string (bs x)) := by rw [Lib.cell_of_heap hq3]; rfl
  have r2 : w3.cell? ⟨w1.heap.size, 2, none⟩ = some (.int .i64 k) := by rw [Lib.cell_of_heap hq3]; rfl
  have r3 : w3.cell? ⟨w1.heap.size, 3, none⟩ = some (.int .i64 v) := by rw [Lib.cell_of_heap hq3]; rfl
  have r4 : w3.cell? ⟨w1.heap.size, 4, none⟩ = some (.int .i64 0) := by rw [Lib.cell_of_heap hq3]; rfl
  have r5 : w3.cell? ⟨w1.heap.size, 5, none⟩ = some (.int .i64 0) := by rw [Lib.cell_of_heap hq3]; rfl
  have r6 : w3.cell? ⟨w1.heap.size, 6, none⟩ = some (.slice none 0 0) := by rw [Lib.cell_of_heap hq3]; rfl
  have HG3 := Lib.hid hg3
  have HP3 := Lib.hid hP3
  have HGR3 := Lib.hid hgr3
  clear hb3 hbb3 hq3 hg3 hgr3 hP3
  go_wp2_with (refine wpList_store_row rfl 155 (.tmp 2) (.tmp 36) rfl w.heap.size (leaf7 op x k v) rfl rfl 155 _ HG3.out (by kernel_rfl) rfl (by simp [Value.oneCell']) ?_)
  exact bodyPost_ret (results_cell_row Tryz.results305 _ _ (w.heap.size) 155 _ (0, 0) _ rfl (setRow_heap _ _ _ _ 155 _ HG3.out) Tryz.underlying155 rfl (by kernel_rfl)) rfl ⟨rfl, HP3.out.setRow hBw, grown_setRow HGR3.out (Nat.le_refl _)⟩
end Go.Proofs.YtaadhehcoegmhaaGreatDoor
/- negated at a leaf; the levels. -/
namespace Go.Proofs.YtaadhehcoegmhaaGreatDoor
open Go Go.RowKit

theorem kind_not {t : Lx} {ts : List Lx} {k : Int} {qs : List (List UInt8)} (h : t.kind ≠ k) : isLx (t :: ts) k qs = false := by
  have : (t.kind == k) = false := by simpa using h
  simp [isLx, headLx, this]

set_option maxRecDepth 100000 in
set_option maxHeartbeats 4000000 in
theorem negated_leaf (B p : Nat) (t : Lx) (ts : List Lx) (op k v : Int) (x : List UInt8) (hts : Calm ts) (htk : t.kind ≠ 8)
    (hpath : LeafAt 305 (.agg (leaf7 op x k v)) B p t ts) : LeafAt 262 (.agg (leaf7 op x k v)) B p t ts := by
  intro w h
  have hpw : p < w.heap.size := Nat.lt_of_lt_of_le h.lt h.le
  have hBw := h.le
  have hg0 := heap_alloc_new w (.cells zero155 155)
  have hb0 : Below w.heap.size w (w.alloc (.cells zero155 155)) := (Below.refl _ _).alloc (Nat.le_refl _) _
  have hP0 := Lib.hid (h.below hb0)
  have HPR := Lib.hid hpath
  clear h hpath
  go_enter Tryz.func262, Tryz.ntmps262
  go_wp2_with fail
  refine Calls.mono (eat_no B p (t :: ts) 8 [45] _ hP0.out (kind_not htk)) ?_
  rintro e w0 ⟨rfl, hb00⟩
  dsimp only
  have hP00 := Lib.hid (hP0.out.below hb00)
  have hbw0 := below_then hb0 hb0.size hb00
  have hg00 := (hb00.block w.heap.size (by simp)).trans hg0
  have hs0 := hb00.size
  simp at hs0
  go_wp2_with fail
  refine Calls.mono (HPR.out _ hP00.out) ?_
  rintro e w1 ⟨rfl, hP1, hgr1⟩
  dsimp only
  obtain ⟨hp1, hp2, hp3⟩ := put_new w1 zero155 (leaf7 op x k v) 155
  have HGA := Lib.hid (heap_alloc_new w1 (.cells zero155 155))
  obtain ⟨W, hW⟩ : ∃ W, W = (w1.alloc (.cells zero155 155)).setRow w1.heap.size (leaf7 op x k v) := ⟨_, rfl⟩
  rw [← hW] at hp1 hp2 hp3
  have HW := Lib.hid hW
  have hs1 := hgr1.size
  have hg1 := (hgr1.block w.heap.size (by omega) (by intro e; cases e; omega)).trans hg00
  have hgW := (hp1.block _ (by omega)).trans hg1
  have hPW := Lib.hid (hP1.below hp1)
  have hgrW : w.grownBy W (some p) := ((grown_of_below hbw0 (some p)).trans hgr1).trans (grown_of_below hp1 (some p))
  have HGW := Lib.hid hgW
  have HGR := Lib.hid hgrW
  have HQ := Lib.hid hp2
  clear hp1 hp2 hW hg0 hb0 hgW hg1 hgrW hgr1 hP1 hb00 hbw0 hg00 hs0
  go_wp2_with (refine wpList_store_row rfl 155 (.tmp 3) (.tmp 13) rfl w1.heap.size (leaf7 op x k v) rfl rfl 155 _ HGA.out (by kernel_rfl) rfl (by simp [Value.oneCell']) ?_; rw [← HW.out])
  dsimp only [Act.put]
  go_loopw [14] (fun _ wr => W = wr)
    (fun _ _ => 0)
  case atStart => rfl
  case round =>
    subst hrel
    go_wp2_with fail
    refine Calls.mono (eat_no B p ts 8 [124] _ hPW.out (calm_not hts 8 _ (by decide) (by decide))) ?_
    rintro e w3 ⟨rfl, hbb3⟩
    dsimp only
    have hq3 := (hbb3.block _ (Array.getElem?_eq_some_iff.1 HQ.out).1).trans HQ.out
    have hg3 := (hbb3.block _ (Array.getElem?_eq_some_iff.1 HGW.out).1).trans HGW.out
    have hgr3 := HGR.out.trans (grown_of_below hbb3 (some p))
    have hP3 := hPW.out.below hbb3
    have r0 : w3.cell? ⟨w1.heap.size, 0, none⟩ = some (.int .i64 op) := by rw [Lib.cell_of_heap hq3]; rfl
    have r1 : w3.cell? ⟨w1.heap.size, 1, none⟩ = some (.string (bs x)) := by rw [Lib.cell_of_heap hq3]; rfl
    have r2 : w3.cell? ⟨w1.heap.size, 2, none⟩ = some (.int .i64 k) := by rw [Lib.cell_of_heap hq3]; rfl
    have r3 : w3.cell? ⟨w1.heap.size, 3, none⟩ = some (.int .i64 v) := by rw [Lib.cell_of_heap hq3]; rfl
    have r4 : w3.cell? ⟨w1.heap.size, 4, none⟩ = some (.int .i64 0) := by rw [Lib.cell_of_heap hq3]; rfl
    have r5 : w3.cell? ⟨w1.heap.size, 5, none⟩ = some (.int .i64 0) := by rw [Lib.cell_of_heap hq3]; rfl
    have r6 : w3.cell? ⟨w1.heap.size, 6, none⟩ = some (.slice none 0 0) := by rw [Lib.cell_of_heap hq3]; rfl
    have HG3 := Lib.hid hg3
    have HP3 := Lib.hid hP3
    have HGR3 := Lib.hid hgr3
    clear hbb3 hq3 hg3 hgr3 hP3
    go_wp2_with (refine wpList_store_row rfl 155 (.tmp 2) (.tmp 23) rfl w.heap.size (leaf7 op x k v) rfl rfl 155 _ HG3.out (by kernel_rfl) rfl (by simp [Value.oneCell']) ?_)
    exact bodyPost_ret (results_cell_row Tryz.results262 _ _ (w.heap.size) 155 _ (0, 0) _ rfl (setRow_heap _ _ _ _ 155 _ HG3.out) Tryz.underlying155 rfl (by kernel_rfl)) rfl ⟨rfl, HP3.out.setRow hBw, grown_setRow HGR3.out (Nat.le_refl _)⟩

/-- The operators of each level. -/
def levelRows : List (List (List UInt8)) := [[[111, 114]], [[97, 110, 100]], [[61], [33, 61]], [[60], [60, 61], [62], [62, 61]], [[43], [45]], [[42], [100, 105, 118], [109, 111, 100]]]
def levelRow (i : Nat) : List (List UInt8) := levelRows.getD i []
def levelLen (i : Nat) : Nat := (levelRow i).length
/-- The levels' rows lie in a world, from block lo on. -/
def LevelsAt (lo : Nat) (v : Value) (w : World) : Prop := ∃ g, v = .slice (some ⟨g, 0, none⟩) 6 6 ∧ lo ≤ g ∧ ∀ i, i < 6 → ∃ b, lo ≤ b ∧ w.cell? ⟨g, i, none⟩ = some (.slice (some ⟨b, 0, none⟩) (levelRow i).length (levelRow i).length) ∧ w.heap[b]? = some (.cells (strCells (levelRow i)) 9 (0, 0))
theorem LevelsAt.kept {lo : Nat} {v : Value} {w w' : World} (h : LevelsAt lo v w) (hb : ∀ k, lo ≤ k → k < w.heap.size → w'.heap[k]? = w.heap[k]?) : LevelsAt lo v w' := by
  obtain ⟨g, h1, h5, h2⟩ := h
  refine ⟨g, h1, h5, fun i hi => ?_⟩
  obtain ⟨b, h6, h3, h4⟩ := h2 i hi
  exact ⟨b, h6, (World.cell?_of_block (w := w) (a := ⟨g, i, none⟩) (hb g h5 (at_lt h3))).trans h3, (hb b h6 (Array.getElem?_eq_some_iff.1 h4).1).trans h4⟩
theorem LevelsAt.below {lo : Nat} {v : Value} {w w' : World} (h : LevelsAt lo v w) (hb : Below w.heap.size w w') : LevelsAt lo v w' := h.kept fun k _ hk => hb.block k hk

def levelsWorld (w : World) : World :=
  ((((((w.alloc (.cells (strCells (levelRow 0)) 9)).alloc (.cells (strCells (levelRow 1)) 9)).alloc (.cells (strCells (levelRow 2)) 9)).alloc (.cells (strCells (levelRow 3)) 9)).alloc (.cells (strCells (levelRow 4)) 9)).alloc (.cells (strCells (levelRow 5)) 9)).alloc
    (.cells #[.slice (some ⟨w.heap.size, 0, none⟩) 1 1, .slice (some ⟨w.heap.size + 1, 0, none⟩) 1 1, .slice (some ⟨w.heap.size + 1 + 1, 0, none⟩) 2 2, .slice (some ⟨w.heap.size + 1 + 1 + 1, 0, none⟩) 4 4, .slice (some ⟨w.heap.size + 1 + 1 + 1 + 1, 0, none⟩) 2 2, .slice (some ⟨w.heap.size + 1 + 1 + 1 + 1 + 1, 0, none⟩) 3 3] 56)
theorem levelsAt_new (w : World) : LevelsAt w.heap.size (.slice (some ⟨w.heap.size + 1 + 1 + 1 + 1 + 1 + 1, 0, none⟩) 6 6) (levelsWorld w) := by
  have h6 : (levelsWorld w).heap[w.heap.size + 1 + 1 + 1 + 1 + 1 + 1]? = some (.cells #[.slice (some ⟨w.heap.size, 0, none⟩) 1 1, .slice (some ⟨w.heap.size + 1, 0, none⟩) 1 1, .slice (some ⟨w.heap.size + 1 + 1, 0, none⟩) 2 2, .slice (some ⟨w.heap.size + 1 + 1 + 1, 0, none⟩) 4 4, .slice (some ⟨w.heap.size + 1 + 1 + 1 + 1, 0, none⟩) 2 2, .slice (some ⟨w.heap.size + 1 + 1 + 1 + 1 + 1, 0, none⟩) 3 3] 56 (0, 0)) := new_at _ _ (by simp)
  refine ⟨_, rfl, by omega, fun i hi => ?_⟩
  rw [Lib.cell_of_heap h6]
  match i, hi with
  | 0, _ => exact ⟨_, Nat.le_refl _, rfl, alloc_old _ (alloc_old _ (alloc_old _ (alloc_old _ (alloc_old _ (alloc_old _ (new_at w _ rfl) rfl) rfl) rfl) rfl) rfl) rfl⟩
  | 1, _ => exact ⟨_, by omega, rfl, alloc_old _ (alloc_old _ (alloc_old _ (alloc_old _ (alloc_old _ (new_at _ _ (by simp)) rfl) rfl) rfl) rfl) rfl⟩
  | 2, _ => exact ⟨_, by omega, rfl, alloc_old _ (alloc_old _ (alloc_old _ (alloc_old _ (new_at _ _ (by simp)) rfl) rfl) rfl) rfl⟩
  | 3, _ => exact ⟨_, by omega, rfl, alloc_old _ (alloc_old _ (alloc_old _ (new_at _ _ (by simp)) rfl) rfl) rfl⟩
  | 4, _ => exact ⟨_, by omega, rfl, alloc_old _ (alloc_old _ (new_at _ _ (by simp)) rfl) rfl⟩
  | 5, _ => exact ⟨_, by omega, rfl, alloc_old _ (new_at _ _ (by simp)) rfl⟩

set_option maxRecDepth 100000 in
set_option maxHeartbeats 2000000 in
theorem levels_any (w : World) : Calls Tryz.prog 261 #[] w fun e w' => ∃ v, e = .returned v ∧ LevelsAt w.heap.size v w' ∧ Below w.heap.size w w' := by
  go_enter Tryz.func261, Tryz.ntmps261
  go_wp2_with fail
  go_ret
  exact ⟨_, rfl, levelsAt_new w, ((((((((Below.refl _ _).alloc (Nat.le_refl _) _).alloc (by simp <;> omega) _).alloc (by simp <;> omega) _).alloc (by simp <;> omega) _).alloc (by simp <;> omega) _).alloc (by simp <;> omega) _).alloc (by simp <;> omega) _)⟩
end Go.Proofs.YtaadhehcoegmhaaGreatDoor
/- expr at a level of which there is no operator. -/
namespace Go.Proofs.YtaadhehcoegmhaaGreatDoor
open Go Go.RowKit

/-- What expr does at a level: it passes the tokens ts0 up to ts1 and tells ex. -/
def ExprAt (L : Nat) (B p : Nat) (ts0 ts1 : List Lx) (ex : Ex) : Prop :=
  ∀ w, Par B p ts0 w → Calls Tryz.prog 211 #[.pointer (some ⟨p, 0, none⟩), .int .i64 L] w fun e w' => ∃ op x k v A n cap, e = .returned (.agg #[.int .i64 op, .string (bs x), .int .i64 k, .int .i64 v, .int .i64 0, .int .i64 0, .slice A n cap]) ∧
    ExIs w.heap.size w' ex [.int .i64 op, .string (bs x), .int .i64 k, .int .i64 v, .int .i64 0, .int .i64 0, .slice A n cap] ∧ Par B p ts1 w' ∧ w.grownBy w' (some p)

set_option maxRecDepth 100000 in
set_option maxHeartbeats 4000000 in
theorem expr_six (B p : Nat) (t : Lx) (ts : List Lx) (op k v : Int) (x : List UInt8) (ex : Ex) (hex : ∀ lo w, ExIs lo w ex [.int .i64 op, .string (bs x), .int .i64 k, .int .i64 v, .int .i64 0, .int .i64 0, .slice none 0 0])
    (hneg : LeafAt 262 (.agg (leaf7 op x k v)) B p t ts) : ExprAt 6 B p (t :: ts) ts ex := by
  intro w h
  have hpw : p < w.heap.size := Nat.lt_of_lt_of_le h.lt h.le
  have hBw := h.le
  have hg0 := heap_alloc_new w (.cells zero155 155)
  have hb0 : Below w.heap.size w (w.alloc (.cells zero155 155)) := (Below.refl _ _).alloc (Nat.le_refl _) _
  have hP0 := Lib.hid (h.below hb0)
  have HPR := Lib.hid hneg
  have HEX := Lib.hid hex
  clear h hneg hex
  go_enter Tryz.func211, Tryz.ntmps211
  go_wp2_with fail
  refine Calls.mono (levels_any _) ?_
  rintro e w0 ⟨lv, rfl, hlv, hb00⟩
  dsimp only
  obtain ⟨g, rfl, hlo, hlr⟩ := hlv
  have hP00 := Lib.hid (hP0.out.below hb00)
  have hbw0 := below_then hb0 hb0.size hb00
  have hg00 := (hb00.block w.heap.size (by simp)).trans hg0
  have hs0 := hb00.size
  simp at hs0
  clear hlr
  go_wp2_with fail
  refine Calls.mono (HPR.out _ hP00.out) ?_
  rintro e w1 ⟨rfl, hP1, hgr1⟩
  dsimp only
  have hs1 := hgr1.size
  have hg1 := (hgr1.block w.heap.size (by omega) (by intro e; cases e; omega)).trans hg00
  have hgr : w.grownBy w1 (some p) := (grown_of_below hbw0 (some p)).trans hgr1
  have HG1 := Lib.hid hg1
  have HP1 := Lib.hid hP1
  have HGR := Lib.hid hgr
  clear hg1 hP1 hgr hgr1 hg00 hbw0 hb00 hg0 hb0
  go_wp2_with (refine wpList_store_row rfl 155 (.tmp 4) (.tmp 14) rfl w.heap.size (leaf7 op x k v) rfl rfl 155 _ HG1.out (by kernel_rfl) rfl (by simp [Value.oneCell']) ?_)
  exact bodyPost_ret (results_cell_row Tryz.results211 _ _ (w.heap.size) 155 _ (0, 0) _ rfl (setRow_heap _ _ _ _ 155 _ HG1.out) Tryz.underlying155 rfl (by kernel_rfl)) rfl ⟨op, x, k, v, none, 0, 0, rfl, HEX.out _ _, HP1.out.setRow hBw, grown_setRow HGR.out (Nat.le_refl _)⟩

set_option maxRecDepth 100000 in
set_option maxHeartbeats 8000000 in
theorem expr_pass (L B p : Nat) (ts0 ts1 : List Lx) (ex : Ex) (hL : L < 6) (hno : isLx ts1 8 (levelRow L) = false)
    (hsub : ExprAt (L + 1) B p ts0 ts1 ex) : ExprAt L B p ts0 ts1 ex := by
  intro w h
  have hpw : p < w.heap.size := Nat.lt_of_lt_of_le h.lt h.le
  have hBw := h.le
  have hg0 := heap_alloc_new w (.cells zero155 155)
  have hb0 : Below w.heap.size w (w.alloc (.cells zero155 155)) := (Below.refl _ _).alloc (Nat.le_refl _) _
  have hP0 := Lib.hid (h.below hb0)
  have HPR := Lib.hid hsub
  have HNO := Lib.hid hno
  have hL6 : ((L : Int) == 6) = false := by simp; omega
  have hLi : (L : Int) < 6 := by omega
  have hLp : (L : Int) + 1 = ((L + 1 : Nat) : Int) := by omega
  have HLP := Lib.hid hLp
  clear h hsub hno hLp
  go_enter Tryz.func211, Tryz.ntmps211
  go_wp2_with fail
  refine Calls.mono (levels_any _) ?_
  rintro e w0 ⟨lv, rfl, hlv, hb00⟩
  dsimp only
  have hlv0 := hlv
  obtain ⟨g, rfl, _, _⟩ := hlv0
  have hP00 := Lib.hid (hP0.out.below hb00)
  have hbw0 := below_then hb0 hb0.size hb00
  have hg00 := (hb00.block w.heap.size (by simp)).trans hg0
  have hs0 := hb00.size
  simp at hs0
  have HLV := Lib.hid hlv
  clear hlv
  go_wp2_with fail
  rw [HLP.out]
  refine Calls.mono (HPR.out _ hP00.out) ?_
  rintro e w1 ⟨op, x, k, v, A, n, cap, rfl, hex, hP1, hgr1⟩
  dsimp only
  obtain ⟨hp1, hp2, hp3⟩ := put_new w1 zero155 #[.int .i64 op, .string (bs x), .int .i64 k, .int .i64 v, .int .i64 0, .int .i64 0, .slice A n cap] 155
  have HGA := Lib.hid (heap_alloc_new w1 (.cells zero155 155))
  obtain ⟨W, hW⟩ : ∃ W, W = (w1.alloc (.cells zero155 155)).setRow w1.heap.size #[.int .i64 op, .string (bs x), .int .i64 k, .int .i64 v, .int .i64 0, .int .i64 0, .slice A n cap] := ⟨_, rfl⟩
  rw [← hW] at hp1 hp2 hp3
  have HW := Lib.hid hW
  have hs1 := hgr1.size
  have hg1 := (hgr1.block w.heap.size (by omega) (by intro e; cases e; omega)).trans hg00
  have hgW := (hp1.block _ (by omega)).trans hg1
  have hPW := Lib.hid (hP1.below hp1)
  have hexW := Lib.hid ((hex.below hp1).mono (lo' := w.heap.size + 1) (by omega))
  have hlW := (HLV.out.kept fun k h1 h2 => hgr1.block k h2 (by intro e; cases e; simp at h1; omega)).below hp1
  have hgrW : w.grownBy W (some p) := ((grown_of_below hbw0 (some p)).trans hgr1).trans (grown_of_below hp1 (some p))
  have HGW := Lib.hid hgW
  have HGR := Lib.hid hgrW
  have HQ := Lib.hid hp2
  obtain ⟨g', hgg, _, hlr⟩ := hlW
  obtain ⟨b, _, hcb, hrb⟩ := hlr L hL
  cases hgg
  have HRB := Lib.hid hrb
  obtain ⟨R, hR⟩ : ∃ R, R = (levelRow L).length := ⟨_, rfl⟩
  have hR4 : R ≤ 1000 := by
    have : L = 0 ∨ L = 1 ∨ L = 2 ∨ L = 3 ∨ L = 4 ∨ L = 5 := by omega
    rcases this with rfl | rfl | rfl | rfl | rfl | rfl <;> rw [hR] <;> decide
  rw [← hR] at hcb
  have HR := Lib.hid hR
  clear hp1 hp2 hW hg0 hb0 hgW hg1 hgrW hgr1 hP1 hb00 hbw0 hg00 hs0 hex hlr hrb hR
  go_wp2_with (refine wpList_store_row rfl 155 (.tmp 6) (.tmp 18) rfl w1.heap.size #[.int .i64 op, .string (bs x), .int .i64 k, .int .i64 v, .int .i64 0, .int .i64 0, .slice A n cap] rfl rfl 155 _ HGA.out (by kernel_rfl) rfl (by simp [Value.oneCell']) ?_; rw [← HW.out])
  dsimp only [Act.put]
  go_loopw [19] (fun _ wr => W = wr)
    (fun _ _ => 0)
  case atStart => rfl
  case round =>
    subst hrel
    go_wp2_with fail
    go_region_law (first
      | (go_simp; go_at_call 263; refine Calls.mono (is_any B p ts1 8 (levelRow L) b R _ (hPW.out.below (Below.refl _ _).drew) HRB.out HR.out hR4) ?_; rintro e w3 ⟨rfl, hbb3⟩))
    rw [HNO.out]
    have hbb := below_then ((Below.refl _ _).drew) (Nat.le_refl _) hbb3
    have hq3 := (hbb.block _ (Array.getElem?_eq_some_iff.1 HQ.out).1).trans HQ.out
    have hg3 := (hbb.block _ (Array.getElem?_eq_some_iff.1 HGW.out).1).trans HGW.out
    have hgr3 := HGR.out.trans (grown_of_below hbb (some p))
    have hP3 := hPW.out.below hbb
    have hex3 := hexW.out.below hbb
    have r0 : w3.cell? ⟨w1.heap.size, 0, none⟩ = some (.int .i64 op) := by rw [Lib.cell_of_heap hq3]; rfl
    have r1 : w3.cell? ⟨w1.heap.size, 1, none⟩ = some (.string (bs x)) := by rw [Lib.cell_of_heap hq3]; rfl
    have r2 : w3.cell? ⟨w1.heap.size, 2, none⟩ = some (.int .i64 k) := by rw [Lib.cell_of_heap hq3]; rfl
    have r3 : w3.cell? ⟨w1.heap.size, 3, none⟩ = some (.int .i64 v) := by rw [Lib.cell_of_heap hq3]; rfl
    have r4 : w3.cell? ⟨w1.heap.size, 4, none⟩ = some (.int .i64 0) := by rw [Lib.cell_of_heap hq3]; rfl
    have r5 : w3.cell? ⟨w1.heap.size, 5, none⟩ = some (.int .i64 0) := by rw [Lib.cell_of_heap hq3]; rfl
    have r6 : w3.cell? ⟨w1.heap.size, 6, none⟩ = some (.slice A n cap) := by rw [Lib.cell_of_heap hq3]; rfl
    have HG3 := Lib.hid hg3
    have HP3 := Lib.hid hP3
    have HGR3 := Lib.hid hgr3
    have HEX3 := Lib.hid hex3
    clear hbb hbb3 hq3 hg3 hgr3 hP3 hcb hex3
    go_wp2_with (refine wpList_store_row rfl 155 (.tmp 4) (.tmp 41) rfl w.heap.size #[.int .i64 op, .string (bs x), .int .i64 k, .int .i64 v, .int .i64 0, .int .i64 0, .slice A n cap] rfl rfl 155 _ HG3.out (by kernel_rfl) rfl (by simp [Value.oneCell']) ?_)
    exact bodyPost_ret (results_cell_row Tryz.results211 _ _ (w.heap.size) 155 _ (0, 0) _ rfl (setRow_heap _ _ _ _ 155 _ HG3.out) Tryz.underlying155 rfl (by kernel_rfl)) rfl ⟨op, x, k, v, A, n, cap, rfl, (HEX3.out.setRow (by omega)).mono (by omega), HP3.out.setRow hBw, grown_setRow HGR3.out (Nat.le_refl _)⟩
end Go.Proofs.YtaadhehcoegmhaaGreatDoor
/- whole: the deferred closure, and the walk. -/
namespace Go.Proofs.YtaadhehcoegmhaaGreatDoor
open Go Go.RowKit

set_option maxRecDepth 100000 in
theorem closure_idle (p q : Value) (w : World) :
    CallsD Tryz.prog 210 #[p, q] .returning w fun e u' w' => e = .returned (.tuple #[]) ∧ u' = .returning ∧ w' = w := by
  refine callsD_of_wpS Tryz.func210 rfl fun c₀ cs hu => ?_
  apply wpS_seq
  apply wpS_region
  simp [wpOpsS, go_sem, recoverD, hu, Tryz.ntmps210, Exit.thenS]
  refine wpS_of_wp ?_
  go_wp2_with fail
  cases c₀
  simp_all [bodyPostS, results, Tryz.results210]

/-- Seven cells stored as they were, and a truth set: nothing else turns. -/
theorem setCell_same {w : World} {b i : Nat} {cs : Array Value} {T : TypeId} {fr : Nat × Nat} {v : Value} (hb : w.heap[b]? = some (.cells cs T fr)) (hv : cs[i]? = some v) : (w.setCell ⟨b, i, none⟩ v).heap[b]? = some (.cells cs T fr) := by
  rw [setCell_row hb]
  congr 2
  apply Array.ext_getElem?
  intro j
  rw [Array.getElem?_setIfInBounds]
  split
  · rename_i h; subst h; split
    · exact hv.symm
    · rename_i h2; rw [Array.getElem?_eq_none (by omega)]
  · rfl
structure Same7 (q f : Nat) (row : Array Value) (W Y : World) : Prop where
  row_ : Y.heap[q]? = some (.cells row 155 (0, 0))
  flag : Y.heap[f]? = some (.cells #[.bool true] 4 (0, 0))
  rest : ∀ k, k ≠ q → k ≠ f → Y.heap[k]? = W.heap[k]?
  size : Y.heap.size = W.heap.size
  os : Y.os = W.os
  tape : Y.tape = W.tape
  output : Y.output = W.output
/-- Nothing but block q has turned; it still holds its row. -/
structure Stays (q : Nat) (row : Array Value) (W Y : World) : Prop where
  row_ : Y.heap[q]? = some (.cells row 155 (0, 0))
  rest : ∀ k, k ≠ q → Y.heap[k]? = W.heap[k]?
  size : Y.heap.size = W.heap.size
  os : Y.os = W.os
  tape : Y.tape = W.tape
  output : Y.output = W.output
theorem Stays.set {q i : Nat} {row : Array Value} {W Y : World} {v : Value} (h : Stays q row W Y) (hv : row[i]? = some v) : Stays q row W (Y.setCell ⟨q, i, none⟩ v) :=
  ⟨setCell_same h.row_ hv, fun k hk => (Below.heap_setCell Y ⟨q, i, none⟩ v k hk).trans (h.rest k hk), by have := h.size; simpa [World.setCell] using this, h.os, h.tape, h.output⟩
theorem Stays.flag {q f : Nat} {row : Array Value} {W Y : World} (h : Stays q row W Y) (hf : W.heap[f]? = some (.cells #[.bool false] 4 (0, 0))) (hne : q ≠ f) : Same7 q f row W ((Y.setCell ⟨f, 0, none⟩ (.bool true)).drew) :=
  ⟨(Below.heap_setCell Y ⟨f, 0, none⟩ _ _ hne).trans h.row_, setCell_row ((h.rest f (Ne.symm hne)).trans hf) _, fun k h1 h2 => (Below.heap_setCell Y ⟨f, 0, none⟩ _ _ h2).trans (h.rest k h1), by have := h.size; simpa [World.setCell] using this, h.os, h.tape, h.output⟩
theorem same7 (q f : Nat) (a b c d e g h : Value) (W : World) (hq : W.heap[q]? = some (.cells #[a, b, c, d, e, g, h] 155 (0, 0))) (hf : W.heap[f]? = some (.cells #[.bool false] 4 (0, 0))) (hne : q ≠ f) :
    Same7 q f #[a, b, c, d, e, g, h] W ((((((((W.setCell ⟨q, 0, none⟩ a).setCell ⟨q, 1, none⟩ b).setCell ⟨q, 2, none⟩ c).setCell ⟨q, 3, none⟩ d).setCell ⟨q, 4, none⟩ e).setCell ⟨q, 5, none⟩ g).setCell ⟨q, 6, none⟩ h).setCell ⟨f, 0, none⟩ (.bool true)).drew := by
  have k : Stays q #[a, b, c, d, e, g, h] W W := ⟨hq, fun _ _ => rfl, rfl, rfl, rfl, rfl⟩
  exact (((((((k.set (i := 0) rfl).set (i := 1) rfl).set (i := 2) rfl).set (i := 3) rfl).set (i := 4) rfl).set (i := 5) rfl).set (i := 6) rfl).flag hf hne

set_option maxRecDepth 100000 in
set_option maxHeartbeats 1000000 in
theorem whole_any (B p : Nat) (ts0 : List Lx) (ex : Ex) (hex : ExprAt 0 B p ts0 [] ex) (w : World) (h : Par B p ts0 w) :
    Calls Tryz.prog 158 #[.pointer (some ⟨p, 0, none⟩)] w fun e w' => ∃ op x k v A n cap, e = .returned (.tuple #[.agg #[.int .i64 op, .string (bs x), .int .i64 k, .int .i64 v, .int .i64 0, .int .i64 0, .slice A n cap], .bool true]) ∧
      ExIs w.heap.size w' ex [.int .i64 op, .string (bs x), .int .i64 k, .int .i64 v, .int .i64 0, .int .i64 0, .slice A n cap] ∧ Par B p [] w' ∧ w.grownBy w' (some p) := by
  have hmf : ∀ (fn : Fn) (first cap : Array Value) (w : World), (Instr.makeFunc fn first cap).run Tryz.prog w = .ok (.func fn first cap) w := fun _ _ _ _ => rfl
  have hpw : p < w.heap.size := Nat.lt_of_lt_of_le h.lt h.le
  have hBw := h.le
  have hg0 : ((w.alloc (.cells zero155 155)).alloc (.cells #[.bool false] 4)).heap[w.heap.size]? = some (.cells zero155 155 (0, 0)) := alloc_old _ (heap_alloc_new w _) rfl
  have hf0 : ((w.alloc (.cells zero155 155)).alloc (.cells #[.bool false] 4)).heap[w.heap.size + 1]? = some (.cells #[.bool false] 4 (0, 0)) := new_at _ _ (by simp)
  have hb0 : Below w.heap.size w ((w.alloc (.cells zero155 155)).alloc (.cells #[.bool false] 4)) := ((Below.refl _ _).alloc (Nat.le_refl _) _).alloc (by simp) _
  have hP0 := Lib.hid (h.below hb0)
  have HEX := Lib.hid hex
  clear h hex
  go_enter_defers Tryz.func158, Tryz.ntmps158
  go_wp2_with fail
  refine Calls.mono (HEX.out _ hP0.out) ?_
  rintro e w1 ⟨op, x, k, v, A, n, cap, rfl, he1, hP1, hgr1⟩
  dsimp only
  have hs1 := hgr1.size
  simp at hs1
  have hg1 := (hgr1.block w.heap.size (by simp <;> omega) (by intro e; cases e; omega)).trans hg0
  have hf1 := (hgr1.block (w.heap.size + 1) (by simp) (by intro e; cases e; omega)).trans hf0
  have HG1 := Lib.hid hg1
  have hgr : w.grownBy w1 (some p) := (grown_of_below hb0 (some p)).trans hgr1
  obtain ⟨W, hW⟩ : ∃ W, W = w1.setRow w.heap.size #[.int .i64 op, .string (bs x), .int .i64 k, .int .i64 v, .int .i64 0, .int .i64 0, .slice A n cap] := ⟨_, rfl⟩
  have HW := Lib.hid hW
  have hgW : W.heap[w.heap.size]? = some (.cells #[.int .i64 op, .string (bs x), .int .i64 k, .int .i64 v, .int .i64 0, .int .i64 0, .slice A n cap] 155 (0, 0)) := by rw [hW]; exact setRow_heap _ _ _ _ 155 _ hg1
  have hfW : W.heap[w.heap.size + 1]? = some (.cells #[.bool false] 4 (0, 0)) := by rw [hW, heap_setRow_ne _ _ _ _ (by omega)]; exact hf1
  have hPW : Par B p [] W := by rw [hW]; exact hP1.setRow hBw
  have heW : ExIs (w.heap.size + 2) W ex [.int .i64 op, .string (bs x), .int .i64 k, .int .i64 v, .int .i64 0, .int .i64 0, .slice A n cap] := by rw [hW]; exact ((he1.mono (lo' := w.heap.size + 2) (by simp))).setRow (by omega)
  have hgrW : w.grownBy W (some p) := by rw [hW]; exact grown_setRow hgr (Nat.le_refl _)
  have r0 : W.cell? ⟨w.heap.size, 0, none⟩ = some (.int .i64 op) := by rw [Lib.cell_of_heap hgW]; rfl
  have r1 : W.cell? ⟨w.heap.size, 1, none⟩ = some (.string (bs x)) := by rw [Lib.cell_of_heap hgW]; rfl
  have r2 : W.cell? ⟨w.heap.size, 2, none⟩ = some (.int .i64 k) := by rw [Lib.cell_of_heap hgW]; rfl
  have r3 : W.cell? ⟨w.heap.size, 3, none⟩ = some (.int .i64 v) := by rw [Lib.cell_of_heap hgW]; rfl
  have r4 : W.cell? ⟨w.heap.size, 4, none⟩ = some (.int .i64 0) := by rw [Lib.cell_of_heap hgW]; rfl
  have r5 : W.cell? ⟨w.heap.size, 5, none⟩ = some (.int .i64 0) := by rw [Lib.cell_of_heap hgW]; rfl
  have r6 : W.cell? ⟨w.heap.size, 6, none⟩ = some (.slice A n cap) := by rw [Lib.cell_of_heap hgW]; rfl
  have fz : ∀ i, W.frozen? ⟨w.heap.size, i, none⟩ = false := fun i => by simp [World.frozen?, hgW]
  have r7 : W.cell? ⟨w.heap.size + 1, 0, none⟩ = some (.bool false) := by rw [Lib.cell_of_heap hfW]; rfl
  have fz7 : W.frozen? ⟨w.heap.size + 1, 0, none⟩ = false := by simp [World.frozen?, hfW]
  have hPW0 := hPW
  obtain ⟨⟨lex, hrow, A', cap', rfl, _, _⟩, _, _⟩ := hPW0
  have rp : W.cell? ⟨p, 0, none⟩ = some (.slice A' 0 cap') := by rw [Lib.cell_of_heap hrow]; rfl
  have HFZ := Lib.hid fz
  have HGW := Lib.hid hgW
  have HFW := Lib.hid hfW
  have HPW := Lib.hid hPW
  have HEW := Lib.hid heW
  have HGRW := Lib.hid hgrW
  clear hW hg1 hf1 hg0 hf0 hb0 hgr1 hP1 he1 hgr hgW hfW hPW heW hgrW hrow fz
  go_wp2_with (refine wpList_store_row rfl 155 (.tmp 2) (.tmp 6) rfl w.heap.size #[.int .i64 op, .string (bs x), .int .i64 k, .int .i64 v, .int .i64 0, .int .i64 0, .slice A n cap] rfl rfl 155 _ HG1.out (by kernel_rfl) rfl (by simp [Value.oneCell']) ?_; rw [← HW.out])
  dsimp only [Act.put]
  have z0 := HFZ.out 0
  have z1 := HFZ.out 1
  have z2 := HFZ.out 2
  have z3 := HFZ.out 3
  have z4 := HFZ.out 4
  have z5 := HFZ.out 5
  have z6 := HFZ.out 6
  go_region
  have hY := same7 w.heap.size (w.heap.size + 1) _ _ _ _ _ _ _ W HGW.out HFW.out (by omega)
  generalize (World.drew _) = Y at hY ⊢
  have hsW := HGRW.out.size
  have hPY := HPW.out.kept (Nat.le_of_eq hY.size.symm) fun k' hk' => hY.rest k' (by omega) (by omega)
  have heY : ExIs w.heap.size Y ex [.int .i64 op, .string (bs x), .int .i64 k, .int .i64 v, .int .i64 0, .int .i64 0, .slice A n cap] := (HEW.out.kept fun k' h1 _ => hY.rest k' (by omega) (by omega)).mono (by omega)
  have hgY : w.grownBy Y (some p) :=
    ⟨hY.os.trans HGRW.out.os, hY.tape.trans HGRW.out.tape, hY.output.trans HGRW.out.output, by rw [hY.size]; exact hsW, fun k' hk' hne => (hY.rest k' (by omega) (by omega)).trans (HGRW.out.block k' hk' hne)⟩
  have hYg := hY.row_
  have hYf := hY.flag
  have s0 : Y.cell? ⟨w.heap.size, 0, none⟩ = some (.int .i64 op) := by rw [Lib.cell_of_heap hYg]; rfl
  have s1 : Y.cell? ⟨w.heap.size, 1, none⟩ = some (.string (bs x)) := by rw [Lib.cell_of_heap hYg]; rfl
  have s2 : Y.cell? ⟨w.heap.size, 2, none⟩ = some (.int .i64 k) := by rw [Lib.cell_of_heap hYg]; rfl
  have s3 : Y.cell? ⟨w.heap.size, 3, none⟩ = some (.int .i64 v) := by rw [Lib.cell_of_heap hYg]; rfl
  have s4 : Y.cell? ⟨w.heap.size, 4, none⟩ = some (.int .i64 0) := by rw [Lib.cell_of_heap hYg]; rfl
  have s5 : Y.cell? ⟨w.heap.size, 5, none⟩ = some (.int .i64 0) := by rw [Lib.cell_of_heap hYg]; rfl
  have s6 : Y.cell? ⟨w.heap.size, 6, none⟩ = some (.slice A n cap) := by rw [Lib.cell_of_heap hYg]; rfl
  have s7 : Y.cell? ⟨w.heap.size + 1, 0, none⟩ = some (.bool true) := by rw [Lib.cell_of_heap hYf]; rfl
  have HPY := Lib.hid hPY
  have HEY := Lib.hid heY
  have HGY := Lib.hid hgY
  clear hY hYg hYf hPY heY hgY r0 r1 r2 r3 r4 r5 r6 r7 rp z0 z1 z2 z3 z4 z5 z6 fz7
  go_wp2_with fail
  refine leaves_cons (f := 210) (args := #[.pointer (some ⟨w.heap.size, 0, none⟩), .pointer (some ⟨w.heap.size + 1, 0, none⟩)]) (by simp) (by simp [go_sem]) ?_
  refine (closure_idle _ _ _).mono ?_
  rintro e u' w'' ⟨rfl, rfl, rfl⟩
  simp [Leaves, settle, results, Tryz.results158, go_sem, s0, s1, s2, s3, s4, s5, s6, s7]
  exact ⟨op, x, k, v, A, n, cap, ⟨rfl, rfl, rfl, rfl, rfl, rfl, rfl⟩, HEY.out, HPY.out, HGY.out⟩
end Go.Proofs.YtaadhehcoegmhaaGreatDoor
/- deep and size of a leaf; a name of one letter. -/
namespace Go.Proofs.YtaadhehcoegmhaaGreatDoor
open Go Go.RowKit

set_option maxRecDepth 100000 in
set_option maxHeartbeats 1000000 in
theorem deep_leaf (op k v : Int) (x : List UInt8) (w : World) :
    Calls Tryz.prog 159 #[.agg (leaf7 op x k v)] w fun e w' => e = .returned (.int .i64 1) ∧ Below w.heap.size w w' := by
  go_enter Tryz.func159, Tryz.ntmps159
  go_wp2_with fail
  go_loopw [3, 9] (fun d i wr => d = .int .i64 0 ∧ i = .int .i64 0 ∧ Below w.heap.size w wr)
    (fun _ _ _ => 0)
  case atStart => exact ⟨rfl, rfl, (Below.refl _ _).alloc (Nat.le_refl _) _⟩
  case round =>
    obtain ⟨rfl, rfl, hbel⟩ := hrel
    go_wp2_with fail
    go_ret
    exact ⟨rfl, hbel⟩

set_option maxRecDepth 100000 in
set_option maxHeartbeats 1000000 in
theorem size_leaf (op k v m : Int) (x : List UInt8) (w : World) :
    Calls Tryz.prog 160 #[.agg (leaf7 op x k v), .int .i64 m] w fun e w' => e = .returned (.int .i64 1) ∧ Below w.heap.size w w' := by
  go_enter Tryz.func160, Tryz.ntmps160
  go_wp2_with fail
  go_loopw [5, 11] (fun d i wr => d = .int .i64 1 ∧ i = .int .i64 0 ∧ Below w.heap.size w wr)
    (fun _ _ _ => 0)
  case atStart => exact ⟨rfl, rfl, (Below.refl _ _).alloc (Nat.le_refl _) _⟩
  case round =>
    obtain ⟨rfl, rfl, hbel⟩ := hrel
    go_wp2_with fail
    go_ret
    exact ⟨rfl, hbel⟩

set_option maxRecDepth 100000 in
set_option maxHeartbeats 1000000 in
theorem valid_one (c : UInt8) (h1 : 97 ≤ c.toNat) (h2 : c.toNat ≤ 104) (w : World) :
    Calls Tryz.prog 362 #[.string (bs [c])] w fun e w' => e = .returned (.bool true) ∧ Below w.heap.size w w' := by
  have hz := bs_size [c]
  have hx : (bs [c]).extract 1 1 = bs [] := by rw [bs_mid]; rfl
  have hc : (c.toNat : Int) < 128 := by omega
  have hb0 : ∀ h : 0 < (bs [c]).size, ((bs [c])[0]'h) = c := fun _ => rfl
  go_enter Tryz.func362, Tryz.ntmps362
  go_wp2_with fail
  go_loopw [0] (fun v wr => (v = .string (bs [c]) ∨ v = .string (bs [])) ∧ Below w.heap.size w wr)
    (fun v _ => match v with | .string b => b.size | _ => 0)
  case atStart => exact ⟨.inl rfl, Below.refl _ _⟩
  case round =>
    obtain ⟨rfl | rfl, hbel⟩ := hrel
    · go_wp2_with fail
      go_roundw
      case rel => exact ⟨.inr rfl, hbel⟩
      case measure => simp [ByteArray.size]
    · have hz0 : (bs ([] : List UInt8)).size = 0 := rfl
      go_wp2_with fail
      go_ret
      exact ⟨rfl, hbel⟩

set_option maxRecDepth 100000 in
set_option maxHeartbeats 1000000 in
theorem isName_one (c : UInt8) (h1 : 97 ≤ c.toNat) (h2 : c.toNat ≤ 104) (w : World) :
    Calls Tryz.prog 337 #[.string (bs [c])] w fun e w' => e = .returned (.bool true) ∧ Below w.heap.size w w' := by
  have hne : ((bs [c]) == (⟨#[]⟩ : ByteArray)) = false := rfl
  have hz := bs_size [c]
  go_enter Tryz.func337, Tryz.ntmps337
  go_wp2_with fail
  refine Calls.mono (valid_one c h1 h2 w) ?_
  rintro e w1 ⟨rfl, hb1⟩
  dsimp only
  have hn0 := fun ty => next_at w1 [c] 0 c ty rfl (by omega)
  have hn1 := fun ty => run_next_end (P := Tryz.prog) w1 (bs [c]) 1 ty (by rw [bs_size]; simp)
  go_wp2_with fail
  go_loopw [3] (fun _ wr => ∃ i : Nat, i ≤ 1 ∧ wr = w1.iter (bs [c]) i)
    (fun _ wr => 1 - wr.iterPos w1.heap.size)
  case atStart => exact ⟨0, by omega, rfl⟩
  case round =>
    obtain ⟨i, hi, rfl⟩ := hrel
    obtain rfl | rfl : i = 0 ∨ i = 1 := by omega
    · go_wp2_with fail
      refine Calls.mono (begins_low c.toNat (by omega) (by omega) _) ?_
      rintro e w2 ⟨rfl, rfl⟩
      dsimp only
      go_wp2_with fail
      refine Calls.mono (goesOn_low c.toNat (by omega) (by omega) _) ?_
      rintro e w2 ⟨rfl, rfl⟩
      dsimp only
      go_wp2_with fail
      go_roundw
      case rel => exact ⟨1, by omega, rfl⟩
      case measure => simp [World.iterPos, World.iter_heap]
    · go_wp2_with fail
      go_ret
      exact ⟨rfl, below_then hb1 hb1.size ((Below.refl _ _).alloc (Nat.le_refl _) _)⟩

theorem low_mem (c : UInt8) (h1 : 97 ≤ c.toNat) (h2 : c.toNat ≤ 104) : c ∈ ([97, 98, 99, 100, 101, 102, 103, 104] : List UInt8) := by
  have hc : c = UInt8.ofNat c.toNat := (UInt8.ofNat_toNat).symm
  have : c.toNat = 97 ∨ c.toNat = 98 ∨ c.toNat = 99 ∨ c.toNat = 100 ∨ c.toNat = 101 ∨ c.toNat = 102 ∨ c.toNat = 103 ∨ c.toNat = 104 := by omega
  rcases this with h | h | h | h | h | h | h | h <;> (rw [h] at hc; subst hc; decide)
theorem cut_one (c : UInt8) (h : c ∈ ([97, 98, 99, 100, 101, 102, 103, 104] : List UInt8)) : Lib.cut [c] [58] = ([c], [], false) := by
  have hall : (([97, 98, 99, 100, 101, 102, 103, 104] : List UInt8).all fun c => Lib.cut [c] [58] == ([c], [], false)) = true := by kernel_rfl
  exact eq_of_beq (List.all_eq_true.1 hall c h)

set_option maxRecDepth 100000 in
set_option maxHeartbeats 1000000 in
theorem split_one (c : UInt8) (h1 : 97 ≤ c.toNat) (h2 : c.toNat ≤ 104) (w : World) (hE : Env w) :
    Calls Tryz.prog 313 #[.string (bs [c])] w fun e w' => e = .returned (.tuple #[.string (bs []), .string (bs [c]), .bool true]) ∧ Below w.heap.size w w' := by
  obtain ⟨m, hm⟩ := hE.max
  have hcut := cut_one c (low_mem c h1 h2)
  go_enter Tryz.func313, Tryz.ntmps313
  go_wp2_with fail
  refine Calls.mono (Tryz.strings_Cut (bs [c]) ⟨#[58]⟩ m w (by rw [bs_size]; simp) hm) ?_
  rintro e w1 ⟨rfl, n, rfl⟩
  dsimp only
  rw [show Lib.cut (bs [c]).data.toList [58] = ([c], [], false) from hcut]
  go_wp2_with fail
  refine Calls.mono (isName_one c h1 h2 _) ?_
  rintro e w2 ⟨rfl, hb2⟩
  dsimp only
  go_wp2_with fail
  go_ret3
  exact ⟨rfl, below_then (below_drewN (Below.refl _ _) n) (Nat.le_refl _) hb2⟩

set_option maxRecDepth 100000 in
set_option maxHeartbeats 1000000 in
theorem isQName_one (c : UInt8) (h1 : 97 ≤ c.toNat) (h2 : c.toNat ≤ 104) (w : World) (hE : Env w) :
    Calls Tryz.prog 271 #[.string (bs [c])] w fun e w' => e = .returned (.bool true) ∧ Below w.heap.size w w' := by
  go_enter Tryz.func271, Tryz.ntmps271
  go_wp2_with fail
  refine Calls.mono (split_one c h1 h2 w hE) ?_
  rintro e w1 ⟨rfl, hb1⟩
  dsimp only
  go_wp2_with fail
  go_ret
  exact ⟨rfl, hb1⟩
end Go.Proofs.YtaadhehcoegmhaaGreatDoor
/- right at a leaf; Parse at one variable. -/
namespace Go.Proofs.YtaadhehcoegmhaaGreatDoor
open Go Go.RowKit

set_option maxRecDepth 100000 in
set_option maxHeartbeats 2000000 in
theorem right_var (c : UInt8) (h1 : 97 ≤ c.toNat) (h2 : c.toNat ≤ 104) (w : World) (hE : Env w) :
    Calls Tryz.prog 212 #[.agg (leaf7 18 [c] 0 0)] w fun e w' => e = .returned (.bool true) ∧ Below w.heap.size w w' := by
  have hb : Below w.heap.size w (w.alloc (.cells (leaf7 18 [c] 0 0) 155)) := (Below.refl _ _).alloc (Nat.le_refl _) _
  go_enter Tryz.func212, Tryz.ntmps212
  go_wp2_with fail
  refine Calls.mono (isQName_one c h1 h2 _ (hE.below hb)) ?_
  rintro e w1 ⟨rfl, hb1⟩
  dsimp only
  go_wp2_with fail
  go_ret
  exact ⟨rfl, below_then hb hb.size hb1⟩

set_option maxRecDepth 100000 in
set_option maxHeartbeats 1000000 in
theorem numRight_any (v : Int) (h1 : 0 ≤ v) (h2 : v ≤ 1000000) (w : World) :
    Calls Tryz.prog 269 #[.agg #[.int .i64 0, .int .i64 v]] w fun e w' => e = .returned (.bool true) ∧ Below w.heap.size w w' := by
  have h3 : (-1000000000000000000 : Int) ≤ v := by omega
  have h4 : v ≤ 1000000000000000000 := by omega
  go_enter Tryz.func269, Tryz.ntmps269
  go_wp2_with fail
  go_ret
  exact ⟨rfl, (Below.refl _ _).alloc (Nat.le_refl _) _⟩

set_option maxRecDepth 100000 in
set_option maxHeartbeats 2000000 in
theorem right_num (v : Int) (h1 : 0 ≤ v) (h2 : v ≤ 1000000) (w : World) :
    Calls Tryz.prog 212 #[.agg (leaf7 16 [] 0 v)] w fun e w' => e = .returned (.bool true) ∧ Below w.heap.size w w' := by
  have hb : Below w.heap.size w (w.alloc (.cells (leaf7 16 [] 0 v) 155)) := (Below.refl _ _).alloc (Nat.le_refl _) _
  have hg := heap_alloc_new w (.cells (leaf7 16 [] 0 v) 155)
  go_enter Tryz.func212, Tryz.ntmps212
  go_wp2_with fail
  refine Calls.mono (numRight_any v h1 h2 _) ?_
  rintro e w1 ⟨rfl, hb1⟩
  dsimp only
  have hg1 := (hb1.block w.heap.size (by simp)).trans hg
  have r2 : w1.cell? ⟨w.heap.size, 2, none⟩ = some (.int .i64 0) := by rw [Lib.cell_of_heap hg1]; rfl
  have r3 : w1.cell? ⟨w.heap.size, 3, none⟩ = some (.int .i64 v) := by rw [Lib.cell_of_heap hg1]; rfl
  have hv : v ≥ 0 := h1
  have hbb := below_then hb hb.size hb1
  clear hg1 hg hb hb1
  go_wp2_with fail
  go_ret
  exact ⟨rfl, hbb⟩

theorem lexCells_at : ∀ (ts : List Lx) (i : Nat) (t : Lx), ts[i]? = some t → (lexCells ts)[3 * i]? = some (.int .i64 t.kind) ∧ (lexCells ts)[3 * i + 1]? = some (.string (bs t.text)) ∧ (lexCells ts)[3 * i + 2]? = some (.int .i64 t.at_)
  | [], i, t, h => by simp at h
  | u :: ts, 0, t, h => by
    simp at h
    subst h
    exact ⟨rfl, rfl, rfl⟩
  | u :: ts, i + 1, t, h => by
    have := lexCells_at ts i t (by simpa using h)
    have e : lexCells (u :: ts) = [.int .i64 u.kind, .string (bs u.text), .int .i64 u.at_] ++ lexCells ts := by simp [lexCells, Lx.cells]
    rw [e, show 3 * (i + 1) = 3 * i + 3 by omega]
    exact this

theorem lexIs_of_own {w : World} {B0 B : Nat} {lex : Value} {ts : List Lx} (h : w.ownsRow B0 347 3 lex ts.length (lexCells ts)) (hB : w.heap.size ≤ B) : LexIs B w lex ts := by
  have h0 := h
  rcases h.2 with ⟨rfl, h2⟩ | ⟨g, cap, cur, rfl, _, hg, hc, _⟩
  · have : ts = [] := List.eq_nil_of_length_eq_zero h2
    subst this
    exact ⟨none, 0, rfl, Nat.le_refl _, fun h => absurd rfl h⟩
  · refine ⟨_, cap, rfl, hc, fun _ => ⟨g, 0, rfl, Nat.lt_of_lt_of_le (Array.getElem?_eq_some_iff.1 hg).1 hB, fun i t ht => ?_⟩⟩
    obtain ⟨a, b, c⟩ := lexCells_at ts i t ht
    have ha := h0.cells (g := g) rfl _ _ a
    have hb := h0.cells (g := g) rfl _ _ b
    have hc := h0.cells (g := g) rfl _ _ c
    rw [addr_add] at ha hb hc
    exact ⟨ha, hb, by rw [← hc]; rfl⟩

/-- expr at a leaf, at each level. -/
theorem expr_leaf (B p : Nat) (t : Lx) (ts : List Lx) (op k v : Int) (x : List UInt8) (ex : Ex) (hts : Calm ts) (htk : t.kind ≠ 8) (hex : ∀ lo w, ExIs lo w ex [.int .i64 op, .string (bs x), .int .i64 k, .int .i64 v, .int .i64 0, .int .i64 0, .slice none 0 0])
    (hprim : LeafAt 330 (.tuple #[.agg (leaf7 op x k v), .bool true]) B p t ts) : ExprAt 5 B p (t :: ts) ts ex :=
  expr_pass 5 B p _ _ ex (by decide) (calm_not hts 8 _ (by decide) (by decide)) (expr_six B p t ts op k v x ex hex (negated_leaf B p t ts op k v x hts htk (path_leaf B p t ts op k v x hts hprim)))
theorem empty_not {k : Int} {qs : List (List UInt8)} (hk : k ≠ 0) : isLx [] k qs = false := by
  have : ((0 : Int) == k) = false := by simpa using fun e => hk e.symm
  simp [isLx, headLx, noLx, this]
theorem expr_alone (B p : Nat) (ts0 : List Lx) (ex : Ex) (h : ExprAt 5 B p ts0 [] ex) : ExprAt 0 B p ts0 [] ex := by
  have h4 := expr_pass 4 B p ts0 [] ex (by decide) (empty_not (by decide)) h
  have h3 := expr_pass 3 B p ts0 [] ex (by decide) (empty_not (by decide)) h4
  have h2 := expr_pass 2 B p ts0 [] ex (by decide) (empty_not (by decide)) h3
  have h1 := expr_pass 1 B p ts0 [] ex (by decide) (empty_not (by decide)) h2
  exact expr_pass 0 B p ts0 [] ex (by decide) (empty_not (by decide)) h1
end Go.Proofs.YtaadhehcoegmhaaGreatDoor
