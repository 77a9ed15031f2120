/- XcodeOrders: the row's step. -/
import Derived.Test.YtaadhehcoegmhaaGreatDoorO9
import Derived.Test.YtaadhehcoegmhaaGreatDoorO11
import Derived.Test.YtaadhehcoegmhaaGreatDoorF6O
import Derived.ChangeSlices
namespace Go.Proofs.YtaadhehcoegmhaaGreatDoor
open Go Go.Shelf Go.ChangeShapes Go.WideShapes Go.ChangeAt Go.RowKit
open Go.ChangeMaps (open_string shut_string)
namespace Orders

set_option maxRecDepth 100000 in
theorem needs_of {H : Type} {enc : TypeId × Value → H} {W : World} {v : Value} {d : DataW H} {p : List MemPlace} {base : Nat} (hv : Value.okWide Tryz.prog W .any base 42 v) (h : DataW.Trod enc Tryz.prog W 0 (fun _ => true) true 42 v d p) :
    ∃ (A : Option Addr) (m cap n : Nat) (nd : Nat → Nat), v = .slice A m cap ∧ (m ≤ 8 ∧ n = m ∨ 8 < m ∧ n = 8) ∧ NeedsAt W A n nd := by
  obtain ⟨n, hn⟩ := h
  obtain ⟨a0, len0, cap0, rfl⟩ := okWide_slice Tryz.underlying42 hv
  have hcl : (Value.slice a0 len0 cap0).cells.toList = [.slice a0 len0 cap0] := rfl
  rw [hcl] at hn
  rcases Go.ChangeShapes.open_ints Tryz.underlying42 Tryz.underlying5 (by kernel_rfl) hn with ⟨h1, _⟩ | ⟨a, len, cap, zs, h1, _, hl, hm, hlen, hx, hc, hwf⟩
  · simp at h1
    obtain ⟨rfl, rfl, rfl⟩ := h1
    exact ⟨none, 0, 0, 0, fun _ => 0, rfl, .inl ⟨by omega, rfl⟩, fun i hi => by omega⟩
  · simp at h1
    obtain ⟨rfl, rfl, rfl⟩ := h1
    simp at hlen
    refine ⟨some a, len0, cap0, min 8 len0, fun i => (zs.getD i 0).toNat, rfl, by omega, fun i hi => ?_⟩
    have hi' : i < zs.length := by omega
    have hz : zs.getD i 0 ∈ zs := by simp [List.getD, hi']
    have hwz := hwf _ hz
    have hcell := hc i hi'
    show (zs.getD i 0).toNat < 256 ∧ ∃ b off, some a = some ⟨b, off, none⟩ ∧ W.cell? ⟨b, off + i, none⟩ = some (.int .u8 (((zs.getD i 0).toNat : Nat) : Int))
    generalize zs.getD i 0 = z at hwz hcell ⊢
    have hw : 0 ≤ z ∧ z ≤ 255 := by simpa [Lit.wf, IntKind.min, IntKind.max, IntKind.bits, IntKind.signed] using hwz
    obtain ⟨b, off, spot⟩ := a
    have hspot : spot = none := by simpa [Addr.add] using World.cell?_spot (hc 0 (by omega))
    subst hspot
    rw [addr_add] at hcell
    refine ⟨by omega, b, off, rfl, ?_⟩
    rw [hcell, Int.toNat_of_nonneg hw.1]

theorem fits42 : Tryz.prog.readableRec 42 = true ∧ 42 < Tryz.prog.types.size := ⟨by kernel_rfl, of_decide_eq_true (by kernel_rfl)⟩
theorem params_fit : ∀ t ∈ Tryz.f8.params.toList, Tryz.prog.readableRec t = true ∧ t < Tryz.prog.types.size := by
  intro t ht
  rw [Tryz.params8] at ht
  simp at ht
  subst ht
  exact fits42

set_option maxRecDepth 100000 in
theorem contract (H : Type) (enc : TypeId × Value → H) (W : World) (base : Nat) (args : Array Value) (ds gs : List (DataW H)) (before : List MemPlace)
    (hval : ∀ (j : Nat) t v, Tryz.f8.params[j]? = some t → args[j]? = some v → Value.okWide Tryz.checked.prog W .any base t v)
    (hW : DataW.Whole enc Tryz.prog Tryz.f8.params.toList Rows.xcodeOrdersSpec.vars false W args.toList ds gs before)
    (_hz : (DataW.weightsEach Tryz.prog (Tryz.f8.params.toList ++ Rows.xcodeOrdersSpec.plain.varTypes Tryz.prog) (ds ++ gs)).all (· ≤ reachBytes) = true)
    (hE : Env W) :
    Calls Tryz.prog 8 args W fun e W' => ∃ v, e = .returned v ∧ Rows.xcodeOrdersSpec.post enc Tryz.prog Tryz.f8 false true false false W args v W' := by
  rw [checked_prog] at hval
  have hW' := hW
  obtain ⟨p, q, hA0, hV, rfl, hfz, hnd⟩ := hW
  have hA : DataW.TrodAll enc Tryz.prog W 0 (fun _ => true) true Tryz.f8.params.toList args.toList ds p := hA0
  rw [Tryz.params8] at hA hval
  obtain ⟨v0, vs0, d0, ds0, p0, q0, hargs, rfl, rfl, h0, r0⟩ := trodAll_cons hA
  obtain ⟨rfl, rfl, rfl⟩ := trodAll_nil r0
  obtain rfl : args = #[v0] := by cases args; simp_all
  obtain ⟨rfl, rfl⟩ := trodVars_none hV
  obtain ⟨A, m, cap, n, nd, rfl, hn, hnd⟩ := needs_of (hval 0 42 v0 rfl rfl) h0
  clear hA0
  simp only [List.append_nil] at hW'
  refine (xcodeOrders_walk A m cap n nd W hE hn hnd).mono fun e W' ⟨he, hg⟩ => ?_
  subst he
  exact ⟨_, rfl, post_true hW' hg rfl params_fit (by kernel_rfl) rfl rfl rfl⟩

theorem reads (os : Os) {H : Type} (enc : TypeId × Value → H) : ∃ places, DataW.whole enc Tryz.prog ((laidWorld12 os).forCall (fun _ _ => 0) ⟨#[], #[.slice none 0 0], []⟩).memory Tryz.f8.params.toList Rows.xcodeOrdersSpec.vars false (#[Value.slice none 0 0] : Array Value).toList 8 = some ([.nil], [], places) :=
  ⟨[], by kernel_rfl⟩

theorem w_ok (os : Os) : Input.okWideB Tryz.checked.prog ((laidWorld12 os).forCall (fun _ _ => 0) ⟨#[], #[.slice none 0 0], []⟩) 8 ⟨#[], #[.slice none 0 0], []⟩ = true := by kernel_rfl

set_option maxRecDepth 100000 in
theorem w_pre (os : Os) {H : Type} (enc : TypeId × Value → H) : (OpenSpec.ofChange Rows.xcodeOrdersSpec).preRow enc Tryz.prog Tryz.f8 Rows.xcodeOrdersRow.domain false Rows.xcodeOrdersRow.laid ((laidWorld12 os).forCall (fun _ _ => 0) ⟨#[], #[.slice none 0 0], []⟩).memory #[.slice none 0 0] := by
  obtain ⟨places, hx⟩ := reads os enc
  exact OpenSpec.preRow_of_cond 8 hx (by kernel_rfl) (fun k hk => by cases hk) (by kernel_rfl) (laid_met12 os _)

set_option maxRecDepth 100000 in
theorem lifted (os : Os) (started : os.Started) (H : Type) (enc : TypeId × Value → H) (F : Stop.Interp) :
    ReturnsInHanded {} Tryz.checked os 8 .any ((OpenSpec.ofChange Rows.xcodeOrdersSpec).preRow enc Tryz.prog Tryz.f8 Rows.xcodeOrdersRow.domain false Rows.xcodeOrdersRow.laid) (((OpenSpec.ofChange Rows.xcodeOrdersSpec).at F).post enc Tryz.prog Tryz.f8 false true false false) := by
  refine returnsInHanded_of_row (C := Tryz.checked) (s := (OpenSpec.ofChange Rows.xcodeOrdersSpec)) own started (by kernel_rfl) Tryz.func8
    (witness_row_atRef (enc := enc) (C := Tryz.checked) false (laidWorld12 os) #[.slice none 0 0] rfl (w_vars12 os _) (w_rest12 os _) (w_ok os) (w_pre os enc)) ?_
  intro W base args ds gs before hval hW _ _ hz hL hsh _
  exact contract H enc W base args ds gs before hval hW hz (env_of_row12 hL hsh)

end Orders
end Go.Proofs.YtaadhehcoegmhaaGreatDoor
