/- This text proves a part of the laws of seat Ytclffphegfhocaa, under no condition: B3w. -/
import Derived.Test.YtclffphegfhocaaRows
import Derived.Test.YtclffphegfhocaaED
import Derived.Test.YtclffphegfhocaaEE
import Derived.Test.YtclffphegfhocaaEL
set_option linter.unusedVariables false
set_option linter.unusedSimpArgs false
/-! BatchEncodes and BatchDecodes return true for every input. -/
namespace Go.V.Ytclffphegfhocaa
open Go Go.V Go.ChangeShapes Go.WideShapes

theorem ownE : ownKnob Go.Proofs.Try.prog.godebug = none := by kernel_rfl
theorem laidE : laidOutB Go.Proofs.Try.prog = true := by kernel_rfl
theorem weightsE {H : Type} {W : World} {ts : List TypeId} {ds : List (DataW H)} (h : (DataW.weightsEach Go.Proofs.Try.prog ts ds).all (· ≤ reachBytes) = true) {j : Nat} {t : TypeId} {d : DataW H} (ht : ts[j]? = some t) (hd : ds[j]? = some d) : (d.weights Go.Proofs.Try.prog t).all (· ≤ reachBytes) = true := by
  rw [List.all_eq_true] at h ⊢
  exact fun n hn => h n (DataW.weights_mem_each ht hd n hn)

set_option maxRecDepth 100000 in
theorem kE : Go.Proofs.Try.prog.cellsOf 5 = 1 ∧ Go.Proofs.Try.prog.bytesOf 5 = 1 ∧ Go.Proofs.Try.prog.bytesOf 31 = 48 ∧ Go.Proofs.Try.prog.cellsOf 31 = 4 := ⟨by kernel_rfl, by kernel_rfl, by kernel_rfl, by kernel_rfl⟩

set_option maxRecDepth 100000 in
theorem recB_open {H : Type} {enc : TypeId × Value → H} {W : World} {n : Nat} {cs : List Value} {y : DataW H × List MemPlace} (hl : cs.length = 4) (h : DataW.trod enc Go.Proofs.Try.prog W 0 (fun _ => true) true n 31 cs = some y) :
    ∃ r : Rec, cs = (Rec.lfs r).map Lf.val ∧ RecB r := by
  obtain ⟨y0, y1, y2, y3, m, _, _, h0, h1, h2, h3⟩ := Go.Joins.trod_struct4 Go.Proofs.Try.underlying31 h
  obtain ⟨c0, c1, c2, c3, rfl⟩ : ∃ c0 c1 c2 c3, cs = [c0, c1, c2, c3] := by
    match cs, hl with
    | [c0, c1, c2, c3], _ => exact ⟨c0, c1, c2, c3, rfl⟩
  have k29 : Go.Proofs.Try.prog.cellsOf 29 = 1 := by kernel_rfl
  have k3 : Go.Proofs.Try.prog.cellsOf 3 = 1 := by kernel_rfl
  have k9 : Go.Proofs.Try.prog.cellsOf 9 = 1 := by kernel_rfl
  simp only [k29, k3, k9] at h0 h1 h2 h3
  obtain ⟨fam, e0, _, w0⟩ := DataW.trod_int Go.Proofs.Try.underlying29 h0
  obtain ⟨kind, e1, _, w1⟩ := DataW.trod_int Go.Proofs.Try.underlying3 h1
  obtain ⟨key, e2, _, w2⟩ := DataW.trod_string Go.Proofs.Try.underlying9 h2
  obtain ⟨val, e3, _, w3⟩ := DataW.trod_string Go.Proofs.Try.underlying9 h3
  simp only [List.drop_succ_cons, List.drop_zero, List.take_succ_cons, List.take_zero, List.cons.injEq, and_true] at e0 e1 e2 e3
  subst e0 e1 e2 e3
  have w0' := wf_int w0
  have w1' := wf_int w1
  have hmax : maxLen = 9223372036854775807 := by decide
  exact ⟨⟨fam, kind, key, val⟩, rfl, ⟨w0'.1, w0'.2, w1'.1, w1'.2⟩, by show key.size ≤ _; omega, by show val.size ≤ _; omega⟩

set_option maxRecDepth 100000 in
theorem recsB_open {H : Type} {enc : TypeId × Value → H} {W : World} {base : Nat} {v : Value} {d : DataW H} {p : List MemPlace}
    (hval : Value.okWide Go.Proofs.Try.prog W .any base 22 v) (h : DataW.Trod enc Go.Proofs.Try.prog W 0 (fun _ => true) true 22 v d p) (hw : (d.weights Go.Proofs.Try.prog 22).all (· ≤ reachBytes) = true) :
    ∃ s l, v = (Lf.slc s).val ∧ Arr 4 Rec.lfs W.heap s l ∧ (∀ x ∈ l, RecB x) ∧ l.length ≤ 2932031007402 := by
  obtain ⟨s, l, rfl, h2, h3, _, h5⟩ := open_arrW Go.Proofs.Try.underlying22 kE.2.2.2 lfs_sized (fun n cs y hl hy => recB_open hl hy) hval h
  refine ⟨s, l, rfl, h2, h3, ?_⟩
  rcases h5 with rfl | ⟨k, hk⟩
  · simp
  · have := of_decide_eq_true (List.all_eq_true.1 hw _ hk)
    rw [kE.2.2.1] at this
    have hr : reachBytes = 140737488351232 := by decide
    omega

set_option maxRecDepth 100000 in
theorem encodes_lifted (os : Os) (started : os.Started) (H : Type) (enc : TypeId × Value → H) :
    ReturnsInHanded {} Go.Proofs.Try.checked os 5 .any (Go.Proofs.Ytclffphegfhocaa.Rows.batchEncodesSpec.pre6 enc Go.Proofs.Try.prog Go.Proofs.Try.f5 Go.Proofs.Ytclffphegfhocaa.Rows.batchEncodesRow.domain false)
      (Go.Proofs.Ytclffphegfhocaa.Rows.batchEncodesSpec.post enc Go.Proofs.Try.prog Go.Proofs.Try.f5 false true false false) := by
  refine lift (C := Go.Proofs.Try.checked) (tb := 4) ownE started (by kernel_rfl) Go.Proofs.Try.func5
    (ChangeSpec.witness6 (enc := enc) (C := Go.Proofs.Try.checked) false ⟨#[], #[.int .u64 0, .slice none 0 0], []⟩ 8 (by kernel_rfl) (by kernel_rfl) (by kernel_rfl) (by kernel_rfl))
    laidE rfl (by kernel_rfl) (by kernel_rfl) (by kernel_rfl) ?_ ?_
  · intro ds hds
    rw [Go.Proofs.Try.params5] at hds
    match ds, hds with
    | [d1, d2], _ => rfl
  · intro W base args ds p hval hA hz hwt _
    rw [Go.Proofs.Try.params5] at hA hval hwt
    obtain ⟨v0, v1, d0, d1, p0, p1, rfl, rfl, h0, h1⟩ : ∃ v0 v1 d0 d1 p0 p1, args = #[v0, v1] ∧ ds = [d0, d1] ∧ DataW.Trod enc Go.Proofs.Try.prog W 0 (fun _ => true) true 39 v0 d0 p0 ∧
        DataW.Trod enc Go.Proofs.Try.prog W 0 (fun _ => true) true 22 v1 d1 p1 := by
      obtain ⟨u0, us0, d0, ds0, p0, q0, hv, rfl, _, h1, g0⟩ := trodAll_cons hA
      obtain ⟨u1, us1, d1, ds1, p1, q1, rfl, rfl, _, h2, g1⟩ := trodAll_cons g0
      obtain ⟨rfl, rfl, _⟩ := trodAll_nil g1
      exact ⟨u0, u1, d0, d1, p0, p1, Array.toList_inj.1 hv, rfl, h1, h2⟩
    obtain ⟨n2, rfl, n2a, n2b⟩ := open_int Go.Proofs.Try.underlying39 (hval 0 39 v0 rfl rfl) h0
    obtain ⟨s1, l1, rfl, a1, n1, b1⟩ := recsB_open (hval 1 22 v1 rfl rfl) h1 (weightsE (W := W) hwt (j := 1) rfl rfl)
    have n2a : 0 ≤ n2 := n2a
    have n2b : n2 ≤ 18446744073709551615 := n2b
    obtain ⟨m, rfl⟩ := Int.eq_ofNat_of_zero_le n2a
    exact Call.calls (args := [.lf (.int .u64 m), .lf (.slc s1)]) rfl (c5 (by omega) a1 n1 b1 fun h' e => ⟨rfl, e⟩)

theorem encodes_holds : Go.Proofs.Ytclffphegfhocaa.Rows.BatchEncodesSaid :=
  OpenClaim.holds_of_wide 5 Go.Proofs.Try.f5 rfl rfl rfl rfl rfl rfl rfl ⟨rfl, rfl, rfl, rfl, rfl⟩ rfl rfl rfl rfl rfl (by kernel_rfl) Go.Proofs.Try.func5 (by kernel_rfl)
    (of_decide_eq_true (by kernel_rfl)) (by unfold Func.isWrapper; first | (rw [if_pos (by decide +kernel)]; kernel_rfl) | (rw [if_neg (by decide +kernel)]; exact ⟨rfl, rfl⟩))
    (fun os started H enc _ => encodes_lifted os started H enc)

set_option maxRecDepth 100000 in
theorem decodes_lifted (os : Os) (started : os.Started) (H : Type) (enc : TypeId × Value → H) :
    ReturnsInHanded {} Go.Proofs.Try.checked os 6 .any (Go.Proofs.Ytclffphegfhocaa.Rows.batchDecodesSpec.pre6 enc Go.Proofs.Try.prog Go.Proofs.Try.f6 Go.Proofs.Ytclffphegfhocaa.Rows.batchDecodesRow.domain false)
      (Go.Proofs.Ytclffphegfhocaa.Rows.batchDecodesSpec.post enc Go.Proofs.Try.prog Go.Proofs.Try.f6 false true false false) := by
  refine lift (C := Go.Proofs.Try.checked) (tb := 4) ownE started (by kernel_rfl) Go.Proofs.Try.func6
    (ChangeSpec.witness6 (enc := enc) (C := Go.Proofs.Try.checked) false ⟨#[], #[.slice none 0 0], []⟩ 8 (by kernel_rfl) (by kernel_rfl) (by kernel_rfl) (by kernel_rfl))
    laidE rfl (by kernel_rfl) (by kernel_rfl) (by kernel_rfl) ?_ ?_
  · intro ds hds
    rw [Go.Proofs.Try.params6] at hds
    match ds, hds with
    | [d1], _ => rfl
  · intro W base args ds p hval hA hz hwt _
    rw [Go.Proofs.Try.params6] at hA hval hwt
    obtain ⟨v0, d0, p0, rfl, rfl, h0⟩ : ∃ v0 d0 p0, args = #[v0] ∧ ds = [d0] ∧ DataW.Trod enc Go.Proofs.Try.prog W 0 (fun _ => true) true 40 v0 d0 p0 := by
      obtain ⟨u0, us0, d0, ds0, p0, q0, hv, rfl, _, h1, g0⟩ := trodAll_cons hA
      obtain ⟨rfl, rfl, _⟩ := trodAll_nil g0
      exact ⟨u0, d0, p0, Array.toList_inj.1 hv, rfl, h1⟩
    obtain ⟨s1, l1, rfl, a1, n1, b1⟩ := bytes_open Go.Proofs.Try.underlying40 Go.Proofs.Try.underlying5 kE.1 kE.2.1 (hval 0 40 v0 rfl rfl) h0 (weightsE (W := W) hwt (j := 0) rfl rfl)
    exact Call.calls (args := [.lf (.slc s1)]) rfl (c6 a1 n1 b1 fun h' e => ⟨rfl, e⟩)

theorem decodes_holds : Go.Proofs.Ytclffphegfhocaa.Rows.BatchDecodesSaid :=
  OpenClaim.holds_of_wide 6 Go.Proofs.Try.f6 rfl rfl rfl rfl rfl rfl rfl ⟨rfl, rfl, rfl, rfl, rfl⟩ rfl rfl rfl rfl rfl (by kernel_rfl) Go.Proofs.Try.func6 (by kernel_rfl)
    (of_decide_eq_true (by kernel_rfl)) (by unfold Func.isWrapper; first | (rw [if_pos (by decide +kernel)]; kernel_rfl) | (rw [if_neg (by decide +kernel)]; exact ⟨rfl, rfl⟩))
    (fun os started H enc _ => decodes_lifted os started H enc)

end Go.V.Ytclffphegfhocaa
