/- This text proves a part of the laws of seat Ytclffphegfhocaa, under no condition: B3top. -/
import Derived.Test.YtclffphegfhocaaRows
import Derived.Test.YtclffphegfhocaaVTop
import Derived.Test.YtclffphegfhocaaB3h
set_option linter.unusedVariables false
set_option linter.unusedSimpArgs false
/-! BatchParts and BatchBack return true for every input. -/
namespace Go.V.Ytclffphegfhocaa
open Go Go.V Go.ChangeShapes Go.WideShapes

theorem own : ownKnob Go.Proofs.Try.prog.godebug = none := by kernel_rfl
theorem laidOut : laidOutB Go.Proofs.Try.prog = true := by kernel_rfl


set_option maxRecDepth 100000 in
theorem rec_open {H : Type} {enc : TypeId × Value → H} {W : World} {n : Nat} {cs : List Value} {y : DataW H × List MemPlace} (hl : cs.length = 4) (h : DataW.trod enc Go.Proofs.Try.prog W 0 (fun _ => true) true n 31 cs = some y) :
    ∃ r : Rec, cs = (Rec.lfs r).map Lf.val ∧ (r.Ok ∧ r.val.size ≤ 9223372036854775807) := by
  obtain ⟨y0, y1, y2, y3, m, _, _, h0, h1, h2, h3⟩ := Go.Joins.trod_struct4 Go.Proofs.Try.underlying31 h
  obtain ⟨c0, c1, c2, c3, rfl⟩ : ∃ c0 c1 c2 c3, cs = [c0, c1, c2, c3] := by
    match cs, hl with
    | [c0, c1, c2, c3], _ => exact ⟨c0, c1, c2, c3, rfl⟩
  have k29 : Go.Proofs.Try.prog.cellsOf 29 = 1 := by kernel_rfl
  have k3 : Go.Proofs.Try.prog.cellsOf 3 = 1 := by kernel_rfl
  have k9 : Go.Proofs.Try.prog.cellsOf 9 = 1 := by kernel_rfl
  simp only [k29, k3, k9] at h0 h1 h2 h3
  obtain ⟨fam, e0, _, w0⟩ := DataW.trod_int Go.Proofs.Try.underlying29 h0
  obtain ⟨kind, e1, _, w1⟩ := DataW.trod_int Go.Proofs.Try.underlying3 h1
  obtain ⟨key, e2, _, w2⟩ := DataW.trod_string Go.Proofs.Try.underlying9 h2
  obtain ⟨val, e3, _, w3⟩ := DataW.trod_string Go.Proofs.Try.underlying9 h3
  simp only [List.drop_succ_cons, List.drop_zero, List.take_succ_cons, List.take_zero, List.cons.injEq, and_true] at e0 e1 e2 e3
  subst e0 e1 e2 e3
  have w0' := wf_int w0
  have w1' := wf_int w1
  have hmax : maxLen = 9223372036854775807 := by decide
  exact ⟨⟨fam, kind, key, val⟩, rfl, ⟨w0'.1, w0'.2, w1'.1, w1'.2⟩, by show val.size ≤ _; omega⟩


set_option maxRecDepth 100000 in
theorem recs_open {H : Type} {enc : TypeId × Value → H} {W : World} {base : Nat} {v : Value} {d : DataW H} {p : List MemPlace}
    (hval : Value.okWide Go.Proofs.Try.prog W .any base 22 v) (h : DataW.Trod enc Go.Proofs.Try.prog W 0 (fun _ => true) true 22 v d p) :
    ∃ s l, v = (Lf.slc s).val ∧ Arr 4 Rec.lfs W.heap s l ∧ (∀ x ∈ l, x.Ok ∧ x.val.size ≤ 9223372036854775807) ∧ l.length ≤ 9223372036854775807 :=
  open_arr Go.Proofs.Try.underlying22 (by kernel_rfl) lfs_sized (fun n cs y hl hy => rec_open hl hy) hval h

set_option maxRecDepth 100000 in
theorem parts_lifted (os : Os) (started : os.Started) (H : Type) (enc : TypeId × Value → H) :
    ReturnsInHanded {} Go.Proofs.Try.checked os 3 .any (Go.Proofs.Ytclffphegfhocaa.Rows.batchPartsSpec.pre6 enc Go.Proofs.Try.prog Go.Proofs.Try.f3 Go.Proofs.Ytclffphegfhocaa.Rows.batchPartsRow.domain false)
      (Go.Proofs.Ytclffphegfhocaa.Rows.batchPartsSpec.post enc Go.Proofs.Try.prog Go.Proofs.Try.f3 false true false false) := by
  refine lift (C := Go.Proofs.Try.checked) (tb := 4) own started (by kernel_rfl) Go.Proofs.Try.func3
    (ChangeSpec.witness6 (enc := enc) (C := Go.Proofs.Try.checked) false ⟨#[], #[.slice none 0 0, .slice none 0 0], []⟩ 8 (by kernel_rfl) (by kernel_rfl) (by kernel_rfl) (by kernel_rfl))
    laidOut rfl (by kernel_rfl) (by kernel_rfl) (by kernel_rfl) ?_ ?_
  · intro ds hds
    rw [Go.Proofs.Try.params3] at hds
    match ds, hds with
    | [d1, d2], _ => rfl
  · intro W base args ds p hval hA hz hwt _
    rw [Go.Proofs.Try.params3] at hA hval
    obtain ⟨v0, v1, d0, d1, p0, p1, rfl, rfl, rfl, h0, h1⟩ := trodAll_two hA
    obtain ⟨s0, l0, rfl, a0, o0, n0⟩ := recs_open (hval 0 22 v0 rfl rfl) h0
    obtain ⟨s1, l1, rfl, a1, o1, n1⟩ := recs_open (hval 1 22 v1 rfl rfl) h1
    exact Call.calls rfl (c3 a0 a1 n0 n1 (fun r hr => (o0 r hr).1) (fun r hr => (o1 r hr).1) (fun r hr => (o1 r hr).2) fun h' e => ⟨rfl, e⟩)

theorem parts_holds : Go.Proofs.Ytclffphegfhocaa.Rows.BatchPartsSaid :=
  OpenClaim.holds_of_wide 3 Go.Proofs.Try.f3 rfl rfl rfl rfl rfl rfl rfl ⟨rfl, rfl, rfl, rfl, rfl⟩ rfl rfl rfl rfl rfl (by kernel_rfl) Go.Proofs.Try.func3 (by kernel_rfl)
    (of_decide_eq_true (by kernel_rfl)) (by unfold Func.isWrapper; first | (rw [if_pos (by decide +kernel)]; kernel_rfl) | (rw [if_neg (by decide +kernel)]; exact ⟨rfl, rfl⟩))
    (fun os started H enc _ => parts_lifted os started H enc)

set_option maxRecDepth 100000 in
theorem back_lifted (os : Os) (started : os.Started) (H : Type) (enc : TypeId × Value → H) :
    ReturnsInHanded {} Go.Proofs.Try.checked os 4 .any (Go.Proofs.Ytclffphegfhocaa.Rows.batchBackSpec.pre6 enc Go.Proofs.Try.prog Go.Proofs.Try.f4 Go.Proofs.Ytclffphegfhocaa.Rows.batchBackRow.domain false)
      (Go.Proofs.Ytclffphegfhocaa.Rows.batchBackSpec.post enc Go.Proofs.Try.prog Go.Proofs.Try.f4 false true false false) := by
  refine lift (C := Go.Proofs.Try.checked) (tb := 4) own started (by kernel_rfl) Go.Proofs.Try.func4
    (ChangeSpec.witness6 (enc := enc) (C := Go.Proofs.Try.checked) false ⟨#[], #[.slice none 0 0, .slice none 0 0], []⟩ 8 (by kernel_rfl) (by kernel_rfl) (by kernel_rfl) (by kernel_rfl))
    laidOut rfl (by kernel_rfl) (by kernel_rfl) (by kernel_rfl) ?_ ?_
  · intro ds hds
    rw [Go.Proofs.Try.params4] at hds
    match ds, hds with
    | [d1, d2], _ => rfl
  · intro W base args ds p hval hA hz hwt _
    rw [Go.Proofs.Try.params4] at hA hval
    obtain ⟨v0, v1, d0, d1, p0, p1, rfl, rfl, rfl, h0, h1⟩ := trodAll_two hA
    obtain ⟨s0, l0, rfl, a0, o0, n0⟩ := recs_open (hval 0 22 v0 rfl rfl) h0
    obtain ⟨s1, l1, rfl, a1, o1, n1⟩ := recs_open (hval 1 22 v1 rfl rfl) h1
    exact Call.calls rfl (c4 a0 a1 n0 n1 (fun r hr => (o0 r hr).1) (fun r hr => (o1 r hr).1) fun h' e => ⟨rfl, e⟩)

theorem back_holds : Go.Proofs.Ytclffphegfhocaa.Rows.BatchBackSaid :=
  OpenClaim.holds_of_wide 4 Go.Proofs.Try.f4 rfl rfl rfl rfl rfl rfl rfl ⟨rfl, rfl, rfl, rfl, rfl⟩ rfl rfl rfl rfl rfl (by kernel_rfl) Go.Proofs.Try.func4 (by kernel_rfl)
    (of_decide_eq_true (by kernel_rfl)) (by unfold Func.isWrapper; first | (rw [if_pos (by decide +kernel)]; kernel_rfl) | (rw [if_neg (by decide +kernel)]; exact ⟨rfl, rfl⟩))
    (fun os started H enc _ => back_lifted os started H enc)

end Go.V.Ytclffphegfhocaa
