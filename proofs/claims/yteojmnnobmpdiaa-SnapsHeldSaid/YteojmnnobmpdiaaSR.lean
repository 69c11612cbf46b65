/- This text proves a part of the laws of seat Yteojmnnobmpdiaa, under no condition: X22l. -/
import Derived.Test.YteojmnnobmpdiaaSQ
import Derived.Test.YteojmnnobmpdiaaSP
set_option linter.unusedVariables false
set_option linter.unusedSimpArgs false
/-! SnapsHeld, of all inputs. -/
namespace Go.V.Yteojmnnobmpdiaa
open Go Go.V Go.V.Snap Go.ChangeShapes Go.WideShapes

set_option maxRecDepth 100000 in
theorem snapsHeld_lifted (os : Os) (started : os.Started) (H : Type) (enc : TypeId × Value → H) :
    ReturnsInHanded {} Go.Proofs.Try.checked os 9 .any (Go.Proofs.Yteojmnnobmpdiaa.Rows.snapsHeldSpec.pre6 enc Go.Proofs.Try.prog Go.Proofs.Try.f9 Go.Proofs.Yteojmnnobmpdiaa.Rows.snapsHeldRow.domain false)
      (Go.Proofs.Yteojmnnobmpdiaa.Rows.snapsHeldSpec.post enc Go.Proofs.Try.prog Go.Proofs.Try.f9 false true false false) := by
  refine lift (C := Go.Proofs.Try.checked) (tb := 4) own22 started (by kernel_rfl) Go.Proofs.Try.func9
    (ChangeSpec.witness6 (enc := enc) (C := Go.Proofs.Try.checked) false ⟨#[], #[.slice none 0 0, .int .u64 0, .int .u64 0], []⟩ 8 (by kernel_rfl) (by kernel_rfl) (by kernel_rfl) (by kernel_rfl))
    laid22 rfl (by kernel_rfl) (by kernel_rfl) (by kernel_rfl) ?_ ?_
  · intro ds hds
    rw [Go.Proofs.Try.params9] at hds
    match ds, hds with
    | [d1, d2, d3], _ => rfl
  · intro W base args ds p hval hA hz hwt _
    rw [Go.Proofs.Try.params9] at hA hval hwt
    obtain ⟨v0, v1, v2, d0, d1, d2, p0, p1, p2, rfl, rfl, h0, h1, h2⟩ : ∃ v0 v1 v2 d0 d1 d2 p0 p1 p2, args = #[v0, v1, v2] ∧ ds = [d0, d1, d2] ∧ DataW.Trod enc Go.Proofs.Try.prog W 0 (fun _ => true) true 69 v0 d0 p0 ∧
        DataW.Trod enc Go.Proofs.Try.prog W 0 (fun _ => true) true 22 v1 d1 p1 ∧ DataW.Trod enc Go.Proofs.Try.prog W 0 (fun _ => true) true 22 v2 d2 p2 := by
      obtain ⟨u0, us0, d0, ds0, p0, q0, hv, rfl, _, h1, g0⟩ := trodAll_cons hA
      obtain ⟨u1, us1, d1, ds1, p1, q1, rfl, rfl, _, h2, g1⟩ := trodAll_cons g0
      obtain ⟨u2, us2, d2, ds2, p2, q2, rfl, rfl, _, h3, g2⟩ := trodAll_cons g1
      obtain ⟨rfl, rfl, _⟩ := trodAll_nil g2
      exact ⟨u0, u1, u2, d0, d1, d2, p0, p1, p2, Array.toList_inj.1 hv, rfl, h1, h2, h3⟩
    obtain ⟨s1, l1, rfl, a1, o1, n1⟩ := snaps_open (hval 0 69 v0 rfl rfl) h0 (weights22 (W := W) hwt (j := 0) rfl rfl)
    obtain ⟨n2, rfl, _⟩ := open_int Go.Proofs.Try.underlying22 (hval 1 22 v1 rfl rfl) h1
    obtain ⟨n3, rfl, _⟩ := open_int Go.Proofs.Try.underlying22 (hval 2 22 v2 rfl rfl) h2
    exact Call.calls (args := [.lf (.slc s1), .lf (.int .u64 n2), .lf (.int .u64 n3)]) rfl (c9 a1 n1 (fun x hx => (o1 x hx).1) fun h' e => ⟨rfl, e⟩)

theorem snapsHeld_holds : Go.Proofs.Yteojmnnobmpdiaa.Rows.SnapsHeldSaid :=
  OpenClaim.holds_of_wide 9 Go.Proofs.Try.f9 rfl rfl rfl rfl rfl rfl rfl ⟨rfl, rfl, rfl, rfl, rfl⟩ rfl rfl rfl rfl rfl (by kernel_rfl) Go.Proofs.Try.func9 (by kernel_rfl)
    (of_decide_eq_true (by kernel_rfl)) (by unfold Func.isWrapper; first | (rw [if_pos (by decide +kernel)]; kernel_rfl) | (rw [if_neg (by decide +kernel)]; exact ⟨rfl, rfl⟩))
    (fun os started H enc _ => snapsHeld_lifted os started H enc)

end Go.V.Yteojmnnobmpdiaa
