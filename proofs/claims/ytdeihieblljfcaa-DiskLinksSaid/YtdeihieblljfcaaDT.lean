/- This text proves a part of the laws of seat Ytdeihieblljfcaa, under no condition: D3g. -/
import Derived.Test.YtdeihieblljfcaaRows
import Derived.Test.YtdeihieblljfcaaDQ
import Derived.Test.YtdeihieblljfcaaDS
set_option linter.unusedVariables false
set_option linter.unusedSimpArgs false
/-! DiskLinks, of all inputs. -/
namespace Go.V.Ytdeihieblljfcaa
open Go Go.V Go.ChangeShapes Go.WideShapes

set_option maxRecDepth 100000 in
theorem links_lifted (os : Os) (started : os.Started) (H : Type) (enc : TypeId × Value → H) :
    ReturnsInHanded {} Go.Proofs.Try.checked os 4 .any (Go.Proofs.Ytdeihieblljfcaa.Rows.diskLinksSpec.pre6 enc Go.Proofs.Try.prog Go.Proofs.Try.f4 Go.Proofs.Ytdeihieblljfcaa.Rows.diskLinksRow.domain false)
      (Go.Proofs.Ytdeihieblljfcaa.Rows.diskLinksSpec.post enc Go.Proofs.Try.prog Go.Proofs.Try.f4 false true false false) := by
  refine liftS (C := Go.Proofs.Try.checked) (tb := 4) ownK started (by kernel_rfl) Go.Proofs.Try.func4
    (ChangeSpec.witness6 (enc := enc) (C := Go.Proofs.Try.checked) false ⟨#[], #[.slice none 0 0, .slice none 0 0, .int .u16 0], []⟩ 8 (by kernel_rfl) (by kernel_rfl) (by kernel_rfl) (by kernel_rfl))
    laidK rfl (by kernel_rfl) (by kernel_rfl) (by kernel_rfl) ?_ ?_
  · intro ds hds
    rw [Go.Proofs.Try.params4] at hds
    match ds, hds with
    | [d1, d2, d3], _ => rfl
  · intro W base args ds p hval hA hz hwt _ hsh
    rw [Go.Proofs.Try.params4] at hA hval hwt
    obtain ⟨v0, v1, v2, d0, d1, d2, p0, p1, p2, rfl, rfl, h0, h1, h2⟩ : ∃ v0 v1 v2 d0 d1 d2 p0 p1 p2, args = #[v0, v1, v2] ∧ ds = [d0, d1, d2] ∧ DataW.Trod enc Go.Proofs.Try.prog W 0 (fun _ => true) true 22 v0 d0 p0 ∧
        DataW.Trod enc Go.Proofs.Try.prog W 0 (fun _ => true) true 22 v1 d1 p1 ∧ DataW.Trod enc Go.Proofs.Try.prog W 0 (fun _ => true) true 37 v2 d2 p2 := by
      obtain ⟨u0, us0, d0, ds0, p0, q0, hv, rfl, _, h1, g0⟩ := trodAll_cons hA
      obtain ⟨u1, us1, d1, ds1, p1, q1, rfl, rfl, _, h2, g1⟩ := trodAll_cons g0
      obtain ⟨u2, us2, d2, ds2, p2, q2, rfl, rfl, _, h3, g2⟩ := trodAll_cons g1
      obtain ⟨rfl, rfl, _⟩ := trodAll_nil g2
      exact ⟨u0, u1, u2, d0, d1, d2, p0, p1, p2, Array.toList_inj.1 hv, rfl, h1, h2, h3⟩
    obtain ⟨s0, l0, rfl, a0, n0, b0⟩ := bytes_open Go.Proofs.Try.underlying22 Go.Proofs.Try.underlying5 kK.1 kK.2.1 (hval 0 22 v0 rfl rfl) h0 (weightsK (W := W) hwt (j := 0) rfl rfl)
    obtain ⟨s1, l1, rfl, a1, n1, b1⟩ := bytes_open Go.Proofs.Try.underlying22 Go.Proofs.Try.underlying5 kK.1 kK.2.1 (hval 1 22 v1 rfl rfl) h1 (weightsK (W := W) hwt (j := 1) rfl rfl)
    obtain ⟨n2, rfl, n2a, n2b⟩ := open_int Go.Proofs.Try.underlying37 (hval 2 37 v2 rfl rfl) h2
    have n2a : 0 ≤ n2 := n2a
    have n2b : n2 ≤ 65535 := n2b
    exact Call.calls (args := [.lf (.slc s0), .lf (.slc s1), .lf (.int .u16 n2)]) rfl
      (c4 (maxL_of hsh) a0.arr a1.arr a0.cap a1.cap b0 b1 n2a n2b fun h' e => ⟨rfl, e⟩)

theorem links_holds : Go.Proofs.Ytdeihieblljfcaa.Rows.DiskLinksSaid :=
  OpenClaim.holds_of_wide 4 Go.Proofs.Try.f4 rfl rfl rfl rfl rfl rfl rfl ⟨rfl, rfl, rfl, rfl, rfl⟩ rfl rfl rfl rfl rfl (by kernel_rfl) Go.Proofs.Try.func4 (by kernel_rfl)
    (of_decide_eq_true (by kernel_rfl)) (by unfold Func.isWrapper; first | (rw [if_pos (by decide +kernel)]; kernel_rfl) | (rw [if_neg (by decide +kernel)]; exact ⟨rfl, rfl⟩))
    (fun os started H enc _ => links_lifted os started H enc)

end Go.V.Ytdeihieblljfcaa
