/- This text proves a part of the laws of seat YtdeihieblljfcaaGreat, under no condition: F5c. -/
import Derived.Test.YtdeihieblljfcaaGreatLG
set_option linter.unusedVariables false
set_option linter.unusedSimpArgs false
/-! DiskOnce, of all inputs of some bulk. -/
namespace Go.V.YtdeihieblljfcaaGreat
open Go Go.V Go.ChangeShapes Go.WideShapes
open Go.Proofs.YtdeihieblljfcaaGreat.Rows (uptoBulk uptoBulkAll uptoSmall OpenSpec.upto diskOnceSpec diskOnceUptoRow DiskOnceUptoSaid)

set_option maxRecDepth 100000 in
theorem once_lifted (os : Os) (started : os.Started) (H : Type) (enc : TypeId × Value → H) (F0 : Stop.Interp) :
    ReturnsInHanded {} Go.Proofs.Tryz.checked os 4 .any ((OpenSpec.upto diskOnceSpec).pre6 enc Go.Proofs.Tryz.prog Go.Proofs.Tryz.f4 diskOnceUptoRow.domain false)
      (((OpenSpec.upto diskOnceSpec).at F0).post enc Go.Proofs.Tryz.prog Go.Proofs.Tryz.f4 false true false false) := by
  refine liftCS (C := Go.Proofs.Tryz.checked) (k := uptoSmall) rfl (tb := 4) ownK started (by kernel_rfl) Go.Proofs.Tryz.func4
    (OpenSpec.witness (enc := enc) (C := Go.Proofs.Tryz.checked) (s := OpenSpec.upto diskOnceSpec) (k := uptoSmall) rfl false ⟨#[], #[.int .i64 0, .slice none 0 0, .slice none 0 0, .slice none 0 0, .slice none 0 0], []⟩ 8 (by kernel_rfl) (by kernel_rfl) (by kernel_rfl)
      (x := ([.lit (.int .i64 0), .nil, .nil, .nil, .nil], [], [])) (by kernel_rfl) (by kernel_rfl) (by kernel_rfl))
    laidK rfl (by kernel_rfl) (by kernel_rfl) (by kernel_rfl) ?_ ?_
  · intro ds hds
    rw [Go.Proofs.Tryz.params4] at hds
    match ds, hds with
    | [d1, d2, d3, d4, d5], _ => rfl
  · intro W base args ds p hval hA hz hk _ hsh
    rw [Go.Proofs.Tryz.params4] at hA hval
    obtain ⟨v0, v1, v2, v3, v4, d0, d1, d2, d3, d4, p0, p1, p2, p3, p4, rfl, rfl, h0, h1, h2, h3, h4⟩ : ∃ v0 v1 v2 v3 v4 d0 d1 d2 d3 d4 p0 p1 p2 p3 p4, args = #[v0, v1, v2, v3, v4] ∧ ds = [d0, d1, d2, d3, d4] ∧ DataW.Trod enc Go.Proofs.Tryz.prog W 0 (fun _ => true) true 3 v0 d0 p0 ∧
        DataW.Trod enc Go.Proofs.Tryz.prog W 0 (fun _ => true) true 22 v1 d1 p1 ∧ DataW.Trod enc Go.Proofs.Tryz.prog W 0 (fun _ => true) true 23 v2 d2 p2 ∧ DataW.Trod enc Go.Proofs.Tryz.prog W 0 (fun _ => true) true 23 v3 d3 p3 ∧ DataW.Trod enc Go.Proofs.Tryz.prog W 0 (fun _ => true) true 23 v4 d4 p4 := by
      obtain ⟨u0, us0, d0, ds0, p0, q0, hv, rfl, _, h1, g0⟩ := trodAll_cons hA
      obtain ⟨u1, us1, d1, ds1, p1, q1, rfl, rfl, _, h2, g1⟩ := trodAll_cons g0
      obtain ⟨u2, us2, d2, ds2, p2, q2, rfl, rfl, _, h3, g2⟩ := trodAll_cons g1
      obtain ⟨u3, us3, d3, ds3, p3, q3, rfl, rfl, _, h4, g3⟩ := trodAll_cons g2
      obtain ⟨u4, us4, d4, ds4, p4, q4, rfl, rfl, _, h5, g4⟩ := trodAll_cons g3
      obtain ⟨rfl, rfl, _⟩ := trodAll_nil g4
      exact ⟨u0, u1, u2, u3, u4, d0, d1, d2, d3, d4, p0, p1, p2, p3, p4, Array.toList_inj.1 hv, rfl, h1, h2, h3, h4, h5⟩
    have hb := of_decide_eq_true hk
    simp only [uptoBulkAll] at hb
    obtain ⟨q, rfl, _, _⟩ := open_int Go.Proofs.Tryz.underlying3 (hval 0 3 v0 rfl rfl) h0
    obtain ⟨s1, l1, rfl, a1, o1, n1⟩ := acts_open (hval 1 22 v1 rfl rfl) h1 (by omega)
    obtain ⟨s2, l2, rfl, a2, n2, b2⟩ := ints_open (hval 2 23 v2 rfl rfl) h2 (by omega)
    obtain ⟨s3, l3, rfl, a3, n3, b3⟩ := ints_open (hval 3 23 v3 rfl rfl) h3 (by omega)
    obtain ⟨s4, l4, rfl, a4, n4, b4⟩ := ints_open (hval 4 23 v4 rfl rfl) h4 (by omega)
    exact Call.calls (args := [.lf (.int .i64 q), .lf (.slc s1), .lf (.slc s2), .lf (.slc s3), .lf (.slc s4)]) rfl (c4 (maxL_of hsh) a1 o1 (by omega) a2 a3 a4 b2 b3 b4 (by omega) (by omega) (by omega) fun h' e => ⟨rfl, e⟩)

theorem once_holds : DiskOnceUptoSaid :=
  OpenClaim.holds_of_cond 4 Go.Proofs.Tryz.f4 rfl rfl rfl rfl rfl rfl rfl ⟨rfl, rfl, rfl, rfl, rfl⟩ rfl rfl rfl rfl rfl (by kernel_rfl) Go.Proofs.Tryz.func4 (by kernel_rfl)
    (of_decide_eq_true (by kernel_rfl)) (by unfold Func.isWrapper; first | (rw [if_pos (by decide +kernel)]; kernel_rfl) | (rw [if_neg (by decide +kernel)]; exact ⟨rfl, rfl⟩))
    (fun os started H enc _ F0 => once_lifted os started H enc F0)

end Go.V.YtdeihieblljfcaaGreat
