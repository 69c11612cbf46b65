/- This text proves a part of the laws of seat YtdeihieblljfcaaGreat, under no condition: F6i. -/
import Derived.Test.YtdeihieblljfcaaGreatQG
import Derived.Test.YtdeihieblljfcaaGreatQJ
set_option linter.unusedVariables false
set_option linter.unusedSimpArgs false
/-! DiskAll, of all inputs of some bulk. -/
namespace Go.V.YtdeihieblljfcaaGreat
open Go Go.V Go.ChangeShapes Go.WideShapes
open Go.Proofs.YtdeihieblljfcaaGreat.Rows (uptoBulk uptoBulkAll uptoSmall OpenSpec.upto diskAllSpec diskAllUptoRow DiskAllUptoSaid)

set_option maxRecDepth 100000 in
theorem all_lifted (os : Os) (started : os.Started) (H : Type) (enc : TypeId × Value → H) (F0 : Stop.Interp) :
    ReturnsInHanded {} Go.Proofs.Tryz.checked os 6 .any ((OpenSpec.upto diskAllSpec).pre6 enc Go.Proofs.Tryz.prog Go.Proofs.Tryz.f6 diskAllUptoRow.domain false)
      (((OpenSpec.upto diskAllSpec).at F0).post enc Go.Proofs.Tryz.prog Go.Proofs.Tryz.f6 false true false false) := by
  refine liftCS (C := Go.Proofs.Tryz.checked) (k := uptoSmall) rfl (tb := 4) ownK started (by kernel_rfl) Go.Proofs.Tryz.func6
    (OpenSpec.witness (enc := enc) (C := Go.Proofs.Tryz.checked) (s := OpenSpec.upto diskAllSpec) (k := uptoSmall) rfl false ⟨#[], #[.int .i64 0, .slice none 0 0], []⟩ 8 (by kernel_rfl) (by kernel_rfl) (by kernel_rfl)
      (x := ([.lit (.int .i64 0), .nil], [], [])) (by kernel_rfl) (by kernel_rfl) (by kernel_rfl))
    laidK rfl (by kernel_rfl) (by kernel_rfl) (by kernel_rfl) ?_ ?_
  · intro ds hds
    rw [Go.Proofs.Tryz.params6] at hds
    match ds, hds with
    | [d1, d2], _ => rfl
  · intro W base args ds p hval hA hz hk _ hsh
    rw [Go.Proofs.Tryz.params6] at hA hval
    obtain ⟨v0, v1, d0, d1, p0, p1, rfl, rfl, h0, h1⟩ : ∃ v0 v1 d0 d1 p0 p1, args = #[v0, v1] ∧ ds = [d0, d1] ∧ DataW.Trod enc Go.Proofs.Tryz.prog W 0 (fun _ => true) true 3 v0 d0 p0 ∧
        DataW.Trod enc Go.Proofs.Tryz.prog W 0 (fun _ => true) true 22 v1 d1 p1 := by
      obtain ⟨u0, us0, d0, ds0, p0, q0, hv, rfl, _, h1, g0⟩ := trodAll_cons hA
      obtain ⟨u1, us1, d1, ds1, p1, q1, rfl, rfl, _, h2, g1⟩ := trodAll_cons g0
      obtain ⟨rfl, rfl, _⟩ := trodAll_nil g1
      exact ⟨u0, u1, d0, d1, p0, p1, Array.toList_inj.1 hv, rfl, h1, h2⟩
    have hb := of_decide_eq_true hk
    simp only [uptoBulkAll] at hb
    obtain ⟨q, rfl, _, _⟩ := open_int Go.Proofs.Tryz.underlying3 (hval 0 3 v0 rfl rfl) h0
    obtain ⟨s1, l1, rfl, a1, o1, n1⟩ := acts_open (hval 1 22 v1 rfl rfl) h1 (by omega)
    exact Call.calls (args := [.lf (.int .i64 q), .lf (.slc s1)]) rfl (c6 (maxL_of hsh) a1 o1 (by omega) fun h' e => ⟨rfl, e⟩)

theorem all_holds : DiskAllUptoSaid :=
  OpenClaim.holds_of_cond 6 Go.Proofs.Tryz.f6 rfl rfl rfl rfl rfl rfl rfl ⟨rfl, rfl, rfl, rfl, rfl⟩ rfl rfl rfl rfl rfl (by kernel_rfl) Go.Proofs.Tryz.func6 (by kernel_rfl)
    (of_decide_eq_true (by kernel_rfl)) (by unfold Func.isWrapper; first | (rw [if_pos (by decide +kernel)]; kernel_rfl) | (rw [if_neg (by decide +kernel)]; exact ⟨rfl, rfl⟩))
    (fun os started H enc _ F0 => all_lifted os started H enc F0)

end Go.V.YtdeihieblljfcaaGreat
