/- This text proves a part of the laws of seat Yteojmnnobmpdiaa, under no condition: W5top. -/
import Derived.Test.YteojmnnobmpdiaaRows
import Derived.Test.YteojmnnobmpdiaaWD
import Derived.Test.YteojmnnobmpdiaaWG
import Derived.Test.YteojmnnobmpdiaaWJ
set_option linter.unusedVariables false
set_option linter.unusedSimpArgs false
/-! WalReads, of all inputs. -/
namespace Go.V.Yteojmnnobmpdiaa
open Go Go.V Go.ChangeShapes Go.WideShapes

theorem ownW : ownKnob Go.Proofs.Try.prog.godebug = none := by kernel_rfl
theorem laidW : laidOutB Go.Proofs.Try.prog = true := by kernel_rfl
theorem weightsW {H : Type} {W : World} {ts : List TypeId} {ds : List (DataW H)} (h : (DataW.weightsEach Go.Proofs.Try.prog ts ds).all (· ≤ reachBytes) = true) {j : Nat} {t : TypeId} {d : DataW H} (ht : ts[j]? = some t) (hd : ds[j]? = some d) : (d.weights Go.Proofs.Try.prog t).all (· ≤ reachBytes) = true := by
  rw [List.all_eq_true] at h ⊢
  exact fun n hn => h n (DataW.weights_mem_each ht hd n hn)

set_option maxRecDepth 100000 in
theorem kW : Go.Proofs.Try.prog.cellsOf 5 = 1 ∧ Go.Proofs.Try.prog.bytesOf 5 = 1 := ⟨by kernel_rfl, by kernel_rfl⟩

set_option maxRecDepth 100000 in
theorem walReads_lifted (os : Os) (started : os.Started) (H : Type) (enc : TypeId × Value → H) :
    ReturnsInHanded {} Go.Proofs.Try.checked os 7 .any (Go.Proofs.Yteojmnnobmpdiaa.Rows.walReadsSpec.pre6 enc Go.Proofs.Try.prog Go.Proofs.Try.f7 Go.Proofs.Yteojmnnobmpdiaa.Rows.walReadsRow.domain false)
      (Go.Proofs.Yteojmnnobmpdiaa.Rows.walReadsSpec.post enc Go.Proofs.Try.prog Go.Proofs.Try.f7 false true false false) := by
  refine lift (C := Go.Proofs.Try.checked) (tb := 4) ownW started (by kernel_rfl) Go.Proofs.Try.func7
    (ChangeSpec.witness6 (enc := enc) (C := Go.Proofs.Try.checked) false ⟨#[], #[.slice none 0 0, .int .u32 0], []⟩ 8 (by kernel_rfl) (by kernel_rfl) (by kernel_rfl) (by kernel_rfl))
    laidW rfl (by kernel_rfl) (by kernel_rfl) (by kernel_rfl) ?_ ?_
  · intro ds hds
    rw [Go.Proofs.Try.params7] at hds
    match ds, hds with
    | [d1, d2], _ => rfl
  · intro W base args ds p hval hA hz hwt _
    rw [Go.Proofs.Try.params7] at hA hval hwt
    obtain ⟨v0, v1, d0, d1, p0, p1, rfl, rfl, h0, h1⟩ : ∃ v0 v1 d0 d1 p0 p1, args = #[v0, v1] ∧ ds = [d0, d1] ∧ DataW.Trod enc Go.Proofs.Try.prog W 0 (fun _ => true) true 55 v0 d0 p0 ∧
        DataW.Trod enc Go.Proofs.Try.prog W 0 (fun _ => true) true 56 v1 d1 p1 := by
      obtain ⟨u0, us0, d0, ds0, p0, q0, hv, rfl, _, h1, g0⟩ := trodAll_cons hA
      obtain ⟨u1, us1, d1, ds1, p1, q1, rfl, rfl, _, h2, g1⟩ := trodAll_cons g0
      obtain ⟨rfl, rfl, _⟩ := trodAll_nil g1
      exact ⟨u0, u1, d0, d1, p0, p1, Array.toList_inj.1 hv, rfl, h1, h2⟩
    obtain ⟨s1, l1, rfl, a1, n1, b1⟩ := bytes_open Go.Proofs.Try.underlying55 Go.Proofs.Try.underlying5 kW.1 kW.2 (hval 0 55 v0 rfl rfl) h0 (weightsW (W := W) hwt (j := 0) rfl rfl)
    obtain ⟨n2, rfl, _⟩ := open_int Go.Proofs.Try.underlying56 (hval 1 56 v1 rfl rfl) h1
    exact Call.calls (args := [.lf (.slc s1), .lf (.int .u32 n2)]) rfl (c7 a1 n1 b1 fun h' e => ⟨rfl, e⟩)

theorem walReads_holds : Go.Proofs.Yteojmnnobmpdiaa.Rows.WalReadsSaid :=
  OpenClaim.holds_of_wide 7 Go.Proofs.Try.f7 rfl rfl rfl rfl rfl rfl rfl ⟨rfl, rfl, rfl, rfl, rfl⟩ rfl rfl rfl rfl rfl (by kernel_rfl) Go.Proofs.Try.func7 (by kernel_rfl)
    (of_decide_eq_true (by kernel_rfl)) (by unfold Func.isWrapper; first | (rw [if_pos (by decide +kernel)]; kernel_rfl) | (rw [if_neg (by decide +kernel)]; exact ⟨rfl, rfl⟩))
    (fun os started H enc _ => walReads_lifted os started H enc)

end Go.V.Yteojmnnobmpdiaa
