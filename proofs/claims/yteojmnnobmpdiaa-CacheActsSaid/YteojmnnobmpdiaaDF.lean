/- This text proves a part of the laws of seat Yteojmnnobmpdiaa, under no condition: D11top. -/
import Derived.Test.YteojmnnobmpdiaaRows
import Derived.Test.YteojmnnobmpdiaaCM
import Derived.Test.YteojmnnobmpdiaaDE
set_option linter.unusedVariables false
set_option linter.unusedSimpArgs false
/-! CacheActs, of all inputs. -/
namespace Go.V.Yteojmnnobmpdiaa
open Go Go.V Go.ChangeShapes Go.WideShapes

set_option maxRecDepth 100000 in
theorem acts_lifted (os : Os) (started : os.Started) (H : Type) (enc : TypeId × Value → H) :
    ReturnsInHanded {} Go.Proofs.Try.checked os 6 .any (Go.Proofs.Yteojmnnobmpdiaa.Rows.cacheActsSpec.pre6 enc Go.Proofs.Try.prog Go.Proofs.Try.f6 Go.Proofs.Yteojmnnobmpdiaa.Rows.cacheActsRow.domain false)
      (Go.Proofs.Yteojmnnobmpdiaa.Rows.cacheActsSpec.post enc Go.Proofs.Try.prog Go.Proofs.Try.f6 false true false false) := by
  refine lift (C := Go.Proofs.Try.checked) (tb := 4) own started (by kernel_rfl) Go.Proofs.Try.func6
    (ChangeSpec.witness6 (enc := enc) (C := Go.Proofs.Try.checked) false ⟨#[], #[.agg #[.int .i64 0, .int .u64 0, .bool false], .slice none 0 0], []⟩ 8 (by kernel_rfl) (by kernel_rfl) (by kernel_rfl) (by kernel_rfl))
    laidOut rfl (by kernel_rfl) (by kernel_rfl) (by kernel_rfl) ?_ ?_
  · intro ds hds
    rw [Go.Proofs.Try.params6] at hds
    match ds, hds with
    | [d1, d2], _ => rfl
  · intro W base args ds p hval hA hz hwt _
    rw [Go.Proofs.Try.params6] at hA hval hwt
    obtain ⟨v0, v1, d0, d1, p0, p1, rfl, rfl, rfl, h0, h1⟩ := trodAll_two hA
    obtain ⟨n, room, b, rfl, hn0, hn1, r0, r1⟩ := form_open h0 (open_agg Go.Proofs.Try.underlying24 (hval 0 24 v0 rfl rfl))
    obtain ⟨s1, l1, rfl, a1, o1, n1⟩ := acts_open (hval 1 25 v1 rfl rfl) h1 (weights3 (W := W) hwt (j := 1) rfl rfl)
    exact Call.calls rfl (c6 a1 r0 r1 hn0 hn1 n1 o1 fun h' e => ⟨rfl, e⟩)

theorem acts_holds : Go.Proofs.Yteojmnnobmpdiaa.Rows.CacheActsSaid :=
  OpenClaim.holds_of_wide 6 Go.Proofs.Try.f6 rfl rfl rfl rfl rfl rfl rfl ⟨rfl, rfl, rfl, rfl, rfl⟩ rfl rfl rfl rfl rfl (by kernel_rfl) Go.Proofs.Try.func6 (by kernel_rfl)
    (of_decide_eq_true (by kernel_rfl)) (by unfold Func.isWrapper; first | (rw [if_pos (by decide +kernel)]; kernel_rfl) | (rw [if_neg (by decide +kernel)]; exact ⟨rfl, rfl⟩))
    (fun os started H enc _ => acts_lifted os started H enc)

end Go.V.Yteojmnnobmpdiaa
