/- This text proves a part of the laws of seat YtdeihieblljfcaaDoor, under no condition: E2z. -/
import Derived.Test.YtdeihieblljfcaaDoorCards
import Derived.Test.YtdeihieblljfcaaDoorTie
import Derived.Test.YtdeihieblljfcaaDoorEP
import Derived.Test.YtdeihieblljfcaaDoorEN
set_option linter.unusedVariables false
set_option linter.unusedSimpArgs false
/-! ManifestNames returns true for every input. -/
namespace Go.V.YtdeihieblljfcaaDoor
open Go Go.V Go.ChangeShapes Go.WideShapes Go.Proofs

set_option maxRecDepth 100000 in
theorem lifted3 (os : Os) (started : os.Started) (H : Type) (enc : TypeId × Value → H) :
    ReturnsInHanded {} Tryd.checked os 3 .any (fun w args => (Go.Proofs.YtdeihieblljfcaaDoor.Rows.manifestNamesSpec.pre enc Tryd.prog Tryd.f3 Go.Proofs.YtdeihieblljfcaaDoor.Rows.manifestNamesRow.domain false w args ∧ laidMetH Tryd.prog Go.Proofs.YtdeihieblljfcaaDoor.Rows.manifestNamesRow.laid w) ∧ sizedMet enc Tryd.prog Tryd.f3 (OpenSpec.ofChange Go.Proofs.YtdeihieblljfcaaDoor.Rows.manifestNamesSpec) false w args)
      (Go.Proofs.YtdeihieblljfcaaDoor.Rows.manifestNamesSpec.post enc Tryd.prog Tryd.f3 false true false false) := by
  refine liftX (C := Tryd.checked) (tb := 4) (X := fun w _ => laidMetH Tryd.prog Go.Proofs.YtdeihieblljfcaaDoor.Rows.manifestNamesRow.laid w) (fun _ _ _ hh h => h.of_heap hh) ownD started (by kernel_rfl) Tryd.func3
    (ChangeSpec.witness_at (enc := enc) (C := Tryd.checked) (os := os) (X := fun w _ => laidMetH Tryd.prog Go.Proofs.YtdeihieblljfcaaDoor.Rows.manifestNamesRow.laid w) false (laidWorldD os) #[.int .u64 0, .string ⟨#[]⟩] 8 rfl (by kernel_rfl) (by kernel_rfl) (by kernel_rfl) (by kernel_rfl) (by kernel_rfl) (laidWorldD_met os _))
    laidD rfl (by kernel_rfl) (by kernel_rfl) (by kernel_rfl) ?_ ?_
  · intro ds hds
    rw [Tryd.params3] at hds
    match ds, hds with
    | [d1, d2], _ => rfl
  · intro W base args ds p hval hA hz hwt _ hX
    rw [Tryd.params3] at hA hval hwt
    obtain ⟨v0, v1, d0, d1, p0, p1, rfl, rfl, rfl, h0, h1⟩ := trodAll_two hA
    obtain ⟨n, rfl, hn0, hn1⟩ := open_int Tryd.underlying22 (hval 0 22 v0 rfl rfl) h0
    obtain ⟨s, rfl, rfl, rfl, hs⟩ := Go.ChangeMaps.open_string Tryd.underlying9 (hval 1 9 v1 rfl rfl) h1
    have hlen : s.data.toList.length ≤ reachBytes := sized_string hwt (j := 1) (t := 9) rfl rfl
    have hr := reachBytes_lt
    have e1 : IntKind.u64.min = 0 := rfl
    have e2 : IntKind.u64.max = 18446744073709551615 := rfl
    rw [e1] at hn0; rw [e2] at hn1
    obtain ⟨m, rfl⟩ : ∃ m : Nat, n = m := ⟨n.toNat, by omega⟩
    have hc := c3 (n := m) (by omega) (l := s.data.toList) (by omega) (door_of hX)
    rw [tx_eta] at hc
    exact Call.calls (args := [.lf (.int .u64 (m : Int)), .lf (.str s)]) rfl hc

theorem holds3 : Go.Proofs.YtdeihieblljfcaaDoor.Rows.ManifestNamesSaid :=
  OpenClaim.holds_of_wide 3 Tryd.f3 rfl rfl rfl rfl rfl rfl rfl ⟨rfl, rfl, rfl, rfl, rfl⟩ rfl rfl rfl rfl rfl (by kernel_rfl) Tryd.func3 (by kernel_rfl)
    (of_decide_eq_true (by kernel_rfl)) (by unfold Func.isWrapper; first | (rw [if_pos (by decide +kernel)]; kernel_rfl) | (rw [if_neg (by decide +kernel)]; exact ⟨rfl, rfl⟩))
    (fun os started H enc _ => lifted3 os started H enc)

theorem card3 : Go.Proofs.YtdeihieblljfcaaDoor.Rows.ManifestNamesCardSaid :=
  Claim7.holds_tied_plain_at .later [] [.data, .data, .data, .sentinel, .sentinel] true (true, "cceed584ace6a0f5c759400259b95fa2c568b81f2e4994a28554ffb4cc0ab4ee") true
    holds3 (fun _ h => by cases h) (by kernel_rfl) (fun _ h => by cases h) Go.Proofs.YtdeihieblljfcaaDoor.manifestNames_row_tie rfl ⟨rfl, rfl⟩ (by kernel_rfl) rfl
    (fun f fn hf hfn => by
      obtain rfl : f = 3 := Option.some.inj ((show Tryd.prog.funcNamed "sediment/sedimentlaw14.ManifestNames" = some 3 by kernel_rfl).symm.trans hf) |>.symm
      obtain rfl : fn = Tryd.f3 := (Option.some.inj (Tryd.func3.symm.trans hfn)).symm
      exact ⟨by kernel_rfl, fun j t ht => by
        rw [Tryd.params3] at ht
        have h3 : t = 22 ∨ t = 9 := by
          rcases j with _ | _ | j
          · left; simpa using ht.symm
          · right; simpa using ht.symm
          · simp at ht
        rcases h3 with rfl | rfl
        · exact (show Tryd.prog.wantsStandIn 22 = false by kernel_rfl)
        · exact (show Tryd.prog.wantsStandIn 9 = false by kernel_rfl)⟩)
    (by kernel_rfl)

end Go.V.YtdeihieblljfcaaDoor
