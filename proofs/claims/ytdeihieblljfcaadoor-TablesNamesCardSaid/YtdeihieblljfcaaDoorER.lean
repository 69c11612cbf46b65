/- This text proves a part of the laws of seat YtdeihieblljfcaaDoor, under no condition: E2z2. -/
import Derived.Test.YtdeihieblljfcaaDoorCards
import Derived.Test.YtdeihieblljfcaaDoorTie
import Derived.Test.YtdeihieblljfcaaDoorEP
import Derived.Test.YtdeihieblljfcaaDoorEO
set_option linter.unusedVariables false
set_option linter.unusedSimpArgs false
/-! TablesNames returns true for every input. -/
namespace Go.V.YtdeihieblljfcaaDoor
open Go Go.V Go.ChangeShapes Go.WideShapes Go.Proofs

set_option maxRecDepth 100000 in
theorem lifted4 (os : Os) (started : os.Started) (H : Type) (enc : TypeId × Value → H) :
    ReturnsInHanded {} Tryd.checked os 4 .any (fun w args => (Go.Proofs.YtdeihieblljfcaaDoor.Rows.tablesNamesSpec.pre enc Tryd.prog Tryd.f4 Go.Proofs.YtdeihieblljfcaaDoor.Rows.tablesNamesRow.domain false w args ∧ laidMetH Tryd.prog Go.Proofs.YtdeihieblljfcaaDoor.Rows.tablesNamesRow.laid w) ∧ sizedMet enc Tryd.prog Tryd.f4 (OpenSpec.ofChange Go.Proofs.YtdeihieblljfcaaDoor.Rows.tablesNamesSpec) false w args)
      (Go.Proofs.YtdeihieblljfcaaDoor.Rows.tablesNamesSpec.post enc Tryd.prog Tryd.f4 false true false false) := by
  refine liftX (C := Tryd.checked) (tb := 4) (X := fun w _ => laidMetH Tryd.prog Go.Proofs.YtdeihieblljfcaaDoor.Rows.tablesNamesRow.laid w) (fun _ _ _ hh h => h.of_heap hh) ownD started (by kernel_rfl) Tryd.func4
    (ChangeSpec.witness_at (enc := enc) (C := Tryd.checked) (os := os) (X := fun w _ => laidMetH Tryd.prog Go.Proofs.YtdeihieblljfcaaDoor.Rows.tablesNamesRow.laid w) false (laidWorldD os) #[.int .u64 0, .string ⟨#[]⟩] 8 rfl (by kernel_rfl) (by kernel_rfl) (by kernel_rfl) (by kernel_rfl) (by kernel_rfl) (laidWorldD_met os _))
    laidD rfl (by kernel_rfl) (by kernel_rfl) (by kernel_rfl) ?_ ?_
  · intro ds hds
    rw [Tryd.params4] at hds
    match ds, hds with
    | [d1, d2], _ => rfl
  · intro W base args ds p hval hA hz hwt _ hX
    rw [Tryd.params4] at hA hval hwt
    obtain ⟨v0, v1, d0, d1, p0, p1, rfl, rfl, rfl, h0, h1⟩ := trodAll_two hA
    obtain ⟨n, rfl, hn0, hn1⟩ := open_int Tryd.underlying22 (hval 0 22 v0 rfl rfl) h0
    obtain ⟨s, rfl, rfl, rfl, hs⟩ := Go.ChangeMaps.open_string Tryd.underlying9 (hval 1 9 v1 rfl rfl) h1
    have hlen : s.data.toList.length ≤ reachBytes := sized_string hwt (j := 1) (t := 9) rfl rfl
    have hr := reachBytes_lt
    have e1 : IntKind.u64.min = 0 := rfl
    have e2 : IntKind.u64.max = 18446744073709551615 := rfl
    rw [e1] at hn0; rw [e2] at hn1
    obtain ⟨m, rfl⟩ : ∃ m : Nat, n = m := ⟨n.toNat, by omega⟩
    have hc := c4 (n := m) (by omega) (l := s.data.toList) (by omega) (door_of hX)
    rw [tx_eta] at hc
    exact Call.calls (args := [.lf (.int .u64 (m : Int)), .lf (.str s)]) rfl hc

theorem holds4 : Go.Proofs.YtdeihieblljfcaaDoor.Rows.TablesNamesSaid :=
  OpenClaim.holds_of_wide 4 Tryd.f4 rfl rfl rfl rfl rfl rfl rfl ⟨rfl, rfl, rfl, rfl, rfl⟩ rfl rfl rfl rfl rfl (by kernel_rfl) Tryd.func4 (by kernel_rfl)
    (of_decide_eq_true (by kernel_rfl)) (by unfold Func.isWrapper; first | (rw [if_pos (by decide +kernel)]; kernel_rfl) | (rw [if_neg (by decide +kernel)]; exact ⟨rfl, rfl⟩))
    (fun os started H enc _ => lifted4 os started H enc)

theorem card4 : Go.Proofs.YtdeihieblljfcaaDoor.Rows.TablesNamesCardSaid :=
  Claim7.holds_tied_plain_at .later [] [.data, .data, .data, .sentinel, .sentinel] true (true, "cceed584ace6a0f5c759400259b95fa2c568b81f2e4994a28554ffb4cc0ab4ee") true
    holds4 (fun _ h => by cases h) (by kernel_rfl) (fun _ h => by cases h) Go.Proofs.YtdeihieblljfcaaDoor.tablesNames_row_tie rfl ⟨rfl, rfl⟩ (by kernel_rfl) rfl
    (fun f fn hf hfn => by
      obtain rfl : f = 4 := Option.some.inj ((show Tryd.prog.funcNamed "sediment/sedimentlaw12.TablesNames" = some 4 by kernel_rfl).symm.trans hf) |>.symm
      obtain rfl : fn = Tryd.f4 := (Option.some.inj (Tryd.func4.symm.trans hfn)).symm
      exact ⟨by kernel_rfl, fun j t ht => by
        rw [Tryd.params4] at ht
        have h3 : t = 22 ∨ t = 9 := by
          rcases j with _ | _ | j
          · left; simpa using ht.symm
          · right; simpa using ht.symm
          · simp at ht
        rcases h3 with rfl | rfl
        · exact (show Tryd.prog.wantsStandIn 22 = false by kernel_rfl)
        · exact (show Tryd.prog.wantsStandIn 9 = false by kernel_rfl)⟩)
    (by kernel_rfl)

end Go.V.YtdeihieblljfcaaDoor
