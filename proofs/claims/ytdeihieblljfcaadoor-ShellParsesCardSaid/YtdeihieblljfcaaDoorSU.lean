/- This text proves a part of the laws of seat YtdeihieblljfcaaDoor, under no condition: S2z. -/
import Derived.Test.YtdeihieblljfcaaDoorCards
import Derived.Test.YtdeihieblljfcaaDoorTie
import Derived.Test.YtdeihieblljfcaaDoorSD
import Derived.Test.YtdeihieblljfcaaDoorST
import Derived.Test.YtdeihieblljfcaaDoorSS
import Derived.Shelf.Vars
set_option linter.unusedVariables false
set_option linter.unusedSimpArgs false
/-! ShellParses returns true for every input. -/
namespace Go.V.YtdeihieblljfcaaDoor
open Go Go.V Go.ChangeShapes Go.WideShapes Go.Proofs
abbrev Rs := Go.Proofs.YtdeihieblljfcaaDoor.Rows.shellParsesRow

def flatData : DataW Unit → List Value
  | .agg l => l.flatMap fun
    | .lit (.int k n) => [Value.int k n]
    | .agg m => m.flatMap fun
      | .lit (.int k n) => [Value.int k n]
      | _ => []
    | _ => []
  | _ => []
noncomputable def layAll7 (h : Heap) : Heap :=
  let h0 := (layAll h).modify 6 (layC (flatData Go.Proofs.YtdeihieblljfcaaDoor.Rows.laid_unicode_utf8_first).toArray)
  h0.modify 7 (layC (flatData Go.Proofs.YtdeihieblljfcaaDoor.Rows.laid_unicode_utf8_acceptRanges).toArray)
noncomputable def laidWorldS (os : Os) : World :=
  let w0 := World.holding Tryd.prog os ⟨#[.cells #[.string { data := #[105, 110, 118, 97, 108, 105, 100, 32, 115, 121, 110, 116, 97, 120] }] 108, .cells #[.string { data := #[118, 97, 108, 117, 101, 32, 111, 117, 116, 32, 111, 102, 32, 114, 97, 110, 103, 101] }] 108], #[], []⟩
  { w0 with heap := layAll7 w0.heap }
set_option maxRecDepth 100000 in
theorem laidWorldS_met (os : Os) (args : Array Value) : laidMetH Tryd.prog Rs.laid ((laidWorldS os).forCall (fun _ _ => 0) ⟨#[], args, []⟩).memory := by
  show laidMet Tryd.prog Rs.laid _
  exact laidMet_of_run' 8 (by kernel_rfl) (by kernel_rfl)

set_option maxRecDepth 100000 in
theorem maxL_of {W : World} (h : W.ShapedOpen Tryd.prog) : MaxL W.heap := by
  obtain ⟨m, hm⟩ := cell_of_shapedOpen_int (g := 3) (t := 3) (k := .i64) (zero := #[.int .i64 0]) h (of_decide_eq_true (by kernel_rfl)) (by kernel_rfl) rfl (by kernel_rfl) (by kernel_rfl) Tryd.underlying3
  unfold World.cell? at hm
  split at hm
  · rename_i c t fz hb
    exact ⟨c, t, fz, m, hb, by simpa using hm⟩
  · cases hm

set_option maxRecDepth 100000 in
theorem lifted5 (os : Os) (started : os.Started) (H : Type) (enc : TypeId × Value → H) :
    ReturnsInHanded {} Tryd.checked os 5 .any (fun w args => (Go.Proofs.YtdeihieblljfcaaDoor.Rows.shellParsesSpec.pre enc Tryd.prog Tryd.f5 Go.Proofs.YtdeihieblljfcaaDoor.Rows.shellParsesRow.domain false w args ∧ laidMetH Tryd.prog Go.Proofs.YtdeihieblljfcaaDoor.Rows.shellParsesRow.laid w) ∧ sizedMet enc Tryd.prog Tryd.f5 (OpenSpec.ofChange Go.Proofs.YtdeihieblljfcaaDoor.Rows.shellParsesSpec) false w args)
      (Go.Proofs.YtdeihieblljfcaaDoor.Rows.shellParsesSpec.post enc Tryd.prog Tryd.f5 false true false false) := by
  refine liftXS (C := Tryd.checked) (tb := 4) (X := fun w _ => laidMetH Tryd.prog Go.Proofs.YtdeihieblljfcaaDoor.Rows.shellParsesRow.laid w) (fun _ _ _ hh h => h.of_heap hh) ownD started (by kernel_rfl) Tryd.func5
    (ChangeSpec.witness_at (enc := enc) (C := Tryd.checked) (os := os) (X := fun w _ => laidMetH Tryd.prog Go.Proofs.YtdeihieblljfcaaDoor.Rows.shellParsesRow.laid w) false (laidWorldS os) #[.string ⟨#[]⟩] 8 rfl (by kernel_rfl) (by kernel_rfl) (by kernel_rfl) (by kernel_rfl) (by kernel_rfl) (laidWorldS_met os _))
    laidD rfl (by kernel_rfl) (by kernel_rfl) (by kernel_rfl) ?_ ?_
  · intro ds hds
    rw [Tryd.params5] at hds
    match ds, hds with
    | [d1], _ => rfl
  · intro W base args ds p hval hA hz hwt _ hX hsh
    rw [Tryd.params5] at hA hval hwt
    obtain ⟨v0, d0, rfl, rfl, h0⟩ := trodAll_one hA
    obtain ⟨s, rfl, rfl, rfl, hs⟩ := Go.ChangeMaps.open_string Tryd.underlying9 (hval 0 9 v0 rfl rfl) h0
    have hc := c5 (l := s.data.toList) (maxL_of hsh)
    rw [tx_eta] at hc
    exact Call.calls (args := [.lf (.str s)]) rfl hc

theorem holds5 : Go.Proofs.YtdeihieblljfcaaDoor.Rows.ShellParsesSaid :=
  OpenClaim.holds_of_wide 5 Tryd.f5 rfl rfl rfl rfl rfl rfl rfl ⟨rfl, rfl, rfl, rfl, rfl⟩ rfl rfl rfl rfl rfl (by kernel_rfl) Tryd.func5 (by kernel_rfl)
    (of_decide_eq_true (by kernel_rfl)) (by unfold Func.isWrapper; first | (rw [if_pos (by decide +kernel)]; kernel_rfl) | (rw [if_neg (by decide +kernel)]; exact ⟨rfl, rfl⟩))
    (fun os started H enc _ => lifted5 os started H enc)

theorem card5 : Go.Proofs.YtdeihieblljfcaaDoor.Rows.ShellParsesCardSaid :=
  Claim7.holds_tied_plain_at .later [] [.data, .data, .data, .data, .sentinel, .sentinel, .pinned] true (true, "cceed584ace6a0f5c759400259b95fa2c568b81f2e4994a28554ffb4cc0ab4ee") true
    holds5 (fun _ h => by cases h) (by kernel_rfl) (fun _ h => by cases h) Go.Proofs.YtdeihieblljfcaaDoor.shellParses_row_tie rfl ⟨rfl, rfl⟩ (by kernel_rfl) rfl
    (fun f fn hf hfn => by
      obtain rfl : f = 5 := Option.some.inj ((show Tryd.prog.funcNamed "sediment/sedimentlaw30.ShellParses" = some 5 by kernel_rfl).symm.trans hf) |>.symm
      obtain rfl : fn = Tryd.f5 := (Option.some.inj (Tryd.func5.symm.trans hfn)).symm
      exact ⟨by kernel_rfl, fun j t ht => by
        rw [Tryd.params5] at ht
        have h3 : t = 9 := by
          rcases j with _ | j
          · simpa using ht.symm
          · simp at ht
        subst h3
        exact (show Tryd.prog.wantsStandIn 9 = false by kernel_rfl)⟩)
    (by kernel_rfl)

end Go.V.YtdeihieblljfcaaDoor
