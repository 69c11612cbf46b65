/- This text proves a part of the laws of seat Yteojmnnobmpdiaa, under no condition: X22acts. -/
import Derived.Test.YteojmnnobmpdiaaRows
import Derived.Test.YteojmnnobmpdiaaSD
import Derived.Test.YteojmnnobmpdiaaSM
set_option linter.unusedVariables false
set_option linter.unusedSimpArgs false
/-! The statements about snaps, of all inputs: the acts. -/
namespace Go.V.Yteojmnnobmpdiaa
open Go Go.V Go.V.Snap Go.ChangeShapes Go.WideShapes

theorem own22 : ownKnob Go.Proofs.Try.prog.godebug = none := by kernel_rfl
theorem laid22 : laidOutB Go.Proofs.Try.prog = true := by kernel_rfl

theorem weights22 {H : Type} {W : World} {ts : List TypeId} {ds : List (DataW H)} (h : (DataW.weightsEach Go.Proofs.Try.prog ts ds).all (· ≤ reachBytes) = true) {j : Nat} {t : TypeId} {d : DataW H} (ht : ts[j]? = some t) (hd : ds[j]? = some d) : (d.weights Go.Proofs.Try.prog t).all (· ≤ reachBytes) = true := by
  rw [List.all_eq_true] at h ⊢
  exact fun n hn => h n (DataW.weights_mem_each ht hd n hn)

section
variable {H : Type} {enc : TypeId × Value → H} {W : World}

set_option maxRecDepth 100000 in
theorem k22 : Go.Proofs.Try.prog.cellsOf 3 = 1 ∧ Go.Proofs.Try.prog.cellsOf 77 = 1 ∧ Go.Proofs.Try.prog.cellsOf 22 = 1 := ⟨by kernel_rfl, by kernel_rfl, by kernel_rfl⟩

theorem trod_struct4 {P : Program} {w : World} {base : Nat} {spare : Nat → Bool} {held : Bool} {t : TypeId} {f0 f1 f2 f3 : Field} {fuel : Nat} {cs : List Value} {x : DataW H × List MemPlace} (ht : P.underlying t = some (.struct #[f0, f1, f2, f3])) (h : DataW.trod enc P w base spare held fuel t cs = some x) :
    ∃ y0 y1 y2 y3 n, DataW.trod enc P w base spare held n f0.type ((cs.drop f0.offset).take (P.cellsOf f0.type)) = some y0 ∧
      DataW.trod enc P w base spare held n f1.type ((cs.drop f1.offset).take (P.cellsOf f1.type)) = some y1 ∧ DataW.trod enc P w base spare held n f2.type ((cs.drop f2.offset).take (P.cellsOf f2.type)) = some y2 ∧
      DataW.trod enc P w base spare held n f3.type ((cs.drop f3.offset).take (P.cellsOf f3.type)) = some y3 := by
  obtain ⟨xs, n, _, rfl, hl, hlen, hf⟩ := DataW.trod_struct ht h
  match xs, hlen with
  | [y0, y1, y2, y3], _ => exact ⟨y0, y1, y2, y3, n, by simpa using hf 0 f0 rfl, by simpa using hf 1 f1 rfl, by simpa using hf 2 f2 rfl, by simpa using hf 3 f3 rfl⟩

theorem u64_open {n : Nat} {cs : List Value} {y : DataW H × List MemPlace} (hl : cs.length = 1) (h : DataW.trod enc Go.Proofs.Try.prog W 0 (fun _ => true) true n 22 cs = some y) : ∃ x : Int, cs = (uF x).map Lf.val ∧ (0 ≤ x ∧ x ≤ 18446744073709551615) := by
  obtain ⟨x, e, _, w⟩ := DataW.trod_int Go.Proofs.Try.underlying22 h
  have := wf_int w
  exact ⟨x, e, this.1, this.2⟩

set_option maxRecDepth 100000 in
theorem snap_open {n : Nat} {cs : List Value} {y : DataW H × List MemPlace} (hl : cs.length = 4) (h : DataW.trod enc Go.Proofs.Try.prog W 0 (fun _ => true) true n 79 cs = some y) :
    ∃ r : SAct, cs = (aF r).map Lf.val ∧ (r.hand ≤ 9223372036854775807 ∧ 0 ≤ r.seq) ∧ ∃ L : List Int, Arr 1 uF W.heap r.files L ∧ (∀ x ∈ L, 0 ≤ x ∧ x ≤ 18446744073709551615) ∧ L.length ≤ 9223372036854775807 := by
  obtain ⟨y0, y1, y2, y3, m, h0, h1, h2, h3⟩ := trod_struct4 Go.Proofs.Try.underlying79 h
  obtain ⟨c0, c1, c2, c3, rfl⟩ : ∃ c0 c1 c2 c3, cs = [c0, c1, c2, c3] := by
    match cs, hl with
    | [c0, c1, c2, c3], _ => exact ⟨c0, c1, c2, c3, rfl⟩
  simp only [k22.1, k22.2.1, k22.2.2] at h0 h1 h2 h3
  obtain ⟨x0, e0, _, w0⟩ := DataW.trod_int Go.Proofs.Try.underlying3 h0
  obtain ⟨x1, e1, _, w1⟩ := DataW.trod_int Go.Proofs.Try.underlying3 h1
  obtain ⟨x2, e2, _, w2⟩ := DataW.trod_int Go.Proofs.Try.underlying22 h2
  simp only [List.drop_succ_cons, List.drop_zero, List.take_succ_cons, List.take_zero, List.cons.injEq, and_true] at e0 e1 e2 h3
  obtain ⟨s, L, rfl, a, q, ln, _⟩ := open_slc (f := uF) (Q := fun x => 0 ≤ x ∧ x ≤ 18446744073709551615) Go.Proofs.Try.underlying77 k22.2.2 (by omega) uF_sized (fun n cs y hl hy => u64_open hl hy) h3
  subst e0 e1 e2
  have w1' := wf_int w1
  have w2' := wf_int w2
  exact ⟨⟨x0, x1, x2, s⟩, rfl, ⟨w1'.2, w2'.1⟩, L, a, q, ln⟩

set_option maxRecDepth 100000 in
theorem snaps_open {base : Nat} {v : Value} {d : DataW H} {p : List MemPlace} (hval : Value.okWide Go.Proofs.Try.prog W .any base 69 v) (h : DataW.Trod enc Go.Proofs.Try.prog W 0 (fun _ => true) true 69 v d p) (hw : (d.weights Go.Proofs.Try.prog 69).all (· ≤ reachBytes) = true) :
    ∃ s l, v = (Lf.slc s).val ∧ Arr 4 aF W.heap s l ∧ (∀ x ∈ l, (x.hand ≤ 9223372036854775807 ∧ 0 ≤ x.seq) ∧ ∃ L : List Int, Arr 1 uF W.heap x.files L ∧ (∀ x ∈ L, 0 ≤ x ∧ x ≤ 18446744073709551615) ∧ L.length ≤ 9223372036854775807) ∧ l.length ≤ 4398046511000 := by
  obtain ⟨s, l, h1, h2, h3, _, h5⟩ := open_arrW Go.Proofs.Try.underlying69 (by kernel_rfl) aF_sized (fun n cs y hl hy => snap_open hl hy) hval h
  refine ⟨s, l, h1, h2, h3, ?_⟩
  rcases h5 with rfl | ⟨k, hk⟩
  · decide
  · have := of_decide_eq_true (List.all_eq_true.1 hw _ hk)
    have hb : Go.Proofs.Try.prog.bytesOf 79 = 48 := by kernel_rfl
    rw [hb] at this
    have hr : reachBytes = 140737488351232 := by decide
    omega
end

end Go.V.Yteojmnnobmpdiaa
