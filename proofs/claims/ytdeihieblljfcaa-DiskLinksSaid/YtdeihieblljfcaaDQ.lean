/- This text proves a part of the laws of seat Ytdeihieblljfcaa, under no condition: D3e. -/
import Derived.Test.YtdeihieblljfcaaRows
import Derived.Test.YtdeihieblljfcaaDD
import Derived.Test.YtdeihieblljfcaaDP
import Derived.Shelf.Vars
set_option linter.unusedVariables false
set_option linter.unusedSimpArgs false
/-! DiskWhole, of all inputs. -/
namespace Go.V.Ytdeihieblljfcaa
open Go Go.V Go.ChangeShapes Go.WideShapes

theorem ownK : ownKnob Go.Proofs.Try.prog.godebug = none := by kernel_rfl
theorem laidK : laidOutB Go.Proofs.Try.prog = true := by kernel_rfl
theorem weightsK {H : Type} {W : World} {ts : List TypeId} {ds : List (DataW H)} (h : (DataW.weightsEach Go.Proofs.Try.prog ts ds).all (· ≤ reachBytes) = true) {j : Nat} {t : TypeId} {d : DataW H} (ht : ts[j]? = some t) (hd : ds[j]? = some d) : (d.weights Go.Proofs.Try.prog t).all (· ≤ reachBytes) = true := by
  rw [List.all_eq_true] at h ⊢
  exact fun n hn => h n (DataW.weights_mem_each ht hd n hn)
set_option maxRecDepth 100000 in
theorem kK : Go.Proofs.Try.prog.cellsOf 5 = 1 ∧ Go.Proofs.Try.prog.bytesOf 5 = 1 ∧ Go.Proofs.Try.prog.cellsOf 3 = 1 ∧ Go.Proofs.Try.prog.bytesOf 3 = 8 := ⟨by kernel_rfl, by kernel_rfl, by kernel_rfl, by kernel_rfl⟩

set_option maxRecDepth 100000 in
theorem maxL_of {W : World} (h : W.ShapedOpen Go.Proofs.Try.prog) : MaxL W.heap := by
  obtain ⟨m, hm⟩ := Go.Proofs.cell_of_shapedOpen_int (g := 0) (t := 3) (k := .i64) (zero := #[.int .i64 0]) h (of_decide_eq_true (by kernel_rfl)) (by kernel_rfl) rfl (by kernel_rfl) (by kernel_rfl) Go.Proofs.Try.underlying3
  unfold World.cell? at hm
  split at hm
  · rename_i c t fz hb
    exact ⟨c, t, fz, m, hb, by simpa using hm⟩
  · cases hm

section
variable {H : Type} {enc : TypeId × Value → H} {P : Program} {W : World}
theorem int_open {t : TypeId} (ht : P.underlying t = some (.int .i64)) {n : Nat} {cs : List Value} {y : DataW H × List MemPlace} (hl : cs.length = 1) (h : DataW.trod enc P W 0 (fun _ => true) true n t cs = some y) :
    ∃ x : Int, cs = (iF x).map Lf.val ∧ True := by
  obtain ⟨x, e, _, w⟩ := DataW.trod_int ht h
  exact ⟨x, e, trivial⟩
theorem ints_open {t e : TypeId} {base : Nat} {v : Value} {d : DataW H} {p : List MemPlace} (ht : P.underlying t = some (.slice e)) (he : P.underlying e = some (.int .i64)) (hc : P.cellsOf e = 1) (hb1 : P.bytesOf e = 8)
    (hval : Value.okWide P W .any base t v) (h : DataW.Trod enc P W 0 (fun _ => true) true t v d p) (hw : (d.weights P t).all (· ≤ reachBytes) = true) :
    ∃ s l, v = (Lf.slc s).val ∧ Arr 1 iF W.heap s l ∧ s.len ≤ s.cap ∧ l.length ≤ 140737488355328 ∧ ∀ b off, s.a = some (b, off) → b < W.heap.size := by
  obtain ⟨s, l, rfl, h2, _, _, h5⟩ := open_arrW (f := iF) (Q := fun _ => True) ht hc iF_sized (fun n cs y hl hy => int_open he hl hy) hval h
  obtain ⟨hcap, hblk⟩ := okW_slc ht hval
  refine ⟨s, l, rfl, h2, hcap, ?_, hblk⟩
  rcases h5 with rfl | ⟨k, hk⟩
  · simp
  · have := of_decide_eq_true (List.all_eq_true.1 hw _ hk)
    rw [hb1] at this
    have hr : reachBytes = 140737488351232 := by decide
    omega
end

set_option maxRecDepth 100000 in
theorem whole_lifted (os : Os) (started : os.Started) (H : Type) (enc : TypeId × Value → H) :
    ReturnsInHanded {} Go.Proofs.Try.checked os 3 .any (Go.Proofs.Ytdeihieblljfcaa.Rows.diskWholeSpec.pre6 enc Go.Proofs.Try.prog Go.Proofs.Try.f3 Go.Proofs.Ytdeihieblljfcaa.Rows.diskWholeRow.domain false)
      (Go.Proofs.Ytdeihieblljfcaa.Rows.diskWholeSpec.post enc Go.Proofs.Try.prog Go.Proofs.Try.f3 false true false false) := by
  refine liftS (C := Go.Proofs.Try.checked) (tb := 4) ownK started (by kernel_rfl) Go.Proofs.Try.func3
    (ChangeSpec.witness6 (enc := enc) (C := Go.Proofs.Try.checked) false ⟨#[], #[.slice none 0 0, .slice none 0 0, .int .i64 0, .slice none 0 0, .slice none 0 0], []⟩ 8 (by kernel_rfl) (by kernel_rfl) (by kernel_rfl) (by kernel_rfl))
    laidK rfl (by kernel_rfl) (by kernel_rfl) (by kernel_rfl) ?_ ?_
  · intro ds hds
    rw [Go.Proofs.Try.params3] at hds
    match ds, hds with
    | [d1, d2, d3, d4, d5], _ => rfl
  · intro W base args ds p hval hA hz hwt _ hsh
    rw [Go.Proofs.Try.params3] at hA hval hwt
    obtain ⟨v0, v1, v2, v3, v4, d0, d1, d2, d3, d4, p0, p1, p2, p3, p4, rfl, rfl, h0, h1, h2, h3, h4⟩ : ∃ v0 v1 v2 v3 v4 d0 d1 d2 d3 d4 p0 p1 p2 p3 p4, args = #[v0, v1, v2, v3, v4] ∧ ds = [d0, d1, d2, d3, d4] ∧ DataW.Trod enc Go.Proofs.Try.prog W 0 (fun _ => true) true 22 v0 d0 p0 ∧
        DataW.Trod enc Go.Proofs.Try.prog W 0 (fun _ => true) true 22 v1 d1 p1 ∧ DataW.Trod enc Go.Proofs.Try.prog W 0 (fun _ => true) true 3 v2 d2 p2 ∧ DataW.Trod enc Go.Proofs.Try.prog W 0 (fun _ => true) true 23 v3 d3 p3 ∧ DataW.Trod enc Go.Proofs.Try.prog W 0 (fun _ => true) true 23 v4 d4 p4 := by
      obtain ⟨u0, us0, d0, ds0, p0, q0, hv, rfl, _, h1, g0⟩ := trodAll_cons hA
      obtain ⟨u1, us1, d1, ds1, p1, q1, rfl, rfl, _, h2, g1⟩ := trodAll_cons g0
      obtain ⟨u2, us2, d2, ds2, p2, q2, rfl, rfl, _, h3, g2⟩ := trodAll_cons g1
      obtain ⟨u3, us3, d3, ds3, p3, q3, rfl, rfl, _, h4, g3⟩ := trodAll_cons g2
      obtain ⟨u4, us4, d4, ds4, p4, q4, rfl, rfl, _, h5, g4⟩ := trodAll_cons g3
      obtain ⟨rfl, rfl, _⟩ := trodAll_nil g4
      exact ⟨u0, u1, u2, u3, u4, d0, d1, d2, d3, d4, p0, p1, p2, p3, p4, Array.toList_inj.1 hv, rfl, h1, h2, h3, h4, h5⟩
    obtain ⟨s0, l0, rfl, a0, n0, b0⟩ := bytes_open Go.Proofs.Try.underlying22 Go.Proofs.Try.underlying5 kK.1 kK.2.1 (hval 0 22 v0 rfl rfl) h0 (weightsK (W := W) hwt (j := 0) rfl rfl)
    obtain ⟨s1, l1, rfl, a1, n1, b1⟩ := bytes_open Go.Proofs.Try.underlying22 Go.Proofs.Try.underlying5 kK.1 kK.2.1 (hval 1 22 v1 rfl rfl) h1 (weightsK (W := W) hwt (j := 1) rfl rfl)
    obtain ⟨n2, rfl, n2a, n2b⟩ := open_int Go.Proofs.Try.underlying3 (hval 2 3 v2 rfl rfl) h2
    obtain ⟨s3, l3, rfl, a3, c3', n3, b3⟩ := ints_open Go.Proofs.Try.underlying23 Go.Proofs.Try.underlying3 kK.2.2.1 kK.2.2.2 (hval 3 23 v3 rfl rfl) h3 (weightsK (W := W) hwt (j := 3) rfl rfl)
    obtain ⟨s4, l4, rfl, a4, c4', n4, b4⟩ := ints_open Go.Proofs.Try.underlying23 Go.Proofs.Try.underlying3 kK.2.2.1 kK.2.2.2 (hval 4 23 v4 rfl rfl) h4 (weightsK (W := W) hwt (j := 4) rfl rfl)
    have n2a : -9223372036854775808 ≤ n2 := n2a
    have n2b : n2 ≤ 9223372036854775807 := n2b
    exact Call.calls (args := [.lf (.slc s0), .lf (.slc s1), .lf (.int .i64 n2), .lf (.slc s3), .lf (.slc s4)]) rfl
      (c3 (maxL_of hsh) a0.arr a1.arr a3 a4 a0.cap a1.cap b0 b1 b3 b4 n2a n2b (by omega) (by omega) fun h' e => ⟨rfl, e⟩)

theorem whole_holds : Go.Proofs.Ytdeihieblljfcaa.Rows.DiskWholeSaid :=
  OpenClaim.holds_of_wide 3 Go.Proofs.Try.f3 rfl rfl rfl rfl rfl rfl rfl ⟨rfl, rfl, rfl, rfl, rfl⟩ rfl rfl rfl rfl rfl (by kernel_rfl) Go.Proofs.Try.func3 (by kernel_rfl)
    (of_decide_eq_true (by kernel_rfl)) (by unfold Func.isWrapper; first | (rw [if_pos (by decide +kernel)]; kernel_rfl) | (rw [if_neg (by decide +kernel)]; exact ⟨rfl, rfl⟩))
    (fun os started H enc _ => whole_lifted os started H enc)

end Go.V.Ytdeihieblljfcaa
