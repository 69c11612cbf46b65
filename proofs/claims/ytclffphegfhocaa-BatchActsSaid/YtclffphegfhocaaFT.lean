/- This text proves a part of the laws of seat Ytclffphegfhocaa, under no condition: B4t. -/
import Derived.Test.YtclffphegfhocaaRows
import Derived.Test.YtclffphegfhocaaED
import Derived.Test.YtclffphegfhocaaEM
import Derived.Test.YtclffphegfhocaaFS
set_option linter.unusedVariables false
set_option linter.unusedSimpArgs false
/-! BatchActs returns true for every input. -/
namespace Go.V.Ytclffphegfhocaa
open Go Go.V Go.ChangeShapes Go.WideShapes

theorem open_slcC {H : Type} {enc : TypeId × Value → H} {P : Program} {W : World} {α : Type} {sz : Nat} {f : α → List Lf} {Q : α → Prop} {t e : TypeId} {fuel : Nat} {v : Value} {y : DataW H × List MemPlace} (ht : P.underlying t = some (.slice e)) (hsz : P.cellsOf e = sz) (hsz0 : 0 < sz) (hf : Sized sz f)
    (hel : ∀ n cs y, cs.length = sz → DataW.trod enc P W 0 (fun _ => true) true n e cs = some y → ∃ x : α, cs = (f x).map Lf.val ∧ Q x)
    (h : DataW.trod enc P W 0 (fun _ => true) true fuel t [v] = some y) :
    ∃ s l, v = (Lf.slc s).val ∧ Arr sz f W.heap s l ∧ (∀ x ∈ l, Q x) ∧ l.length ≤ 9223372036854775807 ∧ s.len ≤ s.cap := by
  have hcap : ∀ {s : Slc}, v = (Lf.slc s).val → s.len ≤ s.cap := by
    intro s hs
    rcases Deep.open_slice ht h with ⟨h1, _⟩ | ⟨a', len, cap, m, n, D, Pl, h1, hb, hl, _⟩
    · rw [hs] at h1
      simp only [List.cons.injEq, and_true, Lf.val, Value.slice.injEq] at h1
      omega
    · rw [hs] at h1
      simp only [List.cons.injEq, and_true, Lf.val, Value.slice.injEq] at h1
      omega
  obtain ⟨s, l, h1, h2, h3, h4, _⟩ := open_slc ht hsz hsz0 hf hel h
  exact ⟨s, l, h1, h2, h3, h4, hcap h1⟩

set_option maxRecDepth 100000 in
theorem kA : Go.Proofs.Try.prog.cellsOf 3 = 1 ∧ Go.Proofs.Try.prog.cellsOf 4 = 1 ∧ Go.Proofs.Try.prog.cellsOf 22 = 1 ∧ Go.Proofs.Try.prog.cellsOf 56 = 7 ∧ Go.Proofs.Try.prog.bytesOf 56 = 88 := ⟨by kernel_rfl, by kernel_rfl, by kernel_rfl, by kernel_rfl, by kernel_rfl⟩
set_option maxRecDepth 100000 in
theorem bool4 : Go.Proofs.Try.prog.underlying 4 = some .bool := by kernel_rfl

set_option maxRecDepth 100000 in
theorem act_open {H : Type} {enc : TypeId × Value → H} {W : World} {n : Nat} {cs : List Value} {y : DataW H × List MemPlace} (hl : cs.length = 7) (h : DataW.trod enc Go.Proofs.Try.prog W 0 (fun _ => true) true n 56 cs = some y) :
    ∃ r : ActV, cs = (ActV.lfs r).map Lf.val ∧ ActOk W.heap r := by
  obtain ⟨y0, y1, y2, y3, m, _, _, h0, h1, h2, h3⟩ := Go.Joins.trod_struct4 Go.Proofs.Try.underlying56 h
  obtain ⟨c0, c1, c2, c3, c4, c5, c6, rfl⟩ : ∃ c0 c1 c2 c3 c4 c5 c6, cs = [c0, c1, c2, c3, c4, c5, c6] := by
    match cs, hl with
    | [c0, c1, c2, c3, c4, c5, c6], _ => exact ⟨c0, c1, c2, c3, c4, c5, c6, rfl⟩
  simp only [kA.1, kA.2.1, kA.2.2.1, kE.2.2.2] at h0 h1 h2 h3
  obtain ⟨kind, e0, _, w0⟩ := DataW.trod_int Go.Proofs.Try.underlying3 h0
  obtain ⟨how, e1, _⟩ := DataW.trod_bool bool4 h1
  obtain ⟨r, e2, hr⟩ := recB_open (by rfl) h2
  simp only [List.drop_succ_cons, List.drop_zero, List.take_succ_cons, List.take_zero, List.cons.injEq, and_true] at e0 e1 e2 h3
  obtain ⟨s, L, rfl, a, q, ln, hc⟩ := open_slcC Go.Proofs.Try.underlying22 kE.2.2.2 (by omega) lfs_sized (fun n cs y hl hy => recB_open hl hy) h3
  obtain ⟨fam, rk, key, val⟩ := r
  simp only [Rec.lfs, List.map_cons, List.map_nil, List.cons.injEq, and_true] at e2
  obtain ⟨rfl, rfl, rfl, rfl⟩ := e2
  subst e0 e1
  exact ⟨⟨kind, how, ⟨fam, rk, key, val⟩, s⟩, rfl, hr, hc, L, a, q, ln⟩

theorem act_sized : Sized 7 ActV.lfs := fun _ => rfl

set_option maxRecDepth 100000 in
theorem acts_open {H : Type} {enc : TypeId × Value → H} {W : World} {base : Nat} {v : Value} {d : DataW H} {p : List MemPlace} (hval : Value.okWide Go.Proofs.Try.prog W .any base 48 v) (h : DataW.Trod enc Go.Proofs.Try.prog W 0 (fun _ => true) true 48 v d p) (hw : (d.weights Go.Proofs.Try.prog 48).all (· ≤ reachBytes) = true) :
    ∃ s l, v = (Lf.slc s).val ∧ Arr 7 ActV.lfs W.heap s l ∧ (∀ x ∈ l, ActOk W.heap x) ∧ l.length ≤ 2199023255551 := by
  obtain ⟨s, l, h1, h2, h3, _, h5⟩ := open_arrW Go.Proofs.Try.underlying48 kA.2.2.2.1 act_sized (fun n cs y hl hy => act_open hl hy) hval h
  refine ⟨s, l, h1, h2, h3, ?_⟩
  rcases h5 with rfl | ⟨k, hk⟩
  · simp
  · have := of_decide_eq_true (List.all_eq_true.1 hw _ hk)
    rw [kA.2.2.2.2] at this
    have hr : reachBytes = 140737488351232 := by decide
    omega

set_option maxRecDepth 100000 in
theorem acts_lifted (os : Os) (started : os.Started) (H : Type) (enc : TypeId × Value → H) :
    ReturnsInHanded {} Go.Proofs.Try.checked os 7 .any (Go.Proofs.Ytclffphegfhocaa.Rows.batchActsSpec.pre6 enc Go.Proofs.Try.prog Go.Proofs.Try.f7 Go.Proofs.Ytclffphegfhocaa.Rows.batchActsRow.domain false)
      (Go.Proofs.Ytclffphegfhocaa.Rows.batchActsSpec.post enc Go.Proofs.Try.prog Go.Proofs.Try.f7 false true false false) := by
  refine lift (C := Go.Proofs.Try.checked) (tb := 4) ownE started (by kernel_rfl) Go.Proofs.Try.func7
    (ChangeSpec.witness6 (enc := enc) (C := Go.Proofs.Try.checked) false ⟨#[], #[.slice none 0 0], []⟩ 8 (by kernel_rfl) (by kernel_rfl) (by kernel_rfl) (by kernel_rfl))
    laidE rfl (by kernel_rfl) (by kernel_rfl) (by kernel_rfl) ?_ ?_
  · intro ds hds
    rw [Go.Proofs.Try.params7] at hds
    match ds, hds with
    | [d1], _ => rfl
  · intro W base args ds p hval hA hz hwt _
    rw [Go.Proofs.Try.params7] at hA hval hwt
    obtain ⟨v0, d0, p0, rfl, rfl, h0⟩ : ∃ v0 d0 p0, args = #[v0] ∧ ds = [d0] ∧ DataW.Trod enc Go.Proofs.Try.prog W 0 (fun _ => true) true 48 v0 d0 p0 := by
      obtain ⟨u0, us0, d0, ds0, p0, q0, hv, rfl, _, h1, g0⟩ := trodAll_cons hA
      obtain ⟨rfl, rfl, _⟩ := trodAll_nil g0
      exact ⟨u0, d0, p0, Array.toList_inj.1 hv, rfl, h1⟩
    obtain ⟨s1, l1, rfl, a1, o1, b1⟩ := acts_open (hval 0 48 v0 rfl rfl) h0 (weightsE (W := W) hwt (j := 0) rfl rfl)
    exact Call.calls (args := [.lf (.slc s1)]) rfl (c7 a1 o1 b1 fun h' e => ⟨rfl, e⟩)

theorem acts_holds : Go.Proofs.Ytclffphegfhocaa.Rows.BatchActsSaid :=
  OpenClaim.holds_of_wide 7 Go.Proofs.Try.f7 rfl rfl rfl rfl rfl rfl rfl ⟨rfl, rfl, rfl, rfl, rfl⟩ rfl rfl rfl rfl rfl (by kernel_rfl) Go.Proofs.Try.func7 (by kernel_rfl)
    (of_decide_eq_true (by kernel_rfl)) (by unfold Func.isWrapper; first | (rw [if_pos (by decide +kernel)]; kernel_rfl) | (rw [if_neg (by decide +kernel)]; exact ⟨rfl, rfl⟩))
    (fun os started H enc _ => acts_lifted os started H enc)

end Go.V.Ytclffphegfhocaa
