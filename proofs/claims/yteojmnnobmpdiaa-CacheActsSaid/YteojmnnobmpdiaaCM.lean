/- This text proves a part of the laws of seat Yteojmnnobmpdiaa, under no condition: C12top. -/
import Derived.Test.YteojmnnobmpdiaaRows
import Derived.Test.YteojmnnobmpdiaaED
import Derived.Test.YteojmnnobmpdiaaCJ
import Derived.Test.YteojmnnobmpdiaaCL
set_option linter.unusedVariables false
set_option linter.unusedSimpArgs false
/-! The statements about the cache, of all inputs. -/
namespace Go.V.Yteojmnnobmpdiaa
open Go Go.V Go.ChangeShapes Go.WideShapes

theorem own : ownKnob Go.Proofs.Try.prog.godebug = none := by kernel_rfl
theorem laidOut : laidOutB Go.Proofs.Try.prog = true := by kernel_rfl

section
variable {H : Type} {enc : TypeId × Value → H} {W : World}

set_option maxRecDepth 100000 in
theorem k1s : Go.Proofs.Try.prog.cellsOf 3 = 1 ∧ Go.Proofs.Try.prog.cellsOf 9 = 1 ∧ Go.Proofs.Try.prog.cellsOf 22 = 1 ∧ Go.Proofs.Try.prog.cellsOf 4 = 1 := ⟨by kernel_rfl, by kernel_rfl, by kernel_rfl, by kernel_rfl⟩

theorem trod_struct5 {P : Program} {w : World} {base : Nat} {spare : Nat → Bool} {held : Bool} {t : TypeId} {f0 f1 f2 f3 f4 : Field} {fuel : Nat} {cs : List Value} {x : DataW H × List MemPlace} (ht : P.underlying t = some (.struct #[f0, f1, f2, f3, f4])) (h : DataW.trod enc P w base spare held fuel t cs = some x) :
    ∃ y0 y1 y2 y3 y4 n, DataW.trod enc P w base spare held n f0.type ((cs.drop f0.offset).take (P.cellsOf f0.type)) = some y0 ∧
      DataW.trod enc P w base spare held n f1.type ((cs.drop f1.offset).take (P.cellsOf f1.type)) = some y1 ∧ DataW.trod enc P w base spare held n f2.type ((cs.drop f2.offset).take (P.cellsOf f2.type)) = some y2 ∧
      DataW.trod enc P w base spare held n f3.type ((cs.drop f3.offset).take (P.cellsOf f3.type)) = some y3 ∧ DataW.trod enc P w base spare held n f4.type ((cs.drop f4.offset).take (P.cellsOf f4.type)) = some y4 := by
  obtain ⟨xs, n, _, rfl, hl, hlen, hf⟩ := DataW.trod_struct ht h
  match xs, hlen with
  | [y0, y1, y2, y3, y4], _ => exact ⟨y0, y1, y2, y3, y4, n, by simpa using hf 0 f0 rfl, by simpa using hf 1 f1 rfl, by simpa using hf 2 f2 rfl, by simpa using hf 3 f3 rfl, by simpa using hf 4 f4 rfl⟩

set_option maxRecDepth 100000 in
theorem act_open {n : Nat} {cs : List Value} {y : DataW H × List MemPlace} (hl : cs.length = 5) (h : DataW.trod enc Go.Proofs.Try.prog W 0 (fun _ => true) true n 33 cs = some y) :
    ∃ r : Act, cs = (Act.lfs r).map Lf.val ∧ r.Ok := by
  obtain ⟨y0, y1, y2, y3, y4, m, h0, h1, h2, h3, h4⟩ := trod_struct5 Go.Proofs.Try.underlying33 h
  obtain ⟨c0, c1, c2, c3, c4, rfl⟩ : ∃ c0 c1 c2 c3 c4, cs = [c0, c1, c2, c3, c4] := by
    match cs, hl with
    | [c0, c1, c2, c3, c4], _ => exact ⟨c0, c1, c2, c3, c4, rfl⟩
  simp only [k1s.1, k1s.2.1, k1s.2.2.1] at h0 h1 h2 h3 h4
  obtain ⟨x0, e0, _, w0⟩ := DataW.trod_int Go.Proofs.Try.underlying3 h0
  obtain ⟨x1, e1, _, w1⟩ := DataW.trod_int Go.Proofs.Try.underlying3 h1
  obtain ⟨x2, e2, _, w2⟩ := DataW.trod_string Go.Proofs.Try.underlying9 h2
  obtain ⟨x3, e3, _, w3⟩ := DataW.trod_int Go.Proofs.Try.underlying22 h3
  obtain ⟨x4, e4, _, w4⟩ := DataW.trod_int Go.Proofs.Try.underlying22 h4
  simp only [List.drop_succ_cons, List.drop_zero, List.take_succ_cons, List.take_zero, List.cons.injEq, and_true] at e0 e1 e2 e3 e4
  subst e0 e1 e2 e3 e4
  have w0' := wf_int w0
  have w1' := wf_int w1
  have w3' := wf_int w3
  have w4' := wf_int w4
  have hmax : maxLen = 9223372036854775807 := by decide
  exact ⟨⟨x0, x1, x2, x3, x4⟩, rfl, ⟨w0'.1, w0'.2, w1'.1, w1'.2, (by show x2.size ≤ _; omega), w3'.1, w3'.2, w4'.1, w4'.2⟩⟩

set_option maxRecDepth 100000 in
theorem acts_open {base : Nat} {v : Value} {d : DataW H} {p : List MemPlace} (hval : Value.okWide Go.Proofs.Try.prog W .any base 25 v) (h : DataW.Trod enc Go.Proofs.Try.prog W 0 (fun _ => true) true 25 v d p) (hw : (d.weights Go.Proofs.Try.prog 25).all (· ≤ reachBytes) = true) :
    ∃ s l, v = (Lf.slc s).val ∧ Arr 5 Act.lfs W.heap s l ∧ (∀ x ∈ l, x.Ok) ∧ l.length < 4398046511100 := by
  obtain ⟨s, l, h1, h2, h3, _, h5⟩ := open_arrW Go.Proofs.Try.underlying25 (by kernel_rfl) act_sized (fun n cs y hl hy => act_open hl hy) hval h
  refine ⟨s, l, h1, h2, h3, ?_⟩
  rcases h5 with rfl | ⟨k, hk⟩
  · decide
  · have := of_decide_eq_true (List.all_eq_true.1 hw _ hk)
    have hb : Go.Proofs.Try.prog.bytesOf 33 = 48 := by kernel_rfl
    rw [hb] at this
    have hr : reachBytes = 140737488351232 := by decide
    omega

set_option maxRecDepth 100000 in
/-- A Form. -/
theorem form_open {v : Value} {d : DataW H} {p : List MemPlace} (h : DataW.Trod enc Go.Proofs.Try.prog W 0 (fun _ => true) true 24 v d p) (hv : ∃ cs, v = .agg cs) :
    ∃ n room b, v = (VV.agg [.int .i64 n, .int .u64 room, .bool b]).val ∧ -9223372036854775808 ≤ n ∧ n ≤ 9223372036854775807 ∧ 0 ≤ room ∧ room ≤ big := by
  obtain ⟨cs, rfl⟩ := hv
  obtain ⟨fuel, h⟩ := h
  obtain ⟨y0, y1, y2, n, _, hl, h0, h1, h2⟩ := Deep.trod_struct3 Go.Proofs.Try.underlying24 h
  have hcells : (Value.agg cs).cells.toList = cs.toList := rfl
  rw [hcells] at h0 h1 h2 hl
  have k24 : Go.Proofs.Try.prog.cellsOf 24 = 3 := by
    kernel_rfl
  rw [k24] at hl
  obtain ⟨c0, c1, c2, hc⟩ : ∃ c0 c1 c2, cs.toList = [c0, c1, c2] := by
    generalize cs.toList = L at hl
    match L, hl with
    | [c0, c1, c2], _ => exact ⟨c0, c1, c2, rfl⟩
  rw [hc] at h0 h1 h2
  simp only [k1s.1, k1s.2.2.1, k1s.2.2.2] at h0 h1 h2
  obtain ⟨x0, e0, _, w0⟩ := DataW.trod_int Go.Proofs.Try.underlying3 h0
  obtain ⟨x1, e1, _, w1⟩ := DataW.trod_int Go.Proofs.Try.underlying22 h1
  obtain ⟨x2, e2, _⟩ := DataW.trod_bool Go.Proofs.Try.underlying4 h2
  simp only [List.drop_succ_cons, List.drop_zero, List.take_succ_cons, List.take_zero, List.cons.injEq, and_true] at e0 e1 e2
  subst e0 e1 e2
  have w0' := wf_int w0
  have w1' := wf_int w1
  refine ⟨x0, x1, x2, ?_, w0'.1, w0'.2, w1'.1, w1'.2⟩
  have : cs = #[.int .i64 x0, .int .u64 x1, .bool x2] := by
    rw [← Array.toArray_toList (xs := cs), hc]
  rw [this]; rfl
end

theorem weights3 {H : Type} {W : World} {ts : List TypeId} {ds : List (DataW H)} (h : (DataW.weightsEach Go.Proofs.Try.prog ts ds).all (· ≤ reachBytes) = true) {j : Nat} {t : TypeId} {d : DataW H} (ht : ts[j]? = some t) (hd : ds[j]? = some d) : (d.weights Go.Proofs.Try.prog t).all (· ≤ reachBytes) = true := by
  rw [List.all_eq_true] at h ⊢
  exact fun n hn => h n (DataW.weights_mem_each ht hd n hn)

set_option maxRecDepth 100000 in
theorem room_lifted (os : Os) (started : os.Started) (H : Type) (enc : TypeId × Value → H) :
    ReturnsInHanded {} Go.Proofs.Try.checked os 3 .any (Go.Proofs.Yteojmnnobmpdiaa.Rows.cacheRoomSpec.pre6 enc Go.Proofs.Try.prog Go.Proofs.Try.f3 Go.Proofs.Yteojmnnobmpdiaa.Rows.cacheRoomRow.domain false)
      (Go.Proofs.Yteojmnnobmpdiaa.Rows.cacheRoomSpec.post enc Go.Proofs.Try.prog Go.Proofs.Try.f3 false true false false) := by
  refine lift (C := Go.Proofs.Try.checked) (tb := 4) own started (by kernel_rfl) Go.Proofs.Try.func3
    (ChangeSpec.witness6 (enc := enc) (C := Go.Proofs.Try.checked) false ⟨#[], #[.agg #[.int .i64 0, .int .u64 0, .bool false], .slice none 0 0], []⟩ 8 (by kernel_rfl) (by kernel_rfl) (by kernel_rfl) (by kernel_rfl))
    laidOut rfl (by kernel_rfl) (by kernel_rfl) (by kernel_rfl) ?_ ?_
  · intro ds hds
    rw [Go.Proofs.Try.params3] at hds
    match ds, hds with
    | [d1, d2], _ => rfl
  · intro W base args ds p hval hA hz hwt _
    rw [Go.Proofs.Try.params3] at hA hval hwt
    obtain ⟨v0, v1, d0, d1, p0, p1, rfl, rfl, rfl, h0, h1⟩ := trodAll_two hA
    obtain ⟨n, room, b, rfl, hn0, hn1, r0, r1⟩ := form_open h0 (open_agg Go.Proofs.Try.underlying24 (hval 0 24 v0 rfl rfl))
    obtain ⟨s1, l1, rfl, a1, o1, n1⟩ := acts_open (hval 1 25 v1 rfl rfl) h1 (weights3 (W := W) hwt (j := 1) rfl rfl)
    exact Call.calls rfl (c3 a1 r0 r1 hn0 hn1 n1 o1 fun h' e => ⟨rfl, e⟩)

set_option maxRecDepth 100000 in
theorem apart_lifted (os : Os) (started : os.Started) (H : Type) (enc : TypeId × Value → H) :
    ReturnsInHanded {} Go.Proofs.Try.checked os 4 .any (Go.Proofs.Yteojmnnobmpdiaa.Rows.cacheApartSpec.pre6 enc Go.Proofs.Try.prog Go.Proofs.Try.f4 Go.Proofs.Yteojmnnobmpdiaa.Rows.cacheApartRow.domain false)
      (Go.Proofs.Yteojmnnobmpdiaa.Rows.cacheApartSpec.post enc Go.Proofs.Try.prog Go.Proofs.Try.f4 false true false false) := by
  refine lift (C := Go.Proofs.Try.checked) (tb := 4) own started (by kernel_rfl) Go.Proofs.Try.func4
    (ChangeSpec.witness6 (enc := enc) (C := Go.Proofs.Try.checked) false ⟨#[], #[.int .u64 0, .slice none 0 0, .string ⟨#[]⟩], []⟩ 8 (by kernel_rfl) (by kernel_rfl) (by kernel_rfl) (by kernel_rfl))
    laidOut rfl (by kernel_rfl) (by kernel_rfl) (by kernel_rfl) ?_ ?_
  · intro ds hds
    rw [Go.Proofs.Try.params4] at hds
    match ds, hds with
    | [d1, d2, d3], _ => rfl
  · intro W base args ds p hval hA hz hwt _
    rw [Go.Proofs.Try.params4] at hA hval hwt
    obtain ⟨v0, v1, v2, d0, d1, d2, p0, p1, p2, rfl, rfl, rfl, h0, h1, h2⟩ := trodAll_three hA
    obtain ⟨room, rfl, r0, r1⟩ := open_int Go.Proofs.Try.underlying22 (hval 0 22 v0 rfl rfl) h0
    obtain ⟨s1, l1, rfl, a1, o1, n1⟩ := acts_open (hval 1 25 v1 rfl rfl) h1 (weights3 (W := W) hwt (j := 1) rfl rfl)
    obtain ⟨key, rfl, hk⟩ := open_str Go.Proofs.Try.underlying9 (hval 2 9 v2 rfl rfl) h2
    exact Call.calls rfl (c4 a1 r0 r1 hk n1 o1 fun h' e => ⟨rfl, e⟩)

set_option maxRecDepth 100000 in
theorem pinned_lifted (os : Os) (started : os.Started) (H : Type) (enc : TypeId × Value → H) :
    ReturnsInHanded {} Go.Proofs.Try.checked os 5 .any (Go.Proofs.Yteojmnnobmpdiaa.Rows.cachePinnedSpec.pre6 enc Go.Proofs.Try.prog Go.Proofs.Try.f5 Go.Proofs.Yteojmnnobmpdiaa.Rows.cachePinnedRow.domain false)
      (Go.Proofs.Yteojmnnobmpdiaa.Rows.cachePinnedSpec.post enc Go.Proofs.Try.prog Go.Proofs.Try.f5 false true false false) := by
  refine lift (C := Go.Proofs.Try.checked) (tb := 4) own started (by kernel_rfl) Go.Proofs.Try.func5
    (ChangeSpec.witness6 (enc := enc) (C := Go.Proofs.Try.checked) false ⟨#[], #[.agg #[.int .i64 0, .int .u64 0, .bool false], .string ⟨#[]⟩, .slice none 0 0], []⟩ 8 (by kernel_rfl) (by kernel_rfl) (by kernel_rfl) (by kernel_rfl))
    laidOut rfl (by kernel_rfl) (by kernel_rfl) (by kernel_rfl) ?_ ?_
  · intro ds hds
    rw [Go.Proofs.Try.params5] at hds
    match ds, hds with
    | [d1, d2, d3], _ => rfl
  · intro W base args ds p hval hA hz hwt _
    rw [Go.Proofs.Try.params5] at hA hval hwt
    obtain ⟨v0, v1, v2, d0, d1, d2, p0, p1, p2, rfl, rfl, rfl, h0, h1, h2⟩ := trodAll_three hA
    obtain ⟨n, room, b, rfl, hn0, hn1, r0, r1⟩ := form_open h0 (open_agg Go.Proofs.Try.underlying24 (hval 0 24 v0 rfl rfl))
    obtain ⟨key, rfl, hk⟩ := open_str Go.Proofs.Try.underlying9 (hval 1 9 v1 rfl rfl) h1
    obtain ⟨s1, l1, rfl, a1, o1, n1⟩ := acts_open (hval 2 25 v2 rfl rfl) h2 (weights3 (W := W) hwt (j := 2) rfl rfl)
    exact Call.calls rfl (c5 a1 r0 r1 hn0 hn1 hk n1 o1 fun h' e => ⟨rfl, e⟩)

theorem room_holds : Go.Proofs.Yteojmnnobmpdiaa.Rows.CacheRoomSaid :=
  OpenClaim.holds_of_wide 3 Go.Proofs.Try.f3 rfl rfl rfl rfl rfl rfl rfl ⟨rfl, rfl, rfl, rfl, rfl⟩ rfl rfl rfl rfl rfl (by kernel_rfl) Go.Proofs.Try.func3 (by kernel_rfl)
    (of_decide_eq_true (by kernel_rfl)) (by unfold Func.isWrapper; first | (rw [if_pos (by decide +kernel)]; kernel_rfl) | (rw [if_neg (by decide +kernel)]; exact ⟨rfl, rfl⟩))
    (fun os started H enc _ => room_lifted os started H enc)

theorem apart_holds : Go.Proofs.Yteojmnnobmpdiaa.Rows.CacheApartSaid :=
  OpenClaim.holds_of_wide 4 Go.Proofs.Try.f4 rfl rfl rfl rfl rfl rfl rfl ⟨rfl, rfl, rfl, rfl, rfl⟩ rfl rfl rfl rfl rfl (by kernel_rfl) Go.Proofs.Try.func4 (by kernel_rfl)
    (of_decide_eq_true (by kernel_rfl)) (by unfold Func.isWrapper; first | (rw [if_pos (by decide +kernel)]; kernel_rfl) | (rw [if_neg (by decide +kernel)]; exact ⟨rfl, rfl⟩))
    (fun os started H enc _ => apart_lifted os started H enc)

theorem pinned_holds : Go.Proofs.Yteojmnnobmpdiaa.Rows.CachePinnedSaid :=
  OpenClaim.holds_of_wide 5 Go.Proofs.Try.f5 rfl rfl rfl rfl rfl rfl rfl ⟨rfl, rfl, rfl, rfl, rfl⟩ rfl rfl rfl rfl rfl (by kernel_rfl) Go.Proofs.Try.func5 (by kernel_rfl)
    (of_decide_eq_true (by kernel_rfl)) (by unfold Func.isWrapper; first | (rw [if_pos (by decide +kernel)]; kernel_rfl) | (rw [if_neg (by decide +kernel)]; exact ⟨rfl, rfl⟩))
    (fun os started H enc _ => pinned_lifted os started H enc)

end Go.V.Yteojmnnobmpdiaa
