/- This text proves a part of the laws of seat Yteojmnnobmpdiaa, under no condition: VTopC X23c X23d X23e. -/
import Derived.Test.YteojmnnobmpdiaaSD
import Derived.Deep.CondSized
import Derived.Test.YteojmnnobmpdiaaSQ
import Derived.Test.YteojmnnobmpdiaaSV
set_option linter.unusedVariables false
set_option linter.unusedSimpArgs false
/-! The lift of a row that bears a condition of its own. -/
namespace Go.V
open Go.ChangeShapes Go.WideShapes

section
variable {H : Type} {enc : TypeId × Value → H}

theorem liftC {C : Checked} {os : Os} {f : FuncId} {fn : Func} {s : OpenSpec} {k : (H : Type) → List (DataW H) → Bool} (hk : s.cond = some k) {F : Stop.Interp} {conds : List PathCond} {apart fresh handsOn : Bool} {tb : TypeId}
    (own : ownKnob C.prog.godebug = none) (started : os.Started) (noInit : C.prog.inits.idxOf? f = none) (hfn : C.prog.funcs[f]? = some fn)
    (witness : ∃ (w : World) (tape : Tape) (i : Input), w.os = os ∧ (w.forCall tape i).Shaped C.prog ∧ i.vars = [] ∧ Input.okWide C.prog (w.forCall tape i) .any w.heap.size f i ∧
      s.pre6 enc C.prog fn conds apart (w.forCall tape i).memory i.args ∧ ({} : Assume).holds C.prog (lone (Frame.enter C.prog f i.args .normal) [] (w.forCall tape i)))
    (hl : laidOutB C.prog = true) (hvars : s.vars = []) (hrt : fn.resultTypes = #[tb]) (htb : C.prog.underlying tb = some .bool) (hps : (fn.params.toList.all fun t => C.prog.readableRec t && decide (t < C.prog.types.size)) = true)
    (hspec : ∀ (ds : List (DataW H)), ds.length = fn.params.toList.length → s.fn F H ds = { results := [.lit (.bool true)], args := ds })
    (law : ∀ (W : World) (base : Nat) (args : Array Value) (ds : List (DataW H)) (p : List MemPlace),
      (∀ (j : Nat) t v, fn.params[j]? = some t → args[j]? = some v → Value.okWide C.prog W .any base t v) →
      DataW.TrodAll enc C.prog W 0 (fun _ => true) true fn.params.toList args.toList ds p → W.noneFrozen p → k H ds = true →
      (DataW.weightsEach C.prog (fn.params.toList ++ s.bare.plain.varTypes C.prog) ds).all (· ≤ reachBytes) = true →
      Calls C.prog f args W fun e W' => e = .returned (.bool true) ∧ Out W W' ∧ Ext0 W.heap W'.heap) :
    ReturnsInHanded {} C os f .any (s.pre6 enc C.prog fn conds apart) ((s.at F).post enc C.prog fn apart fresh handsOn false) := by
  refine returnsInHanded_of_cond_sized hk own started noInit hfn witness ?_
  intro W base args ds gs before hval hW hcnd hkk hwt _
  obtain ⟨p, q, hA, hV, he, hz, hn⟩ := id hW
  have hq : gs = [] ∧ q = [] := by rw [hvars] at hV; exact trodVars_none hV
  obtain ⟨rfl, rfl⟩ := hq
  rw [List.append_nil] at he
  subst he
  have hlen : ∀ {ts : List TypeId} {vs : List Value} {ds : List (DataW H)} {ps : List MemPlace}, DataW.TrodAll enc C.prog W 0 (fun _ => true) true ts vs ds ps → ds.length = ts.length := by
    intro ts
    induction ts with
    | nil => intro vs ds ps h; obtain ⟨rfl, rfl, rfl⟩ := trodAll_nil h; rfl
    | cons t ts ih => intro vs ds ps h; obtain ⟨v, vs, d, ds, p, q, rfl, rfl, rfl, h1, h2⟩ := trodAll_cons h; simp [ih h2]
  rw [List.append_nil] at hwt hkk
  refine (law W base args ds before hval hA hz hkk hwt).mono fun e W' ⟨he, o, x⟩ => ⟨_, he, ?_⟩
  exact post_true (s := s.at F) hl hvars hrt htb hps hW (by rw [List.append_nil]; exact hspec ds (hlen hA)) o x
end

end Go.V
set_option linter.unusedVariables false
set_option linter.unusedSimpArgs false
/-! The acts, with what they weigh. -/
namespace Go.V.Yteojmnnobmpdiaa
open Go Go.V Go.V.Snap Go.ChangeShapes Go.WideShapes

section
variable {H : Type} {enc : TypeId × Value → H} {P : Program} {W : World}

/-- A row among the arguments, and its elements' readings. -/
theorem open_arrB {α : Type} {sz : Nat} {f : α → List Lf} {Q : α → DataW H → Prop} {t e : TypeId} {base : Nat} {v : Value} {d : DataW H} {p : List MemPlace} (ht : P.underlying t = some (.slice e)) (hsz : P.cellsOf e = sz) (hf : Sized sz f)
    (hel : ∀ n cs y, cs.length = sz → DataW.trod enc P W 0 (fun _ => true) true n e cs = some y → ∃ x : α, cs = (f x).map Lf.val ∧ Q x y.1)
    (hval : Value.okWide P W .any base t v) (h : DataW.Trod enc P W 0 (fun _ => true) true t v d p) :
    ∃ s l D, v = (Lf.slc s).val ∧ Arr sz f W.heap s l ∧ (∀ i x, l[i]? = some x → Q x (D i)) ∧ (l = [] ∨ ∃ rest, d = .slice ((List.range l.length).map D) rest) := by
  have hspot : ∀ a len cap, v = .slice (some a) len cap → a.spot = none := by
    rintro a len cap rfl
    simp only [Value.okWide, ht, Cell.okWide, Cell.ok] at hval
    exact hval.2.2.2.1
  obtain ⟨fuel, hf'⟩ := h
  have hone : ∃ a len cap, v = .slice a len cap := by
    simp only [Value.okWide, ht, Cell.okWide] at hval
    unfold Cell.ok at hval
    rw [ht] at hval
    split at hval <;> first | exact ⟨_, _, _, rfl⟩ | simp_all
  obtain ⟨a, len, cap, rfl⟩ := hone
  have hcs : (Value.slice a len cap).cells.toList = [.slice a len cap] := rfl
  rw [hcs] at hf'
  rcases Deep.open_slice ht hf' with ⟨h1, _⟩ | ⟨a', len', cap', m, n, D, Pl, h1, hb, hl, hm, hmm, hd, hx⟩
  · simp only [List.cons.injEq, Value.slice.injEq, and_true] at h1
    obtain ⟨rfl, rfl, rfl⟩ := h1
    exact ⟨⟨none, 0, 0⟩, [], fun _ => .nil, rfl, Arr.nil _ _ _ _, by simp, .inl rfl⟩
  · simp only [List.cons.injEq, Value.slice.injEq, and_true] at h1
    obtain ⟨rfl, rfl, rfl⟩ := h1
    obtain ⟨b, off, spot⟩ := a'
    have hs : spot = none := hspot _ _ _ rfl
    subst hs
    simp only [if_true] at hmm
    have hel' : ∀ i, i < len → ∃ x : α, cellsAt W.heap b (off + i * sz) (f x) ∧ Q x (D i) := by
      intro i hi
      obtain ⟨cs, h2, h3⟩ := hx i (by omega)
      rw [hsz] at h2
      obtain ⟨x, rfl, hq⟩ := hel n cs _ (World.cells?_some h2).2.1 h3
      refine ⟨x, cells_cellsAt (base := 0) (n := sz) (hf x).symm ?_, hq⟩
      have he : (⟨b, off, none⟩ : Addr).add (i * sz) = ⟨b, off + i * sz, none⟩ := by
        unfold Addr.add
        split
        · rename_i h0; rw [h0]; rfl
        · rfl
      rw [he] at h2
      exact h2
    obtain ⟨l, hll, hlp⟩ := list_of len hel'
    refine ⟨⟨some (b, off), len, cap⟩, l, D, rfl, ⟨hll.symm, fun _ => ⟨b, off, rfl⟩, fun b' off' hb' i x hix => ?_, fun _ => rfl⟩, fun i x hx => (hlp i x hx).2, .inr ⟨(List.range (m - len)).map fun j => D (len + j), ?_⟩⟩
    · simp only [Option.some.injEq, Prod.mk.injEq] at hb'
      obtain ⟨rfl, rfl⟩ := hb'
      exact (hlp i x hix).1
    · have hd' : d = .slice ((List.range len).map D) ((List.range (m - len)).map fun j => D (len + j)) := congrArg Prod.fst hd
      rw [hd', hll]
end

end Go.V.Yteojmnnobmpdiaa
set_option linter.unusedVariables false
set_option linter.unusedSimpArgs false
/-! The acts of snaps, and their bulk. -/
namespace Go.V.Yteojmnnobmpdiaa
open Go Go.V Go.V.Snap Go.ChangeShapes Go.WideShapes Go.Proofs.Yteojmnnobmpdiaa.Rows

theorem bulk_pos {H : Type} (d : DataW H) : 1 ≤ uptoBulk d := by
  cases d with
  | lit l => cases l <;> simp [uptoBulk]
  | _ => simp [uptoBulk]

theorem bulkAll_len {H : Type} : ∀ l : List (DataW H), l.length ≤ uptoBulkAll l
  | [] => by simp [uptoBulkAll]
  | d :: l => by
    have h1 := bulk_pos d
    have h2 := bulkAll_len l
    simp only [List.length_cons, uptoBulkAll]
    omega

theorem bulkAll_sum {H : Type} : ∀ l : List (DataW H), uptoBulkAll l = (l.map uptoBulk).sum
  | [] => by simp [uptoBulkAll]
  | d :: l => by simp [uptoBulkAll, bulkAll_sum l]

section
variable {H : Type} {enc : TypeId × Value → H} {W : World}

theorem trod_struct4x {P : Program} {w : World} {base : Nat} {spare : Nat → Bool} {held : Bool} {t : TypeId} {f0 f1 f2 f3 : Field} {fuel : Nat} {cs : List Value} {x : DataW H × List MemPlace} (ht : P.underlying t = some (.struct #[f0, f1, f2, f3])) (h : DataW.trod enc P w base spare held fuel t cs = some x) :
    ∃ y0 y1 y2 y3 n, x.1 = .agg [y0.1, y1.1, y2.1, y3.1] ∧ DataW.trod enc P w base spare held n f0.type ((cs.drop f0.offset).take (P.cellsOf f0.type)) = some y0 ∧
      DataW.trod enc P w base spare held n f1.type ((cs.drop f1.offset).take (P.cellsOf f1.type)) = some y1 ∧ DataW.trod enc P w base spare held n f2.type ((cs.drop f2.offset).take (P.cellsOf f2.type)) = some y2 ∧
      DataW.trod enc P w base spare held n f3.type ((cs.drop f3.offset).take (P.cellsOf f3.type)) = some y3 := by
  obtain ⟨xs, n, _, rfl, hl, hlen, hf⟩ := DataW.trod_struct ht h
  match xs, hlen with
  | [y0, y1, y2, y3], _ => exact ⟨y0, y1, y2, y3, n, rfl, by simpa using hf 0 f0 rfl, by simpa using hf 1 f1 rfl, by simpa using hf 2 f2 rfl, by simpa using hf 3 f3 rfl⟩

theorem slc_bulk {P : Program} {t e : TypeId} {fuel : Nat} {s : Slc} {y : DataW H × List MemPlace} (ht : P.underlying t = some (.slice e)) (h : DataW.trod enc P W 0 (fun _ => true) true fuel t [(Lf.slc s).val] = some y) : s.len ≤ uptoBulk y.1 := by
  rcases Deep.open_slice ht h with ⟨h1, _⟩ | ⟨a', len, cap, m, n, D, Pl, h1, hb, hl, hm, hmm, hd, hx⟩
  · simp only [Lf.val, List.cons.injEq, Value.slice.injEq, and_true] at h1
    omega
  · simp only [Lf.val, List.cons.injEq, Value.slice.injEq, and_true] at h1
    rw [hd]
    simp only [uptoBulk]
    have := bulkAll_len ((List.range len).map D)
    rw [List.length_map, List.length_range] at this
    omega

end

end Go.V.Yteojmnnobmpdiaa
set_option linter.unusedVariables false
set_option linter.unusedSimpArgs false
/-! SnapsRefs, of all inputs of some bulk. -/
namespace Go.V.Yteojmnnobmpdiaa
open Go Go.V Go.V.Snap Go.ChangeShapes Go.WideShapes Go.Proofs.Yteojmnnobmpdiaa.Rows

section
variable {H : Type} {enc : TypeId × Value → H} {W : World}

set_option maxRecDepth 100000 in
theorem snap_openB {n : Nat} {cs : List Value} {y : DataW H × List MemPlace} (hl : cs.length = 4) (h : DataW.trod enc Go.Proofs.Try.prog W 0 (fun _ => true) true n 79 cs = some y) :
    ∃ r : SAct, cs = (aF r).map Lf.val ∧ ((r.hand ≤ 9223372036854775807 ∧ 0 ≤ r.seq) ∧ ∃ L : List Int, Arr 1 uF W.heap r.files L ∧ L.length ≤ uptoBulk y.1) := by
  obtain ⟨y0, y1, y2, y3, m, hy, h0, h1, h2, h3⟩ := trod_struct4x Go.Proofs.Try.underlying79 h
  obtain ⟨c0, c1, c2, c3, rfl⟩ : ∃ c0 c1 c2 c3, cs = [c0, c1, c2, c3] := by
    match cs, hl with
    | [c0, c1, c2, c3], _ => exact ⟨c0, c1, c2, c3, rfl⟩
  simp only [k22.1, k22.2.1, k22.2.2] at h0 h1 h2 h3
  obtain ⟨x0, e0, _, w0⟩ := DataW.trod_int Go.Proofs.Try.underlying3 h0
  obtain ⟨x1, e1, _, w1⟩ := DataW.trod_int Go.Proofs.Try.underlying3 h1
  obtain ⟨x2, e2, _, w2⟩ := DataW.trod_int Go.Proofs.Try.underlying22 h2
  simp only [List.drop_succ_cons, List.drop_zero, List.take_succ_cons, List.take_zero, List.cons.injEq, and_true] at e0 e1 e2 h3
  obtain ⟨s, L, rfl, a, q, ln, _⟩ := open_slc (f := uF) (Q := fun x => 0 ≤ x ∧ x ≤ 18446744073709551615) Go.Proofs.Try.underlying77 k22.2.2 (by omega) uF_sized (fun n cs y hl hy => u64_open hl hy) h3
  have hb := slc_bulk (s := s) Go.Proofs.Try.underlying77 h3
  subst e0 e1 e2
  have w1' := wf_int w1
  have w2' := wf_int w2
  refine ⟨⟨x0, x1, x2, s⟩, rfl, ⟨w1'.2, w2'.1⟩, L, a, ?_⟩
  rw [hy]
  have := a.len
  simp only [uptoBulk, uptoBulkAll]
  have e : s.len = L.length := this
  omega

set_option maxRecDepth 100000 in
theorem snaps_openB {base : Nat} {v : Value} {d : DataW H} {p : List MemPlace} (hval : Value.okWide Go.Proofs.Try.prog W .any base 69 v) (h : DataW.Trod enc Go.Proofs.Try.prog W 0 (fun _ => true) true 69 v d p) (hb : uptoSmall H [d] = true) :
    ∃ (s : Slc) (l : List SAct) (Ls : List (List Int)), v = (Lf.slc s).val ∧ Arr 4 aF W.heap s l ∧ (∀ x ∈ l, x.hand ≤ 9223372036854775807 ∧ 0 ≤ x.seq) ∧ l.length ≤ 1048576 ∧ Ls.length = l.length ∧ (∀ (i : Nat) x L, l[i]? = some x → Ls[i]? = some L → Arr 1 uF W.heap x.files L) ∧ (Ls.map List.length).sum ≤ 1048576 := by
  obtain ⟨s, l, D, h1, h2, h3, h5⟩ := open_arrB (Q := fun r d => (r.hand ≤ 9223372036854775807 ∧ 0 ≤ r.seq) ∧ ∃ L : List Int, Arr 1 uF W.heap r.files L ∧ L.length ≤ uptoBulk d) Go.Proofs.Try.underlying69 (by kernel_rfl) aF_sized (fun n cs y hl hy => snap_openB hl hy) hval h
  obtain ⟨Ls, hLs, hL⟩ := list_of (p := fun i (L : List Int) => ∃ x, l[i]? = some x ∧ Arr 1 uF W.heap x.files L ∧ L.length ≤ uptoBulk (D i)) l.length fun i hi => by
    obtain ⟨_, L, a, b⟩ := h3 i l[i] (by simp [hi])
    exact ⟨L, l[i], by simp [hi], a, b⟩
  have hsum : ∀ n, n ≤ Ls.length → ((Ls.take n).map List.length).sum ≤ (((List.range n).map D).map uptoBulk).sum := by
    intro n
    induction n with
    | zero => simp
    | succ n ih =>
      intro hn
      obtain ⟨x, _, _, hx⟩ := hL n Ls[n] (by simp [show n < Ls.length by omega])
      have := ih (by omega)
      rw [sum_take (by omega), List.range_succ, List.map_append, List.map_append, List.sum_append]
      simp only [List.map_cons, List.map_nil, List.sum_cons, List.sum_nil, Nat.add_zero]
      omega
  have hs := hsum Ls.length (Nat.le_refl _)
  rw [List.take_length] at hs
  have hbulk : (Ls.map List.length).sum ≤ 1048576 ∧ l.length ≤ 1048576 := by
    rcases h5 with rfl | ⟨rest, rfl⟩
    · have : Ls = [] := List.length_eq_zero_iff.1 hLs
      subst this
      simp
    · have hb' := of_decide_eq_true hb
      simp only [uptoBulkAll, uptoBulk] at hb'
      have h6 := bulkAll_sum ((List.range l.length).map D)
      have h7 := bulkAll_len ((List.range l.length).map D)
      rw [List.length_map, List.length_range] at h7
      rw [hLs] at hs
      omega
  refine ⟨s, l, Ls, h1, h2, fun x hx => ?_, hbulk.2, hLs, fun i x L hx hL' => ?_, hbulk.1⟩
  · obtain ⟨i, hi, rfl⟩ := List.mem_iff_getElem.1 hx
    exact (h3 i _ (by simp [hi])).1
  · obtain ⟨x', hx', a, _⟩ := hL i L hL'
    rw [hx] at hx'
    cases hx'
    exact a
end

set_option maxRecDepth 100000 in
theorem snapsRefs_lifted (os : Os) (started : os.Started) (H : Type) (enc : TypeId × Value → H) (F0 : Stop.Interp) :
    ReturnsInHanded {} Go.Proofs.Try.checked os 8 .any ((OpenSpec.upto snapsRefsSpec).pre6 enc Go.Proofs.Try.prog Go.Proofs.Try.f8 snapsRefsUptoRow.domain false)
      (((OpenSpec.upto snapsRefsSpec).at F0).post enc Go.Proofs.Try.prog Go.Proofs.Try.f8 false true false false) := by
  refine liftC (C := Go.Proofs.Try.checked) (k := uptoSmall) rfl (tb := 4) own22 started (by kernel_rfl) Go.Proofs.Try.func8
    (OpenSpec.witness (enc := enc) (C := Go.Proofs.Try.checked) (s := OpenSpec.upto snapsRefsSpec) (k := uptoSmall) rfl false ⟨#[], #[.slice none 0 0], []⟩ 8 (by kernel_rfl) (by kernel_rfl) (by kernel_rfl)
      (x := ([.nil], [], [])) (by kernel_rfl) (by kernel_rfl) (by kernel_rfl))
    laid22 rfl (by kernel_rfl) (by kernel_rfl) (by kernel_rfl) ?_ ?_
  · intro ds hds
    rw [Go.Proofs.Try.params8] at hds
    match ds, hds with
    | [d1], _ => rfl
  · intro W base args ds p hval hA hz hk _
    rw [Go.Proofs.Try.params8] at hA hval
    obtain ⟨v0, d0, p0, rfl, rfl, h0⟩ : ∃ v0 d0 p0, args = #[v0] ∧ ds = [d0] ∧ DataW.Trod enc Go.Proofs.Try.prog W 0 (fun _ => true) true 69 v0 d0 p0 := by
      obtain ⟨v, vs, d, ds', p, q, hv, rfl, _, h1, h2⟩ := trodAll_cons hA
      obtain ⟨rfl, rfl, _⟩ := trodAll_nil h2
      exact ⟨v, d, p, Array.toList_inj.1 hv, rfl, h1⟩
    obtain ⟨s1, l1, Ls, rfl, a1, o1, n1, hLs, hfl, ht⟩ := snaps_openB (hval 0 69 v0 rfl rfl) h0 hk
    exact Call.calls (args := [.lf (.slc s1)]) rfl (c8 a1 (by omega) o1 hLs hfl ht fun h' e => ⟨rfl, e⟩)

theorem snapsRefs_holds : SnapsRefsUptoSaid :=
  OpenClaim.holds_of_cond 8 Go.Proofs.Try.f8 rfl rfl rfl rfl rfl rfl rfl ⟨rfl, rfl, rfl, rfl, rfl⟩ rfl rfl rfl rfl rfl (by kernel_rfl) Go.Proofs.Try.func8 (by kernel_rfl)
    (of_decide_eq_true (by kernel_rfl)) (by unfold Func.isWrapper; first | (rw [if_pos (by decide +kernel)]; kernel_rfl) | (rw [if_neg (by decide +kernel)]; exact ⟨rfl, rfl⟩))
    (fun os started H enc _ F0 => snapsRefs_lifted os started H enc F0)

end Go.V.Yteojmnnobmpdiaa
