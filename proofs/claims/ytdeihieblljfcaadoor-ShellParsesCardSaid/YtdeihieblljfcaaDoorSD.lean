/- This text proves a part of the laws of seat YtdeihieblljfcaaDoor, under no condition: VTop VTopX VTopXS. -/
import Derived.Test.YtdeihieblljfcaaDoorSC
import Derived.ProofKit
import Derived.Deep.Slices
import Derived.Lib.SmallJoins
import Derived.Handed
import Derived.HandedShaped
set_option linter.unusedVariables false
set_option linter.unusedSimpArgs false
/-! From what is read of the arguments to rows of elements; from a call's end to the row's. -/
namespace Go.V
open Go.ChangeShapes Go.WideShapes

theorem cells_cellsAt {w : World} {base b off : Nat} {n : Nat} {xs : List Lf} (hn : n = xs.length) (h : w.cells? base ⟨b, off, none⟩ n = some (xs.map Lf.val)) : cellsAt w.heap b off xs := by
  subst hn
  obtain ⟨_, _, hc⟩ := World.cells?_some h
  have key : ∀ (l : List Lf) (k : Nat), (∀ i x, l[i]? = some x → w.cell? ⟨b, off + (k + i), none⟩ = some x.val) → cellsAt w.heap b (off + k) l := by
    intro l
    induction l with
    | nil => intro k _; exact trivial
    | cons x l ih =>
      intro k hk
      refine ⟨?_, ?_⟩
      · have := hk 0 x rfl
        unfold World.cell? at this
        simp only [Nat.add_zero] at this
        split at this
        · rename_i c e fz hb
          exact ⟨c, e, fz, hb, by simpa using this⟩
        · cases this
      · have := ih (k + 1) fun i y hy => by
          have := hk (i + 1) y (by simpa using hy)
          rwa [show k + (i + 1) = k + 1 + i by omega] at this
        exact this
  have := key xs 0 fun i x hx => by
    have hi : i < xs.length := by
      rcases Nat.lt_or_ge i xs.length with h' | h'
      · exact h'
      · rw [List.getElem?_eq_none h'] at hx; cases hx
    have := hc i hi
    rw [List.getElem?_map, hx] at this
    rw [Nat.zero_add]
    refine Eq.trans ?_ this
    congr 1
    unfold Addr.add
    split
    · rename_i h0; subst h0; rfl
    · rfl
  simpa using this

theorem list_of {α : Type} {p : Nat → α → Prop} : ∀ n : Nat, (∀ i, i < n → ∃ x, p i x) → ∃ l : List α, l.length = n ∧ ∀ i x, l[i]? = some x → p i x
  | 0, _ => ⟨[], rfl, fun i x h => by simp at h⟩
  | n + 1, h => by
    obtain ⟨l, hl, hp⟩ := list_of n fun i hi => h i (by omega)
    obtain ⟨x, hx⟩ := h n (by omega)
    refine ⟨l ++ [x], by simp [hl], fun i y hy => ?_⟩
    rw [List.getElem?_append] at hy
    split at hy
    · exact hp i y hy
    · rename_i hi
      rw [List.getElem?_singleton] at hy
      split at hy
      · rename_i h0
        have : i = n := by omega
        subst this
        cases hy; exact hx
      · cases hy

section
variable {H : Type} {enc : TypeId × Value → H} {P : Program} {W : World}

/-- A slice among the arguments is a row. -/
theorem open_arr {α : Type} {sz : Nat} {f : α → List Lf} {Q : α → Prop} {t e : TypeId} {base : Nat} {v : Value} {d : DataW H} {p : List MemPlace} (ht : P.underlying t = some (.slice e)) (hsz : P.cellsOf e = sz) (hf : Sized sz f)
    (hel : ∀ n cs y, cs.length = sz → DataW.trod enc P W 0 (fun _ => true) true n e cs = some y → ∃ x : α, cs = (f x).map Lf.val ∧ Q x)
    (hval : Value.okWide P W .any base t v) (h : DataW.Trod enc P W 0 (fun _ => true) true t v d p) :
    ∃ s l, v = (Lf.slc s).val ∧ Arr sz f W.heap s l ∧ (∀ x ∈ l, Q x) ∧ l.length ≤ 9223372036854775807 := by
  have hspot : ∀ a len cap, v = .slice (some a) len cap → a.spot = none := by
    rintro a len cap rfl
    simp only [Value.okWide, ht, Cell.okWide, Cell.ok] at hval
    exact hval.2.2.2.1
  obtain ⟨fuel, hf'⟩ := h
  have hone : ∃ a len cap, v = .slice a len cap := by
    simp only [Value.okWide, ht, Cell.okWide] at hval
    unfold Cell.ok at hval
    rw [ht] at hval
    split at hval <;> first | exact ⟨_, _, _, rfl⟩ | simp_all
  obtain ⟨a, len, cap, rfl⟩ := hone
  have hcs : (Value.slice a len cap).cells.toList = [.slice a len cap] := rfl
  rw [hcs] at hf'
  rcases Deep.open_slice ht hf' with ⟨h1, _⟩ | ⟨a', len', cap', m, n, D, Pl, h1, hb, hl, hm, hmm, _, hx⟩
  · simp only [List.cons.injEq, Value.slice.injEq, and_true] at h1
    obtain ⟨rfl, rfl, rfl⟩ := h1
    exact ⟨⟨none, 0, 0⟩, [], rfl, Arr.nil _ _ _ _, by simp, by simp⟩
  · simp only [List.cons.injEq, Value.slice.injEq, and_true] at h1
    obtain ⟨rfl, rfl, rfl⟩ := h1
    obtain ⟨b, off, spot⟩ := a'
    have hs : spot = none := hspot _ _ _ rfl
    subst hs
    simp only [if_true] at hmm
    have hel' : ∀ i, i < len → ∃ x : α, cellsAt W.heap b (off + i * sz) (f x) ∧ Q x := by
      intro i hi
      obtain ⟨cs, h2, h3⟩ := hx i (by omega)
      rw [hsz] at h2
      obtain ⟨x, rfl, hq⟩ := hel n cs _ (World.cells?_some h2).2.1 h3
      refine ⟨x, cells_cellsAt (base := 0) (n := sz) (hf x).symm ?_, hq⟩
      have he : (⟨b, off, none⟩ : Addr).add (i * sz) = ⟨b, off + i * sz, none⟩ := by
        unfold Addr.add
        split
        · rename_i h0; rw [h0]; rfl
        · rfl
      rw [he] at h2
      exact h2
    obtain ⟨l, hll, hlp⟩ := list_of len hel'
    have hmax : maxLen = 9223372036854775807 := by decide
    refine ⟨⟨some (b, off), len, cap⟩, l, rfl, ⟨hll.symm, fun _ => ⟨b, off, rfl⟩, fun b' off' hb' i x hix => ?_, fun _ => rfl⟩, fun x hx => ?_, by omega⟩
    · simp only [Option.some.injEq, Prod.mk.injEq] at hb'
      obtain ⟨rfl, rfl⟩ := hb'
      exact (hlp i x hix).1
    · obtain ⟨i, hi⟩ := List.mem_iff_getElem?.1 hx
      exact (hlp i x hi).2

/-- The same, and what the row weighs. -/
theorem open_arrW {α : Type} {sz : Nat} {f : α → List Lf} {Q : α → Prop} {t e : TypeId} {base : Nat} {v : Value} {d : DataW H} {p : List MemPlace} (ht : P.underlying t = some (.slice e)) (hsz : P.cellsOf e = sz) (hf : Sized sz f)
    (hel : ∀ n cs y, cs.length = sz → DataW.trod enc P W 0 (fun _ => true) true n e cs = some y → ∃ x : α, cs = (f x).map Lf.val ∧ Q x)
    (hval : Value.okWide P W .any base t v) (h : DataW.Trod enc P W 0 (fun _ => true) true t v d p) :
    ∃ s l, v = (Lf.slc s).val ∧ Arr sz f W.heap s l ∧ (∀ x ∈ l, Q x) ∧ l.length ≤ 9223372036854775807 ∧ (l = [] ∨ ∃ k, (l.length + k) * P.bytesOf e ∈ d.weights P t) := by
  have hspot : ∀ a len cap, v = .slice (some a) len cap → a.spot = none := by
    rintro a len cap rfl
    simp only [Value.okWide, ht, Cell.okWide, Cell.ok] at hval
    exact hval.2.2.2.1
  obtain ⟨fuel, hf'⟩ := h
  have hone : ∃ a len cap, v = .slice a len cap := by
    simp only [Value.okWide, ht, Cell.okWide] at hval
    unfold Cell.ok at hval
    rw [ht] at hval
    split at hval <;> first | exact ⟨_, _, _, rfl⟩ | simp_all
  obtain ⟨a, len, cap, rfl⟩ := hone
  have hcs : (Value.slice a len cap).cells.toList = [.slice a len cap] := rfl
  rw [hcs] at hf'
  rcases Deep.open_slice ht hf' with ⟨h1, _⟩ | ⟨a', len', cap', m, n, D, Pl, h1, hb, hl, hm, hmm, hd, hx⟩
  · simp only [List.cons.injEq, Value.slice.injEq, and_true] at h1
    obtain ⟨rfl, rfl, rfl⟩ := h1
    exact ⟨⟨none, 0, 0⟩, [], rfl, Arr.nil _ _ _ _, by simp, by simp, .inl rfl⟩
  · simp only [List.cons.injEq, Value.slice.injEq, and_true] at h1
    obtain ⟨rfl, rfl, rfl⟩ := h1
    obtain ⟨b, off, spot⟩ := a'
    have hs : spot = none := hspot _ _ _ rfl
    subst hs
    simp only [if_true] at hmm
    have hel' : ∀ i, i < len → ∃ x : α, cellsAt W.heap b (off + i * sz) (f x) ∧ Q x := by
      intro i hi
      obtain ⟨cs, h2, h3⟩ := hx i (by omega)
      rw [hsz] at h2
      obtain ⟨x, rfl, hq⟩ := hel n cs _ (World.cells?_some h2).2.1 h3
      refine ⟨x, cells_cellsAt (base := 0) (n := sz) (hf x).symm ?_, hq⟩
      have he : (⟨b, off, none⟩ : Addr).add (i * sz) = ⟨b, off + i * sz, none⟩ := by
        unfold Addr.add
        split
        · rename_i h0; rw [h0]; rfl
        · rfl
      rw [he] at h2
      exact h2
    obtain ⟨l, hll, hlp⟩ := list_of len hel'
    have hmax : maxLen = 9223372036854775807 := by decide
    refine ⟨⟨some (b, off), len, cap⟩, l, rfl, ⟨hll.symm, fun _ => ⟨b, off, rfl⟩, fun b' off' hb' i x hix => ?_, fun _ => rfl⟩, fun x hx => ?_, by omega, .inr ⟨m - len, ?_⟩⟩
    · simp only [Option.some.injEq, Prod.mk.injEq] at hb'
      obtain ⟨rfl, rfl⟩ := hb'
      exact (hlp i x hix).1
    · obtain ⟨i, hi⟩ := List.mem_iff_getElem?.1 hx
      exact (hlp i x hi).2
    · have hd' : d = .slice ((List.range len).map D) ((List.range (m - len)).map fun j => D (len + j)) := congrArg Prod.fst hd
      subst hd'
      unfold DataW.weights
      rw [ht]
      simp [hll]

theorem cells?_spot {W : World} {base b off n : Nat} {q : Nat} {cs : List Value} (hn : 0 < n) (h : W.cells? base ⟨b, off, some q⟩ n = some cs) : False := by
  obtain ⟨h1, h2, h3⟩ := World.cells?_some h
  have h0 := h3 0 (by omega)
  have : W.cell? ((⟨b, off, some q⟩ : Addr).add 0) = none := by
    simp only [Addr.add, World.cell?]
    split <;> simp
  simp_all

/-- A slice in a cell: a slice without room may bear a spot. -/
theorem open_slc {α : Type} {sz : Nat} {f : α → List Lf} {Q : α → Prop} {t e : TypeId} {fuel : Nat} {v : Value} {y : DataW H × List MemPlace} (ht : P.underlying t = some (.slice e)) (hsz : P.cellsOf e = sz) (hsz0 : 0 < sz) (hf : Sized sz f)
    (hel : ∀ n cs y, cs.length = sz → DataW.trod enc P W 0 (fun _ => true) true n e cs = some y → ∃ x : α, cs = (f x).map Lf.val ∧ Q x)
    (h : DataW.trod enc P W 0 (fun _ => true) true fuel t [v] = some y) :
    ∃ s l, v = (Lf.slc s).val ∧ Arr sz f W.heap s l ∧ (∀ x ∈ l, Q x) ∧ l.length ≤ 9223372036854775807 ∧ (l = [] ∨ ∃ k, (l.length + k) * P.bytesOf e ∈ y.1.weights P t) := by
  rcases Deep.open_slice ht h with ⟨h1, _⟩ | ⟨a', len, cap, m, n, D, Pl, h1, hb, hl, hm, hmm, hd, hx⟩
  · simp only [List.cons.injEq, and_true] at h1
    subst h1
    exact ⟨⟨none, 0, 0⟩, [], rfl, Arr.nil _ _ _ _, by simp, by simp, .inl rfl⟩
  · simp only [List.cons.injEq, and_true] at h1
    subst h1
    obtain ⟨b, off, spot⟩ := a'
    simp only [if_true] at hmm
    subst hmm
    have hmax : maxLen = 9223372036854775807 := by decide
    cases spot with
    | some q =>
      have hc : m = 0 := by
        cases m with
        | zero => rfl
        | succ m =>
          exfalso
          obtain ⟨cs, h2, _⟩ := hx 0 (by omega)
          rw [hsz, Nat.zero_mul] at h2
          have : (⟨b, off, some q⟩ : Addr).add 0 = ⟨b, off, some q⟩ := rfl
          rw [this] at h2
          exact cells?_spot hsz0 h2
      subst hc
      have hl0 : len = 0 := by omega
      subst hl0
      exact ⟨@Slc.mk ⟨some q⟩ (some (b, off)) 0 0, [], rfl, ⟨rfl, fun h => absurd rfl h, fun _ _ _ i x hx => by simp at hx, fun h => absurd rfl h⟩, by simp, by simp, .inl rfl⟩
    | none =>
      have hel' : ∀ i, i < len → ∃ x : α, cellsAt W.heap b (off + i * sz) (f x) ∧ Q x := by
        intro i hi
        obtain ⟨cs, h2, h3⟩ := hx i (by omega)
        rw [hsz] at h2
        obtain ⟨x, rfl, hq⟩ := hel n cs _ (World.cells?_some h2).2.1 h3
        refine ⟨x, cells_cellsAt (base := 0) (n := sz) (hf x).symm ?_, hq⟩
        have he : (⟨b, off, none⟩ : Addr).add (i * sz) = ⟨b, off + i * sz, none⟩ := by
          unfold Addr.add
          split
          · rename_i h0; rw [h0]; rfl
          · rfl
        rw [he] at h2
        exact h2
      obtain ⟨l, hll, hlp⟩ := list_of len hel'
      refine ⟨⟨some (b, off), len, m⟩, l, rfl, ⟨hll.symm, fun _ => ⟨b, off, rfl⟩, fun b' off' hb' i x hix => ?_, fun _ => rfl⟩, fun x hx => ?_, by omega, .inr ⟨m - len, ?_⟩⟩
      · simp only [Option.some.injEq, Prod.mk.injEq] at hb'
        obtain ⟨rfl, rfl⟩ := hb'
        exact (hlp i x hix).1
      · obtain ⟨i, hi⟩ := List.mem_iff_getElem?.1 hx
        exact (hlp i x hi).2
      · rw [hd]
        unfold DataW.weights
        rw [ht]
        simp [hll]

theorem wf_int {k : IntKind} {n : Int} (h : (Lit.int k n).wf = true) : k.min ≤ n ∧ n ≤ k.max := by
  simpa [Lit.wf, Bool.and_eq_true, decide_eq_true_eq] using h

/-- A number among the arguments. -/
theorem open_int {k : IntKind} {t : TypeId} {base : Nat} {v : Value} {d : DataW H} {p : List MemPlace} (ht : P.underlying t = some (.int k)) (hval : Value.okWide P W .any base t v) (h : DataW.Trod enc P W 0 (fun _ => true) true t v d p) :
    ∃ n, v = (Lf.int k n).val ∧ k.min ≤ n ∧ n ≤ k.max := by
  have hone : ∃ k' n, v = .int k' n := by
    simp only [Value.okWide, ht, Cell.okWide] at hval
    unfold Cell.ok at hval
    rw [ht] at hval
    split at hval <;> first | exact ⟨_, _, rfl⟩ | simp_all
  obtain ⟨k', n, rfl⟩ := hone
  obtain ⟨fuel, h⟩ := h
  have hcs : (Value.int k' n).cells.toList = [.int k' n] := rfl
  rw [hcs] at h
  obtain ⟨m, e, _, w⟩ := DataW.trod_int ht h
  simp only [List.cons.injEq, Value.int.injEq, and_true] at e
  obtain ⟨rfl, rfl⟩ := e
  exact ⟨n, rfl, wf_int w⟩
/-- A text among the arguments. -/
theorem open_str {t : TypeId} {base : Nat} {v : Value} {d : DataW H} {p : List MemPlace} (ht : P.underlying t = some .string) (hval : Value.okWide P W .any base t v) (h : DataW.Trod enc P W 0 (fun _ => true) true t v d p) :
    ∃ s, v = (Lf.str s).val ∧ s.size ≤ 9223372036854775807 := by
  have hone : ∃ s, v = .string s := by
    simp only [Value.okWide, ht, Cell.okWide] at hval
    unfold Cell.ok at hval
    rw [ht] at hval
    split at hval <;> first | exact ⟨_, rfl⟩ | simp_all
  obtain ⟨s, rfl⟩ := hone
  obtain ⟨fuel, h⟩ := h
  have hcs : (Value.string s).cells.toList = [.string s] := rfl
  rw [hcs] at h
  obtain ⟨m, e, _, w⟩ := DataW.trod_string ht h
  simp only [List.cons.injEq, Value.string.injEq, and_true] at e
  subst e
  have hmax : maxLen = 9223372036854775807 := by decide
  exact ⟨s, rfl, by omega⟩
theorem open_agg {t : TypeId} {fs : Array Field} {base : Nat} {v : Value} (ht : P.underlying t = some (.struct fs)) (hval : Value.okWide P W .any base t v) : ∃ cs, v = .agg cs := by
  unfold Value.okWide at hval
  rw [ht] at hval
  obtain ⟨cs, h, _⟩ := hval
  exact ⟨cs, h⟩

/-- What the call leaves, as the kit says it. -/
theorem below_of {W W' : World} (o : Out W W') (e : Ext0 W.heap W'.heap) : RowKit.Below W.heap.size W W' := ⟨o.os, o.tape, o.output, e.size, fun k hk => e.same k hk id⟩

theorem frozen_of {W W' : World} (e : Ext0 W.heap W'.heap) : True := trivial

end
end Go.V
namespace Go.V
open Go.ChangeShapes Go.WideShapes
section
variable {H : Type} {enc : TypeId × Value → H} {P : Program} {W : World}

theorem shut_bool {w : World} {base : Nat} {spare : Nat → Bool} {held : Bool} {t : TypeId} {b : Bool} (ht : P.underlying t = some .bool) : DataW.Trod enc P w base spare held t (.bool b) (.lit (.bool b)) [] := by
  refine ⟨1, ?_⟩
  have : (Value.bool b).cells.toList = [.bool b] := rfl
  rw [this]
  unfold DataW.trod
  rw [ht]

theorem trodAll_below (hl : laidOutB P = true) {W' : World} (hb : RowKit.Below W.heap.size W W') : ∀ {ts : List TypeId} {vs : List Value} {ds : List (DataW H)} {ps : List MemPlace},
    (ts.all fun t => P.readableRec t && decide (t < P.types.size)) = true → (∀ x ∈ ps, x.block < W.heap.size) → DataW.TrodAll enc P W 0 (fun _ => true) true ts vs ds ps →
    DataW.TrodAll enc P W' 0 (fun b => decide (b < W.heap.size)) true ts vs ds ps
  | [], _, _, _, _, _, h => by
    obtain ⟨rfl, rfl, rfl⟩ := trodAll_nil h
    exact rfl
  | t :: ts, _, _, _, ha, hlt, h => by
    obtain ⟨v, vs, d, ds, p, q, rfl, rfl, rfl, h1, h2⟩ := trodAll_cons h
    simp only [List.all_cons, Bool.and_eq_true, decide_eq_true_eq] at ha
    exact ⟨p, q, RowKit.Below.trod hl ha.1.1 ha.1.2 h1 hb fun x hx => hlt x (by simp [hx]), trodAll_below hl hb (by simpa using ha.2) (fun x hx => hlt x (by simp [hx])) h2, rfl⟩

/-- The law's end: it returned true, and nothing that was there has turned. -/
theorem post_true {f : Func} {s : ChangeSpec} {apart fresh handsOn : Bool} {W' : World} {args : Array Value} {ds gs : List (DataW H)} {before : List MemPlace} {tb : TypeId} (hl : laidOutB P = true)
    (hvars : s.vars = []) (hrt : f.resultTypes = #[tb]) (htb : P.underlying tb = some .bool) (hps : (f.params.toList.all fun t => P.readableRec t && decide (t < P.types.size)) = true)
    (hW : DataW.Whole enc P f.params.toList s.vars apart W args.toList ds gs before) (hfn : s.fn H (ds ++ gs) = { results := [.lit (.bool true)], args := ds })
    (o : Out W W') (e : Ext0 W.heap W'.heap) : s.post enc P f apart fresh handsOn false W args (.bool true) W' := by
  have hb := below_of o e
  have hlt := hW.lt
  obtain ⟨p, q, hA, hV, he, hz, hn⟩ := id hW
  have hq : gs = [] ∧ q = [] := by rw [hvars] at hV; exact trodVars_none hV
  obtain ⟨rfl, rfl⟩ := hq
  rw [List.append_nil] at he
  subst he
  refine ⟨ds, [], before, [], before, [], hW, ?_, ?_, ?_, hb.frame _, fun h => by cases h⟩
  · rw [hfn, hrt]
    exact trodAll_mk1 (shut_bool htb)
  · rw [hfn]
    exact trodAll_below hl hb hps hlt hA
  · rw [hvars, hfn]
    exact rfl

/-- The lifted law, from what its call does. -/
theorem lift {C : Checked} {os : Os} {f : FuncId} {fn : Func} {s : ChangeSpec} {conds : List PathCond} {apart fresh handsOn : Bool} {tb : TypeId}
    (own : ownKnob C.prog.godebug = none) (started : os.Started) (noInit : C.prog.inits.idxOf? f = none) (hfn : C.prog.funcs[f]? = some fn)
    (witness : ∃ (w : World) (tape : Tape) (i : Input), w.os = os ∧ (w.forCall tape i).Shaped C.prog ∧ i.vars = [] ∧ Input.okWide C.prog (w.forCall tape i) .any w.heap.size f i ∧
      s.pre6 enc C.prog fn conds apart (w.forCall tape i).memory i.args ∧ ({} : Assume).holds C.prog (lone (Frame.enter C.prog f i.args .normal) [] (w.forCall tape i)))
    (hl : laidOutB C.prog = true) (hvars : s.vars = []) (hrt : fn.resultTypes = #[tb]) (htb : C.prog.underlying tb = some .bool) (hps : (fn.params.toList.all fun t => C.prog.readableRec t && decide (t < C.prog.types.size)) = true)
    (hspec : ∀ (ds : List (DataW H)), ds.length = fn.params.toList.length → s.fn H ds = { results := [.lit (.bool true)], args := ds })
    (law : ∀ (W : World) (base : Nat) (args : Array Value) (ds : List (DataW H)) (p : List MemPlace),
      (∀ (j : Nat) t v, fn.params[j]? = some t → args[j]? = some v → Value.okWide C.prog W .any base t v) →
      DataW.TrodAll enc C.prog W 0 (fun _ => true) true fn.params.toList args.toList ds p → W.noneFrozen p →
      (DataW.weightsEach C.prog (fn.params.toList ++ s.plain.varTypes C.prog) ds).all (· ≤ reachBytes) = true →
      conds.all (PathCond.test C.prog ⟨fn.params.toList, ds, s.plain.varTypes C.prog, []⟩) = true →
      Calls C.prog f args W fun e W' => e = .returned (.bool true) ∧ Out W W' ∧ Ext0 W.heap W'.heap) :
    ReturnsInHanded {} C os f .any (s.pre6 enc C.prog fn conds apart) (s.post enc C.prog fn apart fresh handsOn false) := by
  refine returnsInHanded_of_change_sized own started noInit hfn witness ?_
  intro W base args ds gs before hval hW hcnd hwt _
  obtain ⟨p, q, hA, hV, he, hz, hn⟩ := id hW
  have hq : gs = [] ∧ q = [] := by rw [hvars] at hV; exact trodVars_none hV
  obtain ⟨rfl, rfl⟩ := hq
  rw [List.append_nil] at he
  subst he
  have hlen : ∀ {ts : List TypeId} {vs : List Value} {ds : List (DataW H)} {ps : List MemPlace}, DataW.TrodAll enc C.prog W 0 (fun _ => true) true ts vs ds ps → ds.length = ts.length := by
    intro ts
    induction ts with
    | nil => intro vs ds ps h; obtain ⟨rfl, rfl, rfl⟩ := trodAll_nil h; rfl
    | cons t ts ih => intro vs ds ps h; obtain ⟨v, vs, d, ds, p, q, rfl, rfl, rfl, h1, h2⟩ := trodAll_cons h; simp [ih h2]
  rw [List.append_nil] at hwt
  refine (law W base args ds before hval hA hz hwt hcnd).mono fun e W' ⟨he, o, x⟩ => ⟨_, he, ?_⟩
  exact post_true hl hvars hrt htb hps hW (by rw [List.append_nil]; exact hspec ds (hlen hA)) o x
end

/-- A call that answers true, as the row's lift wants it. -/
theorem Call.calls {P : Program} {f : FuncId} {args : List VV} {W : World} {vs : Array Value} (hv : vs = (args.map VV.val).toArray) (c : Call P f args W.heap [.one .bool] fun b h' => b = true ∧ Ext0 W.heap h') :
    Calls P f vs W fun e W' => e = .returned (.bool true) ∧ Out W W' ∧ Ext0 W.heap W'.heap := by
  subst hv
  refine (c W rfl).mono ?_
  rintro e W' ⟨o, b, he, ha⟩
  have hb : b = true ∧ Ext0 W.heap W'.heap := ha
  obtain ⟨rfl, hx⟩ := hb
  exact ⟨he, o, hx⟩

end Go.V
set_option linter.unusedVariables false
/-! The lift of a law whose row lists package variables ('laid'): a premise on the world more. -/
namespace Go.V
open Go.ChangeShapes Go.WideShapes
section
variable {H : Type} {enc : TypeId × Value → H}

theorem liftX {C : Checked} {os : Os} {f : FuncId} {fn : Func} {s : ChangeSpec} {conds : List PathCond} {apart fresh handsOn : Bool} {tb : TypeId} {X : World → Array Value → Prop}
    (hX : ∀ (w w' : World) (args : Array Value), w.heap = w'.heap → X w args → X w' args)
    (own : ownKnob C.prog.godebug = none) (started : os.Started) (noInit : C.prog.inits.idxOf? f = none) (hfn : C.prog.funcs[f]? = some fn)
    (witness : ∃ (w : World) (tape : Tape) (i : Input), w.os = os ∧ (w.forCall tape i).Shaped C.prog ∧ i.vars = [] ∧ Input.okWide C.prog (w.forCall tape i) .any w.heap.size f i ∧
      ((s.pre enc C.prog fn conds apart (w.forCall tape i).memory i.args ∧ X (w.forCall tape i).memory i.args) ∧ sizedMet enc C.prog fn (OpenSpec.ofChange s) apart (w.forCall tape i).memory i.args) ∧ ({} : Assume).holds C.prog (lone (Frame.enter C.prog f i.args .normal) [] (w.forCall tape i)))
    (hl : laidOutB C.prog = true) (hvars : s.vars = []) (hrt : fn.resultTypes = #[tb]) (htb : C.prog.underlying tb = some .bool) (hps : (fn.params.toList.all fun t => C.prog.readableRec t && decide (t < C.prog.types.size)) = true)
    (hspec : ∀ (ds : List (DataW H)), ds.length = fn.params.toList.length → s.fn H ds = { results := [.lit (.bool true)], args := ds })
    (law : ∀ (W : World) (base : Nat) (args : Array Value) (ds : List (DataW H)) (p : List MemPlace),
      (∀ (j : Nat) t v, fn.params[j]? = some t → args[j]? = some v → Value.okWide C.prog W .any base t v) →
      DataW.TrodAll enc C.prog W 0 (fun _ => true) true fn.params.toList args.toList ds p → W.noneFrozen p →
      (DataW.weightsEach C.prog (fn.params.toList ++ s.plain.varTypes C.prog) ds).all (· ≤ reachBytes) = true →
      conds.all (PathCond.test C.prog ⟨fn.params.toList, ds, s.plain.varTypes C.prog, []⟩) = true → X W args →
      Calls C.prog f args W fun e W' => e = .returned (.bool true) ∧ Out W W' ∧ Ext0 W.heap W'.heap) :
    ReturnsInHanded {} C os f .any (fun w args => (s.pre enc C.prog fn conds apart w args ∧ X w args) ∧ sizedMet enc C.prog fn (OpenSpec.ofChange s) apart w args) (s.post enc C.prog fn apart fresh handsOn false) := by
  refine returnsInHanded_of_change_and hX own started noInit hfn witness ?_
  intro W base args ds gs before hval hW hcnd hwt hx _
  obtain ⟨p, q, hA, hV, he, hz, hn⟩ := id hW
  have hq : gs = [] ∧ q = [] := by rw [hvars] at hV; exact trodVars_none hV
  obtain ⟨rfl, rfl⟩ := hq
  rw [List.append_nil] at he
  subst he
  have hlen : ∀ {ts : List TypeId} {vs : List Value} {ds : List (DataW H)} {ps : List MemPlace}, DataW.TrodAll enc C.prog W 0 (fun _ => true) true ts vs ds ps → ds.length = ts.length := by
    intro ts
    induction ts with
    | nil => intro vs ds ps h; obtain ⟨rfl, rfl, rfl⟩ := trodAll_nil h; rfl
    | cons t ts ih => intro vs ds ps h; obtain ⟨v, vs, d, ds, p, q, rfl, rfl, rfl, h1, h2⟩ := trodAll_cons h; simp [ih h2]
  rw [List.append_nil] at hwt
  refine (law W base args ds before hval hA hz hwt hcnd hx).mono fun e W' ⟨he, o, x⟩ => ⟨_, he, ?_⟩
  exact post_true hl hvars hrt htb hps hW (by rw [List.append_nil]; exact hspec ds (hlen hA)) o x
end
end Go.V
set_option linter.unusedVariables false
/-! The lift, with the world's shape at hand as well. -/
namespace Go.V
open Go.ChangeShapes Go.WideShapes
section
variable {H : Type} {enc : TypeId × Value → H}

theorem liftXS {C : Checked} {os : Os} {f : FuncId} {fn : Func} {s : ChangeSpec} {conds : List PathCond} {apart fresh handsOn : Bool} {tb : TypeId} {X : World → Array Value → Prop}
    (hX : ∀ (w w' : World) (args : Array Value), w.heap = w'.heap → X w args → X w' args)
    (own : ownKnob C.prog.godebug = none) (started : os.Started) (noInit : C.prog.inits.idxOf? f = none) (hfn : C.prog.funcs[f]? = some fn)
    (witness : ∃ (w : World) (tape : Tape) (i : Input), w.os = os ∧ (w.forCall tape i).Shaped C.prog ∧ i.vars = [] ∧ Input.okWide C.prog (w.forCall tape i) .any w.heap.size f i ∧
      ((s.pre enc C.prog fn conds apart (w.forCall tape i).memory i.args ∧ X (w.forCall tape i).memory i.args) ∧ sizedMet enc C.prog fn (OpenSpec.ofChange s) apart (w.forCall tape i).memory i.args) ∧ ({} : Assume).holds C.prog (lone (Frame.enter C.prog f i.args .normal) [] (w.forCall tape i)))
    (hl : laidOutB C.prog = true) (hvars : s.vars = []) (hrt : fn.resultTypes = #[tb]) (htb : C.prog.underlying tb = some .bool) (hps : (fn.params.toList.all fun t => C.prog.readableRec t && decide (t < C.prog.types.size)) = true)
    (hspec : ∀ (ds : List (DataW H)), ds.length = fn.params.toList.length → s.fn H ds = { results := [.lit (.bool true)], args := ds })
    (law : ∀ (W : World) (base : Nat) (args : Array Value) (ds : List (DataW H)) (p : List MemPlace),
      (∀ (j : Nat) t v, fn.params[j]? = some t → args[j]? = some v → Value.okWide C.prog W .any base t v) →
      DataW.TrodAll enc C.prog W 0 (fun _ => true) true fn.params.toList args.toList ds p → W.noneFrozen p →
      (DataW.weightsEach C.prog (fn.params.toList ++ s.plain.varTypes C.prog) ds).all (· ≤ reachBytes) = true →
      conds.all (PathCond.test C.prog ⟨fn.params.toList, ds, s.plain.varTypes C.prog, []⟩) = true → X W args → W.ShapedOpen C.prog →
      Calls C.prog f args W fun e W' => e = .returned (.bool true) ∧ Out W W' ∧ Ext0 W.heap W'.heap) :
    ReturnsInHanded {} C os f .any (fun w args => (s.pre enc C.prog fn conds apart w args ∧ X w args) ∧ sizedMet enc C.prog fn (OpenSpec.ofChange s) apart w args) (s.post enc C.prog fn apart fresh handsOn false) := by
  refine returnsInHanded_of_calls own started noInit witness ?_
  intro w tape i _ hsh _ hok hpre hholds
  obtain ⟨_, _, _, fn', hfn', _, _, _, _, hval⟩ := hok
  have e : fn' = fn := Option.some.inj (hfn'.symm.trans hfn)
  subst e
  obtain ⟨⟨⟨ds, gs, before, hw, hc⟩, hx⟩, hz⟩ := hpre
  have hW : DataW.Whole enc C.prog fn'.params.toList s.vars apart (w.forCall tape i) i.args.toList ds gs before := DataW.Whole.of_heap (w' := w.forCall tape i) (by rfl) hw
  have hwt := hz.weights hw
  have hx' := hX _ (w.forCall tape i) _ (by rfl) hx
  have key : Calls C.prog f i.args (w.forCall tape i) fun e W' => ∃ v, e = .returned v ∧ s.post enc C.prog fn' apart fresh handsOn false (w.forCall tape i) i.args v W' := by
    obtain ⟨p, q, hA, hV, he, hz', hn⟩ := id hW
    have hq : gs = [] ∧ q = [] := by rw [hvars] at hV; exact trodVars_none hV
    obtain ⟨rfl, rfl⟩ := hq
    rw [List.append_nil] at he
    subst he
    have hlen : ∀ {ts : List TypeId} {vs : List Value} {ds : List (DataW H)} {ps : List MemPlace}, DataW.TrodAll enc C.prog (w.forCall tape i) 0 (fun _ => true) true ts vs ds ps → ds.length = ts.length := by
      intro ts
      induction ts with
      | nil => intro vs ds ps h; obtain ⟨rfl, rfl, rfl⟩ := trodAll_nil h; rfl
      | cons t ts ih => intro vs ds ps h; obtain ⟨v, vs, d, ds, p, q, rfl, rfl, rfl, h1, h2⟩ := trodAll_cons h; simp [ih h2]
    rw [List.append_nil] at hwt
    refine (law (w.forCall tape i) w.heap.size i.args ds before hval hA hz' hwt hc hx' hsh).mono fun e W' ⟨he, o, x⟩ => ⟨_, he, ?_⟩
    exact post_true hl hvars hrt htb hps hW (by rw [List.append_nil]; exact hspec ds (hlen hA)) o x
  refine key.mono fun e W' ⟨v, he, hp⟩ => ?_
  subst he
  exact ChangeSpec.post_blind hp
end
end Go.V
