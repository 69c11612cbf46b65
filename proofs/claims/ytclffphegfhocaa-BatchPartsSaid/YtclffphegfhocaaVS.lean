/- This text proves a part of the laws of seat Ytclffphegfhocaa, under no condition: VS. -/
import Derived.Test.YtclffphegfhocaaVB
set_option linter.unusedVariables false
namespace Go.V

def SVr (st : St) (s : SV) (v : Value) : Prop := match s with
  | .v x => v = x.val
  | .tup l => v = .tuple (l.map VV.val).toArray
  | .loc id off => id < st.ls.length ∧ ∀ l, st.loc id = some l → v = .pointer (some ⟨l.b, off, none⟩)
  | .unk => True

structure Rel (st : St) (h : Heap) (a : Act) (W : World) : Prop where
  heap : W.heap = h
  ds : a.defers = st.ds
  len : st.f.length ≤ a.tmps.size
  slot : ∀ i, SVr st (st.get i) (a.tmps.getD i undef)
  loc : ∀ i l, st.loc i = some l → h[l.b]? = some l.obj
  apart : ∀ i j l m, st.loc i = some l → st.loc j = some m → l.b = m.b → i = j

theorem opt_some {α : Type} {o : Option α} {K : α → Prop} (h : opt o K) : ∃ x, o = some x ∧ K x := by
  cases o with
  | none => exact h.elim
  | some x => exact ⟨x, rfl, h⟩

theorem Rel.ev {st : St} {h : Heap} {a : Act} {W : World} (r : Rel st h a W) (x : Operand) : SVr st (st.ev x) (a.eval x) := by
  cases x with
  | tmp t => exact r.slot t
  | const v =>
    show SVr st (SV.ofConst v) v
    unfold SV.ofConst
    split
    · rename_i h; exact (Lf.ofVal_val h).symm
    · trivial
  | global g => rfl
  | func f => rfl

theorem Rel.put {st : St} {h : Heap} {a : Act} {W : World} (r : Rel st h a W) {d : Option Nat} {s : SV} {v : Value} (hs : SVr st s v) :
    Rel (st.put d s) h (a.put d v) W := by
  cases d with
  | none => exact r
  | some d =>
    refine ⟨r.heap, r.ds, by simpa [St.put, Act.put] using r.len, fun i => ?_, r.loc, r.apart⟩
    have hi := r.slot i
    unfold St.get at hi ⊢
    simp only [St.put, Act.put]
    by_cases e : i = d
    · subst e
      by_cases hl : i < st.f.length
      · have hl' := Nat.lt_of_lt_of_le hl r.len
        simp [hl, hl']
        exact hs
      · have : (st.f.set i s).getD i SV.unk = SV.unk := by simp [hl]
        rw [this]; trivial
    · have e' : ¬ d = i := fun x => e x.symm
      have h1 : (st.f.set d s).getD i SV.unk = st.f.getD i SV.unk := by simp [e']
      have h2 : (a.tmps.setIfInBounds d v).getD i undef = a.tmps.getD i undef := by
        simp [Array.getElem?_setIfInBounds_ne e']
      rw [h1, h2]; exact hi

theorem SVr.of_ls {st st' : St} (h : st'.ls = st.ls) {s : SV} {v : Value} (hs : SVr st s v) : SVr st' s v := by
  cases s <;> simp_all [SVr, St.loc]

theorem info_size {P : Program} {t : TypeId} (w : World) : (sizeOf t).run P w = (match P.info? t with | some i => .ok i.size w | none => .halt (.stuck "no such type") w) := by
  simp only [sizeOf, typeInfo, Sem.run_bind, run_program, Result.andThen_ok]
  cases P.info? t <;> simp


theorem cell_of_at {h : Heap} {W : World} (hw : W.heap = h) : ∀ {l : List Lf} {b off : Nat}, cellsAt h b off l → ∀ j v, (l.map Lf.val)[j]? = some v → W.cell? ((⟨b, off, none⟩ : Addr).add j) = some v
  | [], _, _, _, j, v, hj => by simp at hj
  | x :: l, b, off, hc, j, v, hj => by
    obtain ⟨⟨c, e, fz, hb, hx⟩, hr⟩ := hc
    cases j with
    | zero =>
      simp at hj
      subst hj
      simp [Addr.add, World.cell?, hw, hb, hx]
    | succ j =>
      have := cell_of_at hw hr j v (by simpa using hj)
      rw [← this]
      simp only [Addr.add]
      by_cases h0 : j = 0
      · subst h0; simp
      · simp [h0, Nat.add_assoc, Nat.add_comm 1 j]


theorem run_isAgg {P : Program} {t : TypeId} {b : Bool} (h : aggK P t = some b) (w : World) : (isAgg t).run P w = .ok b w := by
  unfold aggK at h
  cases hu : P.underlying t with
  | none => rw [hu] at h; simp at h
  | some d =>
    rw [hu] at h
    cases d <;> simp_all [isAgg, underlying]

theorem vt_one {P : Program} {t : TypeId} {x : LT} (h : vtOf P t = some (.one x)) : ∃ i, P.info? t = some i ∧ i.size = 1 ∧ aggK P t = some false := by
  unfold vtOf at h
  split at h
  · rename_i i hi
    split at h
    · split at h <;> simp at h
    · simp at h
    · rename_i hagg
      split at h
      · rename_i hs; exact ⟨i, hi, Nat.eq_of_beq_eq_true hs, by assumption⟩
      · simp at h
    · simp at h
  · simp at h

theorem vt_agg {P : Program} {t : TypeId} {ts : List LT} (h : vtOf P t = some (.agg ts)) : ∃ i, P.info? t = some i ∧ i.size = ts.length ∧ aggK P t = some true := by
  unfold vtOf at h
  split at h
  · rename_i i hi
    split at h
    · split at h
      · rename_i hs
        simp at h
        exact ⟨i, hi, by rw [← h, Nat.eq_of_beq_eq_true hs]; simp, by assumption⟩
      · simp at h
    · simp at h
    · split at h <;> simp at h
    · simp at h
  · simp at h

theorem run_sz {P : Program} {t : TypeId} {i : TypeInfo} (h : P.info? t = some i) (w : World) : (sizeOf t).run P w = .ok i.size w := by
  simp [sizeOf, typeInfo, h]

/-- A variable is loaded: its cells are known. -/
theorem run_loadVar {P : Program} {t : TypeId} {vt : VT} (h : vtOf P t = some vt) {W : World} {b off : Nat} {l : List Lf} (hl : l.length = vt.lts.length)
    (hc : cellsAt W.heap b off l) : (loadVar t ⟨b, off, none⟩).run P W = .ok (vt.put l).val W := by
  cases vt with
  | one x =>
    obtain ⟨i, hi, hs, ha⟩ := vt_one h
    match l, hl with
    | [y], _ =>
      obtain ⟨⟨c, e, fz, hb, hx⟩, _⟩ := hc
      have : W.cell? ⟨b, off, none⟩ = some y.val := by simp [World.cell?, hb, hx]
      simp [loadVar, run_isAgg ha, this, VT.put, VV.val]
  | agg ts =>
    obtain ⟨i, hi, hs, ha⟩ := vt_agg h
    have hn : i.size = (l.map Lf.val).length := by simp [hs, hl, VT.lts]
    have := run_loadCells_list (P := P) W ⟨b, off, none⟩ (l.map Lf.val) (cell_of_at rfl hc)
    simp only [loadVar, Sem.run_bind, run_isAgg ha, Result.andThen_ok, if_true, run_sz hi, hn, this, Sem.run_pure]
    rfl


end Go.V
