/- This text proves a part of the laws of seat Ytclffphegfhocaa, under no condition: VX. -/
import Derived.Test.YtclffphegfhocaaVW
set_option linter.unusedVariables false
set_option linter.unusedSimpArgs false
namespace Go.V

/-- Temporaries that code doesn't write are as they were. -/
structure Agree (wr : List Nat) (a0 a : Act) : Prop where
  size : a.tmps.size = a0.tmps.size
  slot : ∀ i, i ∉ wr → a.tmps.getD i undef = a0.tmps.getD i undef

theorem Agree.refl (wr : List Nat) (a : Act) : Agree wr a a := ⟨rfl, fun _ _ => rfl⟩
theorem Agree.trans {wr : List Nat} {a b c : Act} (h : Agree wr a b) (k : Agree wr b c) : Agree wr a c := ⟨k.size.trans h.size, fun i hi => (k.slot i hi).trans (h.slot i hi)⟩
theorem Agree.mono {wr wr' : List Nat} {a b : Act} (h : Agree wr a b) (hs : ∀ i, i ∈ wr → i ∈ wr') : Agree wr' a b := ⟨h.size, fun i hi => h.slot i fun hm => hi (hs i hm)⟩
theorem Agree.put {wr : List Nat} (a : Act) (d : Option Nat) (v : Value) (h : ∀ x, d = some x → x ∈ wr) : Agree wr a (a.put d v) := by
  cases d with
  | none => exact .refl _ _
  | some d =>
    refine ⟨by simp [Act.put], fun i hi => ?_⟩
    have hne : ¬ d = i := fun e => hi (e ▸ h d rfl)
    simp [Act.put, Array.getElem?_setIfInBounds_ne hne]

/-- Where a piece of code ends. -/
structure End (st0 : St) (a0 : Act) (W0 : World) (wr : List Nat) (K : St → Heap → Prop) (a : Act) (W : World) : Prop where
  out : ∃ st', K st' W.heap ∧ Rel st' W.heap a W ∧ Ev st0 st'
  agree : Agree wr a0 a
  streams : Out W0 W

def RP (st0 : St) (a0 : Act) (W0 : World) (wr : List Nat) (K : St → Heap → Prop) (Qp : List PanicEntry → St → Heap → Prop) : Exit → Act → World → Prop
  | .normal, a, W => End st0 a0 W0 wr K a W
  | .panic c, a, W => End st0 a0 W0 wr (Qp c) a W
  | _, _, _ => False

theorem End.mono {st0 : St} {a0 : Act} {W0 : World} {wr : List Nat} {K K' : St → Heap → Prop} {a : Act} {W : World} (h : End st0 a0 W0 wr K a W) (hk : ∀ s h, K s h → K' s h) : End st0 a0 W0 wr K' a W :=
  ⟨let ⟨s, k, r, e⟩ := h.out; ⟨s, hk _ _ k, r, e⟩, h.agree, h.streams⟩

theorem End.before {st0 st1 : St} {a0 a1 : Act} {W0 W1 : World} {wr : List Nat} {K : St → Heap → Prop} {a : Act} {W : World} (h : End st1 a1 W1 wr K a W)
    (he : Ev st0 st1) (ha : Agree wr a0 a1) (ho : Out W0 W1) : End st0 a0 W0 wr K a W :=
  ⟨let ⟨s, k, r, e⟩ := h.out; ⟨s, k, r, he.trans e⟩, ha.trans h.agree, ho.trans h.streams⟩

theorem RP.before {st0 st1 : St} {a0 a1 : Act} {W0 W1 : World} {wr : List Nat} {K : St → Heap → Prop} {Qp : List PanicEntry → St → Heap → Prop} {e : Exit} {a : Act} {W : World}
    (h : RP st1 a1 W1 wr K Qp e a W) (he : Ev st0 st1) (ha : Agree wr a0 a1) (ho : Out W0 W1) : RP st0 a0 W0 wr K Qp e a W := by
  cases e with
  | normal => exact End.before h he ha ho
  | panic c => exact End.before h he ha ho
  | _ => exact h

section
variable {P : Program} {st : St} {h : Heap} {a : Act} {W : World}

/-- An operation, whether it reads or acts. -/
theorem vcOp_sound (hng : ∀ (f : Nat) (fn : Func), P.funcs[f]? = some fn → (fn.name == "runtime.NumGoroutine") = false) (r : Rel st h a W) {pl : Plan} {o : Oper}
    {K : St → Heap → Prop} {Qp : List PanicEntry → St → Heap → Prop} (hv : vcOp P pl o st h K Qp) :
    o.wp P a W (fun a' W' => (∃ v, a' = a.put o.dst v) ∧ Out W W' ∧ ∃ st', K st' W'.heap ∧ Rel st' W'.heap a' W' ∧ Ev st st') (PMp st a W Qp) := by
  unfold vcOp at hv
  split at hv
  · obtain ⟨v, s, c, hk, hs, hc, _, hrun⟩ := vcS_sound r hv
    unfold Oper.wp
    rw [hrun W (by rw [r.heap]; exact hc)]
    refine ⟨⟨_, rfl⟩, Out.refl _, _, by rw [r.heap]; exact hk, by rw [r.heap]; exact r.put hs, ?_⟩
    exact Ev.of_ls (by cases hd : o.dst <;> rfl) (by cases hd : o.dst <;> rfl)
  · refine Oper.wp_mono (fun a' W' hn => ?_) (vcM_sound hng r hv)
    obtain ⟨s, st', v, hk, rfl, hr, hs, he, ho⟩ := hn
    exact ⟨⟨_, rfl⟩, ho, _, hk, hr.put hs, he.trans (Ev.of_ls (by cases hd : o.dst <;> rfl) (by cases hd : o.dst <;> rfl))⟩

theorem yielded_of (r : Rel st h a W) {ops : Array Oper} {j d : Nat} {b : Bool} (hd : dstAt ops.toList j = some d) (hb : st.get d = .v (.lf (.bool b))) : yielded ops a.tmps j = some b := by
  have hs := r.slot d
  rw [hb] at hs
  simp only [SVr, VV.val, Lf.val] at hs
  unfold dstAt at hd
  have hop : (ops[j]?).bind (·.dst) = some d := by
    simp only [Array.getElem?_toList] at hd
    split at hd
    · rename_i o ho; rw [ho]; exact hd
    · cases hd
  have ht : a.tmps[d]? = some (.bool b) := by
    cases hh : a.tmps[d]? with
    | none => simp [hh, undef] at hs
    | some v => simp [hh] at hs; rw [hs]
  simp [yielded, hop, ht]

/-- A guard is decided. -/
theorem vcG_elim (r : Rel st h a W) {pl : Plan} {ops : Array Oper} {o : Oper} {run skip : St → Prop} (hv : vcG P pl ops.toList o run skip st) :
    ∃ st1, Rel st1 h a W ∧ (st1.ls = st.ls ∧ st1.ds = st.ds) ∧ ((Region.wanted o (yielded ops a.tmps) = true ∧ run st1) ∨ (Region.wanted o (yielded ops a.tmps) = false ∧ skip st1)) := by
  unfold vcG at hv
  split at hv
  · rename_i hg
    exact ⟨st, r, ⟨rfl, rfl⟩, .inl ⟨by simp [Region.wanted, hg], hv⟩⟩
  · rename_i j want hg
    split at hv
    · exact hv.elim
    · rename_i d hd
      split at hv
      · rename_i b hb
        have hy := yielded_of r hd hb
        have hw : Region.wanted o (yielded ops a.tmps) = (b == want) := by
          simp only [Region.wanted, hg, hy]
          cases b <;> cases want <;> rfl
        have hr1 : Rel { st with f := st.f.set d (.v (.lf (.bool b))) } h a W := by
          have hs := r.slot d
          rw [hb] at hs
          have := r.put (d := some d) (s := .v (.lf (.bool b))) (v := .bool b) rfl
          have ha : a.put (some d) (.bool b) = a := by
            have hs' : a.tmps.getD d undef = .bool b := hs
            unfold Act.put
            have hset : a.tmps.setIfInBounds d (.bool b) = a.tmps := by
              apply Array.ext_getElem?
              intro i
              by_cases e : d = i
              · subst e
                cases hh : a.tmps[d]? with
                | none => simp [Array.getElem?_eq_none_iff.1 hh]
                | some v =>
                  obtain ⟨hlt, _⟩ := Array.getElem?_eq_some_iff.1 hh
                  simp [hh] at hs'
                  simp [hlt, hs']
              · simp [Array.getElem?_setIfInBounds_ne e]
            simp only [hset]
          rw [ha] at this
          exact this
        refine ⟨{ st with f := st.f.set d (.v (.lf (.bool b))) }, hr1, ⟨rfl, rfl⟩, ?_⟩
        rw [hw]
        simp only at hv
        cases want with
        | true =>
          rcases Br_elim hv with ⟨e, hv⟩ | ⟨e, hv⟩
          · subst e; exact .inl ⟨rfl, hv⟩
          · subst e; exact .inr ⟨rfl, hv⟩
        | false =>
          rcases Br_elim hv with ⟨e, hv⟩ | ⟨e, hv⟩
          · subst e; exact .inr ⟨rfl, hv⟩
          · subst e; exact .inl ⟨rfl, hv⟩
      · rename_i l hb
        refine ⟨st, r, ⟨rfl, rfl⟩, .inr ⟨?_, hv⟩⟩
        have hs := r.slot d
        rw [hb] at hs
        simp only [SVr] at hs
        have hop : (ops[j]?).bind (·.dst) = some d := by
          unfold dstAt at hd
          simp only [Array.getElem?_toList] at hd
          split at hd
          · rename_i o' ho'; rw [ho']; exact hd
          · cases hd
        have hy : yielded ops a.tmps j = none := by
          unfold yielded
          rw [hop]
          simp only [Option.bind_some]
          cases hh : a.tmps[d]? with
          | none => rfl
          | some v => simp [hh] at hs; rw [hs]
        simp [Region.wanted, hg, hy]
      · exact hv.elim

end

theorem wp_conv {P : Program} {o : Oper} {a : Act} {W : World} {Q1 Q2 : Exit → Act → World → Prop} {K1 K2 : Act → World → Prop} (hk : ∀ a w, K1 a w → K2 a w)
    (hq : ∀ c a w, Q1 (.panic c) a w → Q2 (.panic c) a w) (hl : LetsOut Q1 → LetsOut Q2) (h : o.wp P a W K1 Q1) : o.wp P a W K2 Q2 := by
  unfold Oper.wp at *
  generalize (execOp a.eval o).run P W = res at *
  cases res with
  | ok n w' =>
    cases n <;> simp only [Oper.upon] at h ⊢ <;>
      first
        | exact hk _ _ h
        | exact Calls.mono h (fun e w'' he => by cases e <;> first | exact hk _ _ he | exact hq _ _ _ he | exact hl he)
        | exact Rows.mono h (fun _ _ he => hk _ _ he)
  | halt x w' => cases x <;> simp only [Oper.upon] at h ⊢ <;> first | exact hq _ _ _ h | exact h

theorem LetsOut.mono {Q1 Q2 : Exit → Act → World → Prop} (hq : ∀ e a w, Q1 e a w → Q2 e a w) (h : LetsOut Q1) : LetsOut Q2 :=
  let ⟨a, w, q⟩ := h; ⟨a, w, hq _ _ _ q⟩

theorem wpList_mono {P : Program} {ops : Array Oper} {Q1 Q2 : Exit → Act → World → Prop} (hq : ∀ e a w, Q1 e a w → Q2 e a w) :
    ∀ (l : List Oper) (a : Act) (W : World), wpList P ops Q1 l a W → wpList P ops Q2 l a W
  | [], a, W, h => hq _ _ _ h
  | o :: l, a, W, h => by
    unfold wpList at *
    split
    · rename_i hw
      rw [if_pos hw] at h
      exact h.imp (fun h => wp_conv (fun a w => wpList_mono hq l a w) (fun c a w => hq _ a w) (LetsOut.mono hq) h) (fun h => ⟨h.1, LetsOut.mono hq h.2⟩)
    · rename_i hw
      rw [if_neg hw] at h
      exact wpList_mono hq l _ _ h

theorem ops_sound {P : Program} (hng : ∀ (f : Nat) (fn : Func), P.funcs[f]? = some fn → (fn.name == "runtime.NumGoroutine") = false) {pl : Plan} {ops : Array Oper}
    {K : St → Heap → Prop} {Qp : List PanicEntry → St → Heap → Prop} (wr : List Nat) : ∀ (rest : List Oper) (st : St) (a : Act) (W : World), (∀ o ∈ rest, ∀ d, o.dst = some d → d ∈ wr) → Rel st W.heap a W →
    vcOps P pl ops.toList Qp K rest st W.heap → wpList P ops (RP st a W wr K Qp) rest a W
  | [], st, a, W, _, r, hv => ⟨⟨st, hv, r, Ev.refl _⟩, Agree.refl _ _, Out.refl _⟩
  | o :: rest, st, a, W, hw, r, hv => by
    simp only [vcOps] at hv
    obtain ⟨st1, r1, ⟨hls, hds⟩, hrun | hskip⟩ := vcG_elim r hv
    · obtain ⟨hwant, hv⟩ := hrun
      unfold wpList
      rw [if_pos hwant]
      refine .inl ?_
      have h1 := vcOp_sound hng r1 hv
      have hw0 := hw o (by simp)
      refine wp_conv ?_ ?_ ?_ h1
      · rintro a' W' ⟨⟨v, rfl⟩, ho, st', hk, hr', he⟩
        have ih := ops_sound hng (ops := ops) wr rest st' _ W' (fun o' ho' => hw o' (by simp [ho'])) hr' hk
        have : ∀ (e : Exit) (a2 : Act) (W2 : World), RP st' (a.put o.dst v) W' wr K Qp e a2 W2 → RP st a W wr K Qp e a2 W2 := fun e a2 W2 hh =>
          hh.before ((Ev.of_ls hls hds).trans he) (Agree.put a o.dst v hw0) ho
        exact wpList_mono this _ _ _ ih
      · rintro c a' W' ⟨c', st', he, hq, hr', hev, rfl, ho⟩
        cases he
        exact ⟨⟨st', hq, hr', (Ev.of_ls hls hds).trans hev⟩, Agree.refl _ _, ho⟩
      · rintro ⟨a', W', c', st', he, _⟩
        cases he
    · obtain ⟨hwant, hv⟩ := hskip
      unfold wpList
      rw [if_neg (by rw [hwant]; simp)]
      have r2 : Rel (st1.put o.dst (.tup [])) W.heap (a.put o.dst undef) W := r1.put rfl
      have ih := ops_sound hng (ops := ops) wr rest _ _ W (fun o' ho' => hw o' (by simp [ho'])) r2 hv
      refine wpList_mono (fun e a2 W2 hh => ?_) _ _ _ ih
      exact hh.before ((Ev.of_ls hls hds).trans (Ev.of_ls (by cases o.dst <;> rfl) (by cases o.dst <;> rfl))) (Agree.put a o.dst undef (hw o (by simp))) (Out.refl _)

end Go.V
