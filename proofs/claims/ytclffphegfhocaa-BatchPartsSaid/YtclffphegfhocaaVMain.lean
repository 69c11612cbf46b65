/- This text proves a part of the laws of seat Ytclffphegfhocaa, under no condition: VMain. -/
import Derived.Test.YtclffphegfhocaaVZ
set_option linter.unusedVariables false
set_option linter.unusedSimpArgs false
namespace Go.V

/-- Where a piece of code ends, by whichever exit. -/
def CQ (st0 : St) (a0 : Act) (W0 : World) (wr : List Nat) (Q : Exit → St → Heap → Prop) (e : Exit) (a : Act) (W : World) : Prop := End st0 a0 W0 wr (Q e) a W

theorem End.wider {st0 : St} {a0 : Act} {W0 : World} {wr wr' : List Nat} {K : St → Heap → Prop} {a : Act} {W : World} (h : End st0 a0 W0 wr K a W) (hs : ∀ i, i ∈ wr → i ∈ wr') : End st0 a0 W0 wr' K a W :=
  ⟨h.out, h.agree.mono hs, h.streams⟩

theorem opt_app {s : JSpec} {st0 st : St} {h : Heap} {I : Cur (jlts s) (Heap → Prop)} (hm : meet s st0 I st h) : ∃ l, jget s st0 st = some l ∧ app (jlts s) I l fun p => p h := by
  unfold meet at hm
  exact opt_some hm

/-- A loop whose rounds are counted down. -/
theorem wp_loopn {P : Program} {Q : Exit → Act → World → Prop} {c : Code} {a : Act} {w : World} (I : Nat → Act → World → Prop) (h0 : ∃ n, I n a w)
    (round : ∀ n a w, I n a w → c.wp P (Exit.then (fun a' w' => ∃ m, m < n ∧ I m a' w') Q) a w) : (Code.loop c).wp P Q a w := by
  intro b k cs
  have key : ∀ n a w, I n a w → ∃ e a' w', Q e a' w' ∧ Arrives P (lone (b.at a (.code c :: .inLoop c :: k)) cs w) b k cs e a' w' := by
    intro n
    induction n using Nat.strongRecOn with
    | _ n ih =>
      intro a w hI
      obtain ⟨e, a₁, w₁, hq, harr⟩ := round n a w hI b (.inLoop c :: k) cs
      cases e with
      | normal =>
        obtain ⟨m, hlt, hI₁⟩ := hq
        obtain ⟨e₂, a₂, w₂, hq₂, harr₂⟩ := ih m hlt a₁ w₁ hI₁
        exact ⟨e₂, a₂, w₂, hq₂, .of_steps (Steps.trans harr (.one step_inLoop)) harr₂⟩
      | exit id => exact ⟨_, a₁, w₁, hq, .pass (x := .inLoop c) rfl (fun _ _ => .inl (by simp)) harr⟩
      | goto l => exact ⟨_, a₁, w₁, hq, .pass (x := .inLoop c) rfl (fun _ _ => .inl (by simp)) harr⟩
      | ret => exact ⟨_, a₁, w₁, hq, .pass (x := .inLoop c) rfl (fun _ _ => .inl (by simp)) harr⟩
      | panic ch => exact ⟨_, a₁, w₁, hq, .pass (x := .inLoop c) rfl (fun _ _ => .inl (by simp)) harr⟩
      | outgrown => exact ⟨_, a₁, w₁, hq, .pass (x := .inLoop c) rfl (fun _ _ => .inl (by simp)) harr⟩
  obtain ⟨n, hn⟩ := h0
  obtain ⟨e, a', w', hq, harr⟩ := key n a w hn
  exact ⟨e, a', w', hq, .of_steps (.one step_loop) harr⟩

def resStep (tmps : Array Value) : ResultVar → Sem Value
  | .tmp t => pure (tmps.getD t undef)
  | .cell x t => do loadVar t (← asAddr (tmps.getD x undef))

theorem results_eq (fn : Func) (tmps : Array Value) : results fn tmps = (do
    let vs ← fn.results.mapM (resStep tmps)
    pure (if h : vs.size = 1 then vs[0] else .tuple vs)) := by
  unfold results
  congr 1

theorem resOf_run {P : Program} {st : St} {h : Heap} {a : Act} {W : World} (r : Rel st h a W) : ∀ (l : List ResultVar) (vs : List VV), resOf P st l = some vs →
    (l.mapM (resStep a.tmps)).run P W = .ok (vs.map VV.val) W
  | [], vs, hv => by cases hv; simp
  | .tmp t :: l, vs, hv => by
    simp only [resOf] at hv
    split at hv
    · rename_i x hx
      split at hv
      · rename_i m hm
        cases hv
        have hs := r.slot t
        rw [hx] at hs
        simp only [SVr] at hs
        simp only [List.mapM_cons, Sem.run_bind, resStep, Sem.run_pure, Result.andThen_ok, resOf_run r l m hm, hs, List.map_cons]
      · cases hv
    · cases hv
  | .cell x t :: l, vs, hv => by
    simp only [resOf] at hv
    split at hv
    · rename_i i off vt hx hvt
      split at hv
      · rename_i lc hlc
        split at hv
        · rename_i y m hy hm
          cases hv
          have hs := r.slot x
          rw [hx] at hs
          have hs' := hs.2 lc hlc
          have hb := r.loc i lc hlc
          have hlen : lc.cs.length = vt.lts.length ∧ y = vt.put lc.cs := by
            cases vt with
            | one z =>
              generalize lc.cs = cs at hy
              match cs, hy with
              | [w], hy => cases hy; exact ⟨rfl, rfl⟩
            | agg ts =>
              simp only [asVT] at hy
              split at hy
              · rename_i hbq; cases hy; exact ⟨Nat.eq_of_beq_eq_true hbq, rfl⟩
              · cases hy
          have hcells : cellsAt W.heap lc.b 0 lc.cs := by
            have := loc_cellsAt (h := W.heap) (l := lc) (by rw [r.heap]; exact hb) lc.cs.length 0 (by omega)
            simpa using this
          have hload := run_loadVar (P := P) hvt hlen.1 hcells
          rw [← hlen.2] at hload
          simp only [List.mapM_cons, Sem.run_bind, resStep, hs', asAddr, Sem.run_pure, Result.andThen_ok, hload, resOf_run r l m hm, List.map_cons]
        · cases hv
      · cases hv
    · cases hv

theorem flat_shape : ∀ {vts : List VT} {r : List VV} {l : List Lf}, flat vts r = some l → shape vts l = r
  | [], [], l, h => rfl
  | .one _ :: ts, .lf x :: r, l, h => by
    simp only [flat] at h
    split at h
    · rename_i m hm; cases h; simp [shape, flat_shape hm]
    · cases h
  | .agg us :: ts, .agg xs :: r, l, h => by
    simp only [flat] at h
    split at h
    · rename_i hb
      have hb := Nat.eq_of_beq_eq_true hb
      split at h
      · rename_i m hm
        cases h
        simp only [shape, ← hb]
        simp [flat_shape hm]
      · cases h
    · cases h
  | [], _ :: _, _, h => by cases h
  | .one _ :: _, [], _, h => by cases h
  | .agg _ :: _, [], _, h => by cases h
  | .one _ :: _, .agg _ :: _, _, h => by cases h
  | .agg _ :: _, .lf _ :: _, _, h => by cases h

theorem ExL_of_app : ∀ {ts : List LT} {R : Type} {I : Cur ts R} {l : List Lf} {X : R → Prop} {Y : List Lf → Prop}, app ts I l X → Y l → ExL ts fun l' => Y l' ∧ app ts I l' X
  | [], _, I, [], X, Y, h, y => ⟨y, h⟩
  | t :: ts, _, I, x :: l, X, Y, h, y => by
    have h' := h
    simp only [app] at h
    split at h
    · rename_i d hd
      refine ⟨d, ?_⟩
      have hy : Y (t.mk d :: l) := by rw [LT.get_mk hd]; exact y
      have := ExL_of_app (Y := fun l' => Y (t.mk d :: l')) h hy
      have hg : t.get (t.mk d) = some d := by rw [LT.get_mk hd]; exact hd
      have conv : ∀ (ts : List LT) (A B : List Lf → Prop), (∀ l, A l → B l) → ExL ts A → ExL ts B := by
        intro ts
        induction ts with
        | nil => intro A B hab ha; exact hab _ ha
        | cons u us ih => intro A B hab ha; obtain ⟨z, hz⟩ := ha; exact ⟨z, ih _ _ (fun l => hab _) hz⟩
      refine conv ts _ _ (fun l' hl' => ⟨hl'.1, ?_⟩) this
      simp only [app, hg]
      exact hl'.2
    · exact h.elim
  | [], _, _, _ :: _, _, _, h, _ => h.elim
  | _ :: _, _, _, [], _, _, h, _ => h.elim

section
variable {P : Program} (hng : ∀ (f : Nat) (fn : Func), P.funcs[f]? = some fn → (fn.name == "runtime.NumGoroutine") = false) (hmix : P.follows .mixedOrders = true) {pl : Plan}
include hng hmix

theorem vc_sound : ∀ (c : Code) (Q : Exit → St → Heap → Prop) (st : St) (a : Act) (W : World), Rel st W.heap a W → vc P pl c Q st W.heap → c.wp P (CQ st a W (writes c) Q) a W := by
  intro c
  induction c with
  | skip => intro Q st a W r hv; exact wp_skip ⟨⟨st, hv, r, Ev.refl _⟩, Agree.refl _ _, Out.refl _⟩
  | region id ops draw =>
    intro Q st a W r hv
    simp only [vc] at hv
    split at hv
    · refine wp_region_list (wpList_mono ?_ _ _ _ (ops_sound hng (dsts ops.toList) ops.toList st a W (fun o ho d hd => List.mem_filterMap.2 ⟨o, ho, hd⟩) r hv))
      intro e a' W' h
      cases e with
      | normal =>
        obtain ⟨⟨s, k, r', e'⟩, ag, ou⟩ := h
        obtain ⟨r2, e2⟩ := r'.prune (pl.live id)
        exact ⟨⟨_, k, r2, e'.trans e2⟩, ag, ou⟩
      | panic c => exact h
      | _ => exact h.elim
    · split at hv
      · rename_i hsel
        refine wp_mono (wp_region_any hmix ?_) (Q := RP st a { W with drawn := W.drawn + 1 } (dsts ops.toList) (fun st h => Q .normal (st.prune (pl.live id)) h) (Qclear (dsts ops.toList) fun c st h => Q (.panic c) st h)) ?_
        · have hcl : Closed ops (Array.replicate ops.size false) := fun j o hj hl => by
            have : (Array.replicate ops.size false).getD j false = false := by
              rcases Nat.lt_or_ge j ops.size with h | h
              · simp [h]
              · simp [h]
            rw [this] at hl; cases hl
          have d0 : Dr ops st a { W with drawn := W.drawn + 1 } (Array.replicate ops.size false) [] st a { W with drawn := W.drawn + 1 } :=
            ⟨⟨rfl, r.ds, r.len, r.slot, r.loc, r.apart⟩, hcl, fun c hc => by simp at hc, Ev.refl _, Agree.refl _ _, Out.refl _⟩
          obtain ⟨t1, t2⟩ := draw_sound hng hsel (pl := pl) (K := fun st h => Q .normal (st.prune (pl.live id)) h) (Qp := fun c st h => Q (.panic c) st h) st a _ (pl.draw id) [] _ [] st a _ d0 hv
          have hu : unlisted (Array.replicate ops.size false) ≤ ops.size := by
            unfold unlisted
            have := List.countP_le_length (p := fun b : Bool => !b) (l := (Array.replicate ops.size false).toList)
            simpa using this
          exact wpAny_of_D _ _ _ _ _ (D_of_T hu t1 t2)
        · intro e a' W' h
          cases e with
          | normal =>
            obtain ⟨⟨s, k, r', e'⟩, ag, ou⟩ := h
            obtain ⟨r2, e2⟩ := r'.prune (pl.live id)
            exact ⟨⟨_, k, r2, e'.trans e2⟩, ag, ⟨ou.os, ou.tape, ou.output⟩⟩
          | panic c =>
            obtain ⟨⟨s, k, r', e'⟩, ag, ou⟩ := h
            exact ⟨⟨_, k.1, r', e'⟩, ag, ⟨ou.os, ou.tape, ou.output⟩⟩
          | _ => exact h.elim
      · exact hv.elim
  | seq x y ihx ihy =>
    intro Q st a W r hv
    simp only [vc] at hv
    split at hv
    · refine wp_seq (wp_mono (ihx _ st a W r hv) ?_)
      intro e a' W' h
      cases e with
      | normal =>
        obtain ⟨⟨s, k, r', e'⟩, ag, ou⟩ := h
        refine wp_mono (ihy Q s a' W' r' k) fun e2 a2 W2 h2 => ?_
        exact (h2.wider (wr' := writes (x.seq y)) (fun i hi => by simp [writes, hi])).before e' (ag.mono fun i hi => by simp [writes, hi]) ou
      | _ => exact h.wider fun i hi => by simp [writes, hi]
    · rename_i s hs
      obtain ⟨I, hx, hI⟩ := hv
      refine wp_seq (wp_mono (ihx _ st a W r hx) ?_)
      intro e a' W' h
      cases e with
      | normal =>
        obtain ⟨⟨st', k, r', e'⟩, ag, ou⟩ := h
        obtain ⟨l, hl, happ⟩ := opt_app k
        obtain ⟨p, hp, hph⟩ := AllI_app hI happ
        obtain ⟨rj, ej⟩ := Rel.jset r r' e' ag hl
        refine wp_mono (ihy Q _ a' W' rj (hp _ hph)) fun e2 a2 W2 h2 => ?_
        exact (h2.wider (wr' := writes (x.seq y)) (fun i hi => by simp [writes, hi])).before ej (ag.mono fun i hi => by simp [writes, hi]) ou
      | _ => exact h.wider fun i hi => by simp [writes, hi]
  | cond c x y ihx ihy =>
    intro Q st a W r hv
    simp only [vc] at hv
    have hc := r.ev c
    split at hv
    · rename_i t ht
      rw [ht] at hc
      simp only [SVr, VV.val, Lf.val] at hc
      rcases Br_elim hv with ⟨e, hv⟩ | ⟨e, hv⟩
      · rw [e] at hc
        exact wp_cond_true hc (wp_mono (ihx Q st a W r hv) fun e a' W' h => End.wider h fun i hi => by simp [writes, hi])
      · rw [e] at hc
        exact wp_cond_false hc (wp_mono (ihy Q st a W r hv) fun e a' W' h => End.wider h fun i hi => by simp [writes, hi])
    · exact hv.elim
  | block id x ih =>
    intro Q st a W r hv
    simp only [vc] at hv
    split at hv
    · refine wp_block (wp_mono (ih _ st a W r hv) ?_)
      intro e a' W' h
      cases e with
      | exit i =>
        simp only [Exit.inBlock]
        obtain ⟨⟨st', k, r', e'⟩, ag, ou⟩ := h
        simp only at k
        by_cases hi : i = id
        · subst hi
          rw [if_pos rfl]
          have hb : Nat.beq i i = true := by simp
          rw [hb] at k
          exact ⟨⟨st', k, r', e'⟩, ag, ou⟩
        · rw [if_neg hi]
          have hb : Nat.beq i id = false := by
            cases hh : Nat.beq i id with
            | false => rfl
            | true => exact absurd (Nat.eq_of_beq_eq_true hh) hi
          rw [hb] at k
          exact ⟨⟨st', k, r', e'⟩, ag, ou⟩
      | _ => exact h
    · rename_i s hs
      obtain ⟨I, hx, hI⟩ := hv
      have met : ∀ a' W' st', meet s st I st' W'.heap → Rel st' W'.heap a' W' → Ev st st' → Agree (writes x) a a' → Out W W' → End st a W (writes x) (Q .normal) a' W' := by
        intro a' W' st' k r' e' ag ou
        obtain ⟨l, hl, happ⟩ := opt_app k
        obtain ⟨p, hp, hph⟩ := AllI_app hI happ
        obtain ⟨rj, ej⟩ := Rel.jset r r' e' ag hl
        exact ⟨⟨_, hp _ hph, rj, ej⟩, ag, ou⟩
      refine wp_block (wp_mono (ih _ st a W r hx) ?_)
      intro e a' W' h
      cases e with
      | exit i =>
        simp only [Exit.inBlock]
        obtain ⟨⟨st', k, r', e'⟩, ag, ou⟩ := h
        simp only at k
        by_cases hi : i = id
        · subst hi
          rw [if_pos rfl]
          have hb : Nat.beq i i = true := by simp
          rw [hb] at k
          exact met a' W' st' k r' e' ag ou
        · rw [if_neg hi]
          have hb : Nat.beq i id = false := by
            cases hh : Nat.beq i id with
            | false => rfl
            | true => exact absurd (Nat.eq_of_beq_eq_true hh) hi
          rw [hb] at k
          exact ⟨⟨st', k, r', e'⟩, ag, ou⟩
      | normal =>
        obtain ⟨⟨st', k, r', e'⟩, ag, ou⟩ := h
        exact met a' W' st' k r' e' ag ou
      | _ => exact h
  | loop x ih =>
    intro Q st a W r hv
    simp only [vc] at hv
    obtain ⟨s, hs, I, h0, hI⟩ := opt_some hv
    obtain ⟨l0, hl0, happ0⟩ := opt_some h0
    let VCb : List Lf → Heap → Nat → Prop := fun l h' n => vc P pl x (fun e st' h'' => match e with
          | .normal => opt (jget s st st') fun l' => app (jlts s) I l' fun p => ∃ m, m < n ∧ p h'' m
          | e => Q e st' h'') (Go.V.jset s (writes x) st l) h'
    let Hd : Nat → Act → World → Prop := fun n a' W' => ∃ l, Rel (Go.V.jset s (writes x) st l) W'.heap a' W' ∧ VCb l W'.heap n ∧ Ev st (Go.V.jset s (writes x) st l) ∧ Agree (writes x) a a' ∧ Out W W'
    refine wp_loopn Hd ?_ ?_
    · obtain ⟨p, hp, n, hpn⟩ := AllI_app hI happ0
      obtain ⟨rj, ej⟩ := Rel.jset r r (Ev.refl st) (Agree.refl (writes x) a) hl0
      exact ⟨n, l0, rj, hp _ _ hpn, ej, Agree.refl _ _, Out.refl _⟩
    · rintro n a1 W1 ⟨l, r1, hb, e1, ag1, ou1⟩
      refine wp_mono (ih _ _ a1 W1 r1 hb) ?_
      intro e a2 W2 h
      cases e with
      | normal =>
        obtain ⟨⟨st', k, r', e'⟩, ag, ou⟩ := h
        obtain ⟨l', hl', happ'⟩ := opt_some k
        obtain ⟨p, hp, m, hm, hpm⟩ := AllI_app hI happ'
        obtain ⟨rj, ej⟩ := Rel.jset r r' (e1.trans e') (ag1.trans ag) hl'
        exact ⟨m, hm, l', rj, hp _ _ hpm, ej, ag1.trans ag, ou1.trans ou⟩
      | _ => exact h.before e1 ag1 ou1
  | exit id => intro Q st a W r hv; exact wp_exit ⟨⟨st, hv, r, Ev.refl _⟩, Agree.refl _ _, Out.refl _⟩
  | ret => intro Q st a W r hv; exact wp_ret ⟨⟨st, hv, r, Ev.refl _⟩, Agree.refl _ _, Out.refl _⟩
  | rangeFunc f params assign body _ _ => intro Q st a W r hv; exact hv.elim
  | scope _ _ => intro Q st a W r hv; exact hv.elim
  | label _ => intro Q st a W r hv; exact hv.elim
  | goto _ => intro Q st a W r hv; exact hv.elim
  | refuse _ => intro Q st a W r hv; exact hv.elim

/-- **What is computed of a function's text holds of its calls.** -/
theorem call_sound {f : FuncId} {fn : Func} (hf : P.funcs[f]? = some fn) {args : List VV} {h : Heap} {vts : List VT} {R : Cur (lts vts) (Heap → Prop)}
    (hv : vcFn P pl fn args h vts R) : Call P f args h vts R := by
  intro W hW
  obtain ⟨c, hc, hv⟩ := opt_some hv
  subst hW
  have hsz : (initF fn.ntmps args).length ≤ ((args.map VV.val).toArray ++ Array.replicate (fn.ntmps - (args.map VV.val).toArray.size) undef).size := by
    simp [initF]
  have r0 : Rel ⟨initF fn.ntmps args, [], []⟩ W.heap { tmps := (args.map VV.val).toArray ++ Array.replicate (fn.ntmps - (args.map VV.val).toArray.size) undef, defers := [] } W := by
    refine ⟨rfl, rfl, hsz, fun i => ?_, fun i l hl => by simp [St.loc] at hl, fun i j l m hl => by simp [St.loc] at hl⟩
    unfold St.get initF
    simp only
    by_cases hi : i < args.length
    · have h1 : (args.map SV.v ++ List.replicate (fn.ntmps - args.length) SV.unk).getD i .unk = .v args[i] := by
        simp [List.getD, List.getElem?_append_left, hi]
      have h2 : ((args.map VV.val).toArray ++ Array.replicate (fn.ntmps - (args.map VV.val).toArray.size) undef).getD i undef = args[i].val := by
        simp [Array.getElem?_append_left, hi]
      rw [h1, h2]; rfl
    · have h1 : (args.map SV.v ++ List.replicate (fn.ntmps - args.length) SV.unk).getD i .unk = .unk := by
        simp only [List.getD]
        rw [List.getElem?_append_right (by simp; omega)]
        cases hh : (List.replicate (fn.ntmps - args.length) SV.unk)[i - (args.map SV.v).length]? with
        | none => rfl
        | some y =>
          have := List.mem_of_getElem? hh
          simp at this
          simp [this.2]
      rw [h1]; trivial
  refine calls_of_wp hf hc (wp_mono (vc_sound hng hmix c _ _ _ W r0 hv) ?_)
  intro e a' W' hend
  obtain ⟨⟨st', k, r', e'⟩, ag, ou⟩ := hend
  have fin : opt (resOf P st' fn.results.toList) (fun r => opt (flat vts r) fun l => app (lts vts) R l fun p => p W'.heap) → st'.ds = [] →
      a'.defers = [] ∧ ∃ v, (results fn a'.tmps).run P W' = .ok v W' ∧ Out W W' ∧ ExL (lts vts) fun l => Ending.returned v = .returned (rets (shape vts l)) ∧ app (lts vts) R l fun p => p W'.heap := by
    intro hr hd
    obtain ⟨vs, hvs, hr⟩ := opt_some hr
    obtain ⟨l, hl, happ⟩ := opt_some hr
    refine ⟨r'.ds.trans hd, rets vs, ?_, ou, ?_⟩
    · have hm := resOf_run (P := P) r' _ _ hvs
      rw [results_eq, ← Array.toArray_toList (xs := fn.results), List.mapM_toArray]
      simp only [Sem.run_bind, Sem.run_map, hm, Result.andThen_ok, Sem.run_pure]
      match vs with
      | [] => rfl
      | [x] => rfl
      | _ :: _ :: _ => simp [rets]
    · exact ExL_of_app (Y := fun l' => Ending.returned (rets vs) = .returned (rets (shape vts l'))) happ (by rw [flat_shape hl])
  unfold retQ at k
  generalize hds : st'.ds = ds at k
  cases ds with
  | nil =>
    cases e with
    | normal => exact fin k hds
    | ret => exact fin k hds
    | _ => exact k.elim
  | cons d ds => cases e <;> exact k.elim

end
end Go.V
