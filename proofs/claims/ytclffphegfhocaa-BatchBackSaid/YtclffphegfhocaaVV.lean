/- This text proves a part of the laws of seat Ytclffphegfhocaa, under no condition: VV. -/
import Derived.Test.YtclffphegfhocaaVU
set_option linter.unusedVariables false
set_option linter.unusedSimpArgs false
namespace Go.V

/-- How a state goes on: what was followed is followed further, or given up; its block stays; what has the same count of writes is unchanged. -/
structure Ev (st st' : St) : Prop where
  some : ∀ i l, st.loc i = some l → ∀ l', st'.loc i = some l' → l'.b = l.b ∧ l'.t = l.t ∧ l.ver ≤ l'.ver ∧ (l'.ver = l.ver → l' = l)
  ds : st'.ds = st.ds
  none : ∀ i, i < st.ls.length → st.loc i = none → st'.loc i = none
  len : st.ls.length ≤ st'.ls.length

theorem St.loc_lt {st : St} {i : Nat} {l : Loc} (h : st.loc i = some l) : i < st.ls.length := by
  unfold St.loc at h
  rcases Nat.lt_or_ge i st.ls.length with h' | h'
  · exact h'
  · rw [List.getElem?_eq_none h'] at h; cases h

theorem Ev.refl (st : St) : Ev st st := ⟨fun i l h l' h' => by rw [h] at h'; cases h'; exact ⟨rfl, rfl, Nat.le_refl _, fun _ => rfl⟩, rfl, fun _ _ h => h, Nat.le_refl _⟩

theorem Ev.trans {a b c : St} (h : Ev a b) (k : Ev b c) : Ev a c := by
  refine ⟨fun i l hl l'' hl'' => ?_, k.ds.trans h.ds, fun i hi hn => k.none i (Nat.lt_of_lt_of_le hi h.len) (h.none i hi hn), Nat.le_trans h.len k.len⟩
  cases hb : b.loc i with
  | none =>
    have := k.none i (Nat.lt_of_lt_of_le (St.loc_lt hl) h.len) hb
    rw [this] at hl''; cases hl''
  | some l' =>
    obtain ⟨e1, t1, v1, s1⟩ := h.some i l hl l' hb
    obtain ⟨e2, t2, v2, s2⟩ := k.some i l' hb l'' hl''
    refine ⟨e2.trans e1, t2.trans t1, Nat.le_trans v1 v2, fun e => ?_⟩
    have : l'.ver = l.ver := by omega
    rw [s2 (by omega), s1 this]

theorem Ev.of_ls {a b : St} (h : b.ls = a.ls) (hd : b.ds = a.ds := by rfl) : Ev a b := by
  have : ∀ i, b.loc i = a.loc i := fun i => by simp [St.loc, h]
  refine ⟨fun i l hl l' hl' => ?_, hd, fun i _ hn => by rw [this]; exact hn, by rw [h]; exact Nat.le_refl _⟩
  rw [this, hl] at hl'; cases hl'; exact ⟨rfl, rfl, Nat.le_refl _, fun _ => rfl⟩

/-- An operation's end, or its panic. -/
def PMn (st : St) (a : Act) (o : Oper) (W : World) (K : SV → St → Heap → Prop) (a' : Act) (W' : World) : Prop :=
  ∃ s st' v, K s st' W'.heap ∧ a' = a.put o.dst v ∧ Rel st' W'.heap a W' ∧ SVr st' s v ∧ Ev st st' ∧ Out W W'
def PMp (st : St) (a : Act) (W : World) (Qp : List PanicEntry → St → Heap → Prop) (e : Exit) (a' : Act) (W' : World) : Prop :=
  ∃ c st', e = .panic c ∧ Qp c st' W'.heap ∧ Rel st' W'.heap a' W' ∧ Ev st st' ∧ a' = a ∧ Out W W'

def PM (P : Program) (o : Oper) (st : St) (a : Act) (W : World) (K : SV → St → Heap → Prop) (Qp : List PanicEntry → St → Heap → Prop) : Prop :=
  o.wp P a W (PMn st a o W K) (PMp st a W Qp)

section
variable {P : Program} {st : St} {h : Heap} {a : Act} {W : World} {K : SV → St → Heap → Prop} {Qp : List PanicEntry → St → Heap → Prop}
  {dst : Option Tmp} {type : TypeId} {pos : String} {after : Array Edge} {guard : Option (Nat × Bool)}

theorem PM.value {o : Oper} {v : Value} {W' : World} (hr : (execOp a.eval o).run P W = .ok (.value v) W') (hn : PMn st a o W K (a.put o.dst v) W') : PM P o st a W K Qp := by
  unfold PM Oper.wp
  rw [hr]
  exact hn

theorem PM.skip {o : Oper} {W' : World} (hr : (execOp a.eval o).run P W = .ok .skip W') (hn : PMn st a o W K (a.put o.dst undef) W') : PM P o st a W K Qp := by
  unfold PM Oper.wp
  rw [hr]
  exact hn

/-- A world with another heap. -/
def hp (W : World) (h : Heap) : World := { W with heap := h }
theorem hp_out (W : World) (h : Heap) : Out W (hp W h) := ⟨rfl, rfl, rfl⟩

theorem size_pos_of_getElem? {h : Heap} {i : Nat} {o : Obj} (e : h[i]? = some o) : i < h.size := by
  rcases Nat.lt_or_ge i h.size with h' | h'
  · exact h'
  · rw [Array.getElem?_eq_none h'] at e; cases e

theorem alloc_hp {h : Heap} {W : World} (e : W.heap = h) (o : Obj) : W.alloc o = hp W (h.push o) := by subst e; rfl

theorem set_self {h : Heap} {b : Nat} {o : Obj} (e : h[b]? = some o) : h.setIfInBounds b o = h := by
  obtain ⟨hlt, he⟩ := Array.getElem?_eq_some_iff.1 e
  apply Array.ext_getElem?
  intro j
  by_cases hj : b = j
  · subst hj; simp [hlt, he]
  · simp [Array.getElem?_setIfInBounds_ne hj]

theorem setCell_hp {W : World} {b o : Nat} {c : Array Value} {e : TypeId} {fz : Nat × Nat} (hb : W.heap[b]? = some (.cells c e fz)) (v : Value) :
    W.setCell ⟨b, o, none⟩ v = hp W (W.heap.setIfInBounds b (.cells (c.setIfInBounds o v) e fz)) := by
  obtain ⟨hlt, he⟩ := Array.getElem?_eq_some_iff.1 hb
  unfold World.setCell hp
  congr 1
  apply Array.ext_getElem?
  intro j
  by_cases hj : b = j
  · subst hj
    rw [Array.getElem?_modify, if_pos rfl, hb]
    simp [hlt]
  · rw [Array.getElem?_modify, if_neg hj, Array.getElem?_setIfInBounds_ne hj]

/-- A new block, followed or not. -/
theorem Rel.push (r : Rel st h a W) (o : Obj) : Rel st (h.push o) a (hp W (h.push o)) := by
  refine ⟨rfl, r.ds, r.len, r.slot, fun i l hl => ?_, r.apart⟩
  have := r.loc i l hl
  rw [Array.getElem?_push, if_neg (by have := size_pos_of_getElem? this; omega)]
  exact this

theorem loc_append {st : St} {x : Option Loc} {i : Nat} : ({ st with ls := st.ls ++ [x] } : St).loc i = if i = st.ls.length then x else st.loc i := by
  unfold St.loc
  simp only [List.getElem?_append]
  by_cases h1 : i < st.ls.length
  · simp [h1, Nat.ne_of_lt h1]
  · simp only [h1, if_false]
    by_cases h2 : i = st.ls.length
    · subst h2; simp
    · have h3 : 1 ≤ i - st.ls.length := by omega
      rw [if_neg h2, List.getElem?_eq_none (by simpa using h3), List.getElem?_eq_none (by omega)]

theorem Rel.track (r : Rel st h a W) (t : TypeId) (cs : List Lf) :
    Rel { st with ls := st.ls ++ [some ⟨h.size, t, cs, 0⟩] } (hnew h t cs) a (hp W (hnew h t cs)) := by
  have r' := r.push (.cells (cs.map Lf.val).toArray t (0, 0))
  refine ⟨rfl, r.ds, r.len, fun i => ?_, fun i l hl => ?_, fun i j l m hl hm hb => ?_⟩
  · have hs := r.slot i
    show SVr _ (st.get i) _
    cases hg : st.get i with
    | loc id off =>
      rw [hg] at hs
      refine ⟨by simp; have := hs.1; omega, fun l hl => ?_⟩
      rw [loc_append, if_neg (by have := hs.1; omega)] at hl
      exact hs.2 l hl
    | _ => rw [hg] at hs; exact hs
  · rw [loc_append] at hl
    split at hl
    · cases hl; simp [hnew, Loc.obj]
    · exact r'.loc i l hl
  · rw [loc_append] at hl hm
    split at hl <;> split at hm
    · rename_i e1 e2; rw [e1, e2]
    · cases hl
      have := size_pos_of_getElem? (r.loc _ _ hm)
      simp at hb; omega
    · cases hm
      have := size_pos_of_getElem? (r.loc _ _ hl)
      simp at hb; omega
    · exact r.apart i j l m hl hm hb

theorem m_new (r : Rel st h a W) {o : Oper} {e : TypeId} {cs : List Lf} (hr : (execOp a.eval o).run P W = .ok (.value (.pointer (some ⟨h.size, 0, none⟩))) (hp W (hnew h e cs)))
    {tr : Bool} (hv : New e cs h fun b h' => match tr with
      | true => K (.loc st.ls.length 0) { st with ls := st.ls ++ [some ⟨b, e, cs, 0⟩] } h'
      | false => K (.v (.lf (.ptr (some (b, 0))))) st h') : PM P o st a W K Qp := by
  have hv := hv _ _ rfl rfl
  refine PM.value hr ?_
  cases tr with
  | true =>
    have r' := r.track e cs
    refine ⟨_, _, _, hv, rfl, r', ⟨by simp, fun l hl => ?_⟩, ?_, hp_out _ _⟩
    · rw [loc_append, if_pos rfl] at hl; cases hl; rfl
    · refine ⟨fun i l hl l' hl' => ?_, rfl, fun i hi hn => ?_, by simp⟩
      · rw [loc_append, if_neg (by have := St.loc_lt hl; omega), hl] at hl'
        cases hl'; exact ⟨rfl, rfl, Nat.le_refl _, fun _ => rfl⟩
      · rw [loc_append, if_neg (by omega)]; exact hn
  | false => exact ⟨_, _, _, hv, rfl, r.push _, rfl, Ev.refl _, hp_out _ _⟩

theorem m_alloc (r : Rel st h a W) {pl : Plan} {e : TypeId} (hv : vcM P pl ⟨dst, .alloc e, type, pos, after, guard⟩ st h K Qp) : PM P ⟨dst, .alloc e, type, pos, after, guard⟩ st a W K Qp := by
  simp only [vcM] at hv
  obtain ⟨z, hz, hv⟩ := opt_some hv
  obtain ⟨i, hi, hiz, hsz, hcs⟩ := zeroOf_run hz
  refine m_new r ?_ hv
  simp [execOp, Instr.alloc, zeroValue, typeInfo, hi, hiz, newVar, newRow, hcs, hnew, alloc_hp r.heap, r.heap]

theorem m_box (r : Rel st h a W) {pl : Plan} {e : TypeId} {x : Operand} (hv : vcM P pl ⟨dst, .box e x, type, pos, after, guard⟩ st h K Qp) : PM P ⟨dst, .box e x, type, pos, after, guard⟩ st a W K Qp := by
  simp only [vcM] at hv
  have hx := r.ev x
  split at hv
  · rename_i z he
    rw [he] at hx
    simp only [SVr] at hx
    refine m_new r ?_ hv
    simp [execOp, Instr.box, newVar, newRow, hx, VV.cells_val, hnew, alloc_hp r.heap, r.heap]
  · exact hv.elim

theorem fz_not {fz : Nat × Nat} {off n j : Nat} (h : fzOk fz off n) (h1 : off ≤ j) (h2 : j < off + n) : (fz.1 ≤ j && j < fz.2) = false := by
  unfold fzOk at h
  simp only [Bool.and_eq_false_iff, decide_eq_false_iff_not]
  omega

theorem run_storeCells_wr (b off : Nat) (e : TypeId) (fz : Nat × Nat) : ∀ (vs : List Value) (i : Nat) (c : Array Value) (W : World), W.heap[b]? = some (.cells c e fz) →
    off + i + vs.length ≤ c.size → fzOk fz (off + i) vs.length → (∀ v ∈ vs, v.oneCell' = true) →
    (storeCells ⟨b, off, none⟩ vs i).run P W = .ok () (hp W (W.heap.setIfInBounds b (.cells (wr c (off + i) vs) e fz)))
  | [], i, c, W, hb, _, _, _ => by
    have this := set_self hb
    simp [storeCells, wr, this, hp]
  | v :: vs, i, c, W, hb, hl, hf, h1 => by
    simp only [List.length_cons] at hl hf
    have hi : off + i < c.size := by omega
    have hfz : (fz.1 ≤ off + i && off + i < fz.2) = false := fz_not hf (Nat.le_refl _) (by omega)
    have hst : (store ((⟨b, off, none⟩ : Addr).add i) v).run P W = .ok () (hp W (W.heap.setIfInBounds b (.cells (c.setIfInBounds (off + i) v) e fz))) := by
      rw [add_add, run_store P W _ v _ (h1 v (by simp))]
      have hc : W.cell? ⟨b, off + i, none⟩ = some c[off + i] := by simp [World.cell?, hb, hi]
      have hfr : W.frozen? ⟨b, off + i, none⟩ = false := by
        simp only [World.frozen?, hb]
        obtain ⟨lo, hi'⟩ := fz
        exact hfz
      simp only [hc, hfr, Bool.false_eq_true, if_false, setCell_hp hb]
    have hb' : (hp W (W.heap.setIfInBounds b (.cells (c.setIfInBounds (off + i) v) e fz))).heap[b]? = some (.cells (c.setIfInBounds (off + i) v) e fz) := by
      simp [hp, size_pos_of_getElem? hb]
    have hf' : fzOk fz (off + (i + 1)) vs.length := by unfold fzOk at *; omega
    have ih := run_storeCells_wr b off e fz vs (i + 1) (c.setIfInBounds (off + i) v) _ hb' (by simp; omega) hf' (fun x hx => h1 x (by simp [hx]))
    simp only [storeCells, Sem.run_bind, hst, Result.andThen_ok, ih]
    simp only [wr, hp, Array.setIfInBounds_setIfInBounds]
    rfl

theorem keep_loc {h h' : Heap} : ∀ {ls : List (Option Loc)} {i : Nat} {l : Loc}, keepB h h' (locBs ls) → ls[i]? = some (some l) → h'[l.b]? = h[l.b]?
  | [], i, l, hk, hl => by simp at hl
  | none :: ls, i, l, hk, hl => by
    cases i with
    | zero => simp at hl
    | succ i => exact keep_loc (ls := ls) hk (by simpa using hl)
  | some m :: ls, i, l, hk, hl => by
    cases i with
    | zero => simp at hl; subst hl; exact hk.1
    | succ i => exact keep_loc (ls := ls) hk.2 (by simpa using hl)

theorem St.loc_get {st : St} {i : Nat} {l : Loc} (h : st.loc i = some l) : st.ls[i]? = some (some l) := by
  unfold St.loc at h
  split at h
  · rename_i o ho; rw [ho, h]
  · cases h

theorem Rel.keep (r : Rel st h a W) {W' : World} (hk : keepB h W'.heap (locBs st.ls)) : Rel st W'.heap a W' :=
  ⟨rfl, r.ds, r.len, r.slot, fun i l hl => by rw [keep_loc hk (St.loc_get hl)]; exact r.loc i l hl, r.apart⟩

theorem keepC_iff {h h' : Heap} {l : List Nat} {X : Prop} (hk : keepC h h' l X) : keepB h h' l ∧ X := by
  unfold keepC at hk
  split at hk
  · exact ⟨trivial, hk⟩
  · exact hk

theorem m_store (r : Rel st h a W) {pl : Plan} {t : TypeId} {ad x : Operand} (hv : vcM P pl ⟨dst, .store t ad x, type, pos, after, guard⟩ st h K Qp) : PM P ⟨dst, .store t ad x, type, pos, after, guard⟩ st a W K Qp := by
  simp only [vcM] at hv
  have hx := r.ev x
  have ha := r.ev ad
  split at hv
  · rename_i z he
    rw [he] at hx
    simp only [SVr] at hx
    split at hv
    · rename_i hb
      simp only [Bool.and_eq_true] at hb
      obtain ⟨ty, hty⟩ := known_some hb.1
      have hsz : z.cells.length = ty.size := by have := Nat.eq_of_beq_eq_true hb.2; simpa [szOf, hty] using this
      have hcells : z.val.cells = (z.cells.map Lf.val).toArray := VV.cells_val z
      have run : ∀ b off c e fz, a.eval ad = .pointer (some ⟨b, off, none⟩) → W.heap[b]? = some (.cells c e fz) → off + z.cells.length ≤ c.size → fzOk fz off z.cells.length →
          (execOp a.eval ⟨dst, .store t ad x, type, pos, after, guard⟩).run P W = .ok .skip (hp W (W.heap.setIfInBounds b (.cells (wr c off (z.cells.map Lf.val)) e fz))) := by
        intro b off c e fz h1 h2 h3 h4
        have hst := run_storeCells_wr (P := P) b off e fz (z.cells.map Lf.val) 0 c W h2 (by simpa using h3) (by simpa using h4) (fun v hv => by
          obtain ⟨y, _, rfl⟩ := List.mem_map.1 hv; exact Lf.val_one y)
        simp only [Nat.add_zero] at hst
        have hs2 : ¬ (z.val.cells.size ≠ ty.size) := by rw [hcells]; simp [hsz]
        simp only [execOp, h1, hx, Instr.storeAt, Instr.sureAddr, storeVar, Sem.run_bind, run_sz hty, Result.andThen_ok, Sem.run_pure, pure_bind]
        rw [if_neg hs2]
        simp only [hcells, hst, Result.andThen_ok, Sem.run_pure, Sem.run_bind]
      split at hv
      · rename_i i off hl
        obtain ⟨l, hll, hv⟩ := opt_some hv
        obtain ⟨cs, hcs, hv⟩ := opt_some hv
        obtain ⟨hle, hcs⟩ := splice_some hcs
        have hv := hv _ rfl
        rw [hl] at ha
        have ha' := ha.2 l hll
        have hblk := r.loc i l hll
        have hrun := run l.b off _ _ _ ha' (by rw [r.heap]; exact hblk) (by simpa using hle) (by unfold fzOk; omega)
        have hw : wr (l.cs.map Lf.val).toArray off (z.cells.map Lf.val) = (cs.map Lf.val).toArray := by
          rw [wr_splice _ _ _ (by simpa using hle), hcs]
          simp [List.map_take, List.map_drop]
        rw [hw, r.heap] at hrun
        refine PM.skip hrun ⟨_, _, _, hv, rfl, ?_, trivial, ?_, hp_out _ _⟩
        · have hil := St.loc_lt hll
          have hloc : ∀ j, ({ st with ls := st.ls.set i (some ⟨l.b, l.t, cs, l.ver + 1⟩) } : St).loc j = if j = i then some ⟨l.b, l.t, cs, l.ver + 1⟩ else st.loc j := by
            intro j
            unfold St.loc
            simp only [List.getElem?_set]
            by_cases e : i = j
            · subst e; simp [hil]
            · have e' : ¬ j = i := fun x => e x.symm
              simp [e, e']
          refine ⟨rfl, r.ds, r.len, fun j => ?_, fun j m hm => ?_, fun j k m n hm hn hb => ?_⟩
          · have hs := r.slot j
            show SVr _ (st.get j) _
            cases hg : st.get j with
            | loc id off' =>
              rw [hg] at hs
              refine ⟨by simpa using hs.1, fun m hm => ?_⟩
              rw [hloc] at hm
              split at hm
              · rename_i e; subst e; cases hm; exact hs.2 l hll
              · exact hs.2 m hm
            | _ => rw [hg] at hs; exact hs
          · rw [hloc] at hm
            show (h.setIfInBounds l.b _)[m.b]? = _
            split at hm
            · cases hm; simp [Loc.obj, size_pos_of_getElem? hblk]
            · rename_i e
              have hne : ¬ l.b = m.b := fun eb => e (r.apart j i m l hm hll eb.symm)
              rw [Array.getElem?_setIfInBounds_ne hne]
              exact r.loc j m hm
          · rw [hloc] at hm hn
            split at hm <;> split at hn
            · rename_i e1 e2; rw [e1, e2]
            · rename_i e1 e2; cases hm; exact e1.trans (r.apart i k l n hll hn hb)
            · rename_i e1 e2; cases hn; exact (r.apart j i m l hm hll hb).trans e2.symm
            · exact r.apart j k m n hm hn hb
        · have hil := St.loc_lt hll
          refine ⟨fun j m hm m' hm' => ?_, rfl, fun j hj hn => ?_, by simp⟩
          · unfold St.loc at hm'
            simp only [List.getElem?_set] at hm'
            by_cases e : i = j
            · subst e
              rw [hll] at hm; cases hm
              simp [hil] at hm'
              subst hm'
              exact ⟨rfl, rfl, by simp, fun e => by simp at e⟩
            · have : st.loc j = some m' := by unfold St.loc; simpa [e] using hm'
              rw [hm] at this; cases this
              exact ⟨rfl, rfl, Nat.le_refl _, fun _ => rfl⟩
          · have e : ¬ i = j := fun e => by subst e; rw [hll] at hn; cases hn
            unfold St.loc at hn ⊢
            simpa [e] using hn
      · rename_i b off hl
        obtain ⟨c, e, fz, hb2, hle, hf, hv⟩ := hv
        have hv := hv _ rfl
        rw [hl] at ha
        simp only [SVr, VV.val, Lf.val, padr] at ha
        simp only [List.length_map] at hle hf
        have hrun := run b off c e fz ha (by rw [r.heap]; exact hb2) hle hf
        obtain ⟨hk, hv⟩ := keepC_iff hv
        rw [r.heap] at hrun
        exact PM.skip hrun ⟨_, _, _, hv, rfl, r.keep (W' := hp W _) hk, trivial, Ev.refl _, hp_out _ _⟩
      · exact hv.elim
    · exact hv.elim
  · exact hv.elim

end
end Go.V
