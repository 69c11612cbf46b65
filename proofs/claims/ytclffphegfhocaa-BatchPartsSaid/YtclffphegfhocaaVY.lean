/- This text proves a part of the laws of seat Ytclffphegfhocaa, under no condition: VY. -/
import Derived.Test.YtclffphegfhocaaVX
set_option linter.unusedVariables false
set_option linter.unusedSimpArgs false
namespace Go.V

section before
open Region

def bfStep (acc : Array Nat) (o : Oper) : Nat := o.after.foldl (fun s e => if binds .any e then s ||| 2 ^ e.on ||| acc.getD e.on 0 else s) 0

theorem foldl_bit (acc : Array Nat) (i : Nat) : ∀ (l : List Edge) (s : Nat), (l.foldl (fun s e => if binds .any e then s ||| 2 ^ e.on ||| acc.getD e.on 0 else s) s).testBit i = true →
    s.testBit i = true ∨ ∃ e ∈ l, binds .any e = true ∧ (e.on = i ∨ (acc.getD e.on 0).testBit i = true)
  | [], s, h => .inl h
  | e :: l, s, h => by
    simp only [List.foldl_cons] at h
    rcases foldl_bit acc i l _ h with h | ⟨e', he', hb, hh⟩
    · split at h
      · rename_i hb
        simp only [Nat.testBit_or, Bool.or_eq_true] at h
        rcases h with (h | h) | h
        · exact .inl h
        · refine .inr ⟨e, by simp, hb, .inl ?_⟩
          rw [Nat.testBit_two_pow] at h
          simpa using h
        · exact .inr ⟨e, by simp, hb, .inr h⟩
      · exact .inl h
    · exact .inr ⟨e', by simp [he'], hb, hh⟩

def bfSpec (acc : Array Nat) (pre : List Oper) : Prop :=
  acc.size = pre.length ∧ ∀ j o, pre[j]? = some o → ∀ i, (acc.getD j 0).testBit i = true → ∃ e ∈ o.after, binds .any e = true ∧ (e.on = i ∨ (e.on < j ∧ (acc.getD e.on 0).testBit i = true))

theorem bf_fold : ∀ (l pre : List Oper) (acc : Array Nat), bfSpec acc pre → bfSpec (l.foldl (fun acc o => acc.push (bfStep acc o)) acc) (pre ++ l)
  | [], pre, acc, h => by simpa using h
  | o :: l, pre, acc, h => by
    have := bf_fold l (pre ++ [o]) (acc.push (bfStep acc o)) ?_
    · simpa using this
    · obtain ⟨hs, hj⟩ := h
      refine ⟨by simp [hs], fun j o' ho' i hb => ?_⟩
      by_cases hlt : j < pre.length
      · have h1 : pre[j]? = some o' := by simpa [List.getElem?_append_left hlt] using ho'
        have h2 : (acc.push (bfStep acc o)).getD j 0 = acc.getD j 0 := by
          simp [Array.getElem?_push, show ¬ j = acc.size by omega]
        rw [h2] at hb
        obtain ⟨e, he, hbi, hh⟩ := hj j o' h1 i hb
        refine ⟨e, he, hbi, hh.imp id fun ⟨hl, ht⟩ => ⟨hl, ?_⟩⟩
        have h3 : (acc.push (bfStep acc o)).getD e.on 0 = acc.getD e.on 0 := by
          simp [Array.getElem?_push, show ¬ e.on = acc.size by omega]
        rw [h3]; exact ht
      · have hj0 : j = pre.length := by
          rcases Nat.lt_or_ge j (pre ++ [o]).length with h' | h'
          · simp at h'; omega
          · rw [List.getElem?_eq_none h'] at ho'; cases ho'
        subst hj0
        have : o' = o := by simpa using ho'.symm
        subst this
        have h2 : (acc.push (bfStep acc o')).getD pre.length 0 = bfStep acc o' := by simp [← hs]
        rw [h2] at hb
        unfold bfStep at hb
        rw [← Array.foldl_toList] at hb
        rcases foldl_bit acc i _ 0 hb with hb | ⟨e, he, hbi, hh⟩
        · simp at hb
        · refine ⟨e, by simpa using he, hbi, hh.imp id fun ht => ?_⟩
          have hlt' : e.on < acc.size := by
            rcases Nat.lt_or_ge e.on acc.size with h' | h'
            · exact h'
            · simp [Array.getElem?_eq_none h'] at ht
          refine ⟨by omega, ?_⟩
          have h3 : (acc.push (bfStep acc o')).getD e.on 0 = acc.getD e.on 0 := by
            simp [Array.getElem?_push, show ¬ e.on = acc.size by omega]
          rw [h3]; exact ht

theorem before_spec (ops : Array Oper) : bfSpec (before ops) ops.toList := by
  have := bf_fold ops.toList [] #[] ⟨rfl, fun j o h => by simp at h⟩
  simp only [List.nil_append] at this
  have e : before ops = ops.toList.foldl (fun acc o => acc.push (bfStep acc o)) #[] := by
    unfold before
    rw [← Array.foldl_toList]
    rfl
  rw [e]; exact this

/-- What has come up is closed under what it waits for. -/
def Closed (ops : Array Oper) (listed : Array Bool) : Prop :=
  ∀ (j : Nat) (o : Oper), ops[j]? = some o → listed.getD j false = true → ∀ e ∈ o.after, binds .any e = true → listed.getD e.on false = true

theorem Closed.set {ops : Array Oper} {listed : Array Bool} (hc : Closed ops listed) {i : Nat} (hi : i ∈ ready .any ops listed) : Closed ops (listed.setIfInBounds i true) := by
  obtain ⟨_, oi, hoi, hall⟩ := mem_ready.1 hi
  intro j o hj hl e he hb
  by_cases hij : i = j
  · subst hij
    rw [hoi] at hj; cases hj
    exact getD_set_true (hall e he hb)
  · rw [getD_set_ne false hij] at hl
    exact getD_set_true (hc j o hj hl e he hb)

theorem not_waits {ops : Array Oper} {listed : Array Bool} (hc : Closed ops listed) {j i : Nat} (hj : j ∈ ready .any ops listed) (hi : listed.getD i true = false) : waitsB ops j i = false := by
  have key : ∀ (n j : Nat), j ≤ n → ∀ o, ops[j]? = some o → (∀ e ∈ o.after, binds .any e = true → listed.getD e.on false = true) → waitsB ops j i = true → listed.getD i false = true := by
    intro n
    induction n with
    | zero =>
      intro j hjn o ho hall hw
      obtain ⟨e, he, hb, hh⟩ := (before_spec ops).2 j o (by simpa using ho) i hw
      rcases hh with h | ⟨hlt, _⟩
      · rw [← h]; exact hall e he hb
      · omega
    | succ n ih =>
      intro j hjn o ho hall hw
      obtain ⟨e, he, hb, hh⟩ := (before_spec ops).2 j o (by simpa using ho) i hw
      rcases hh with h | ⟨hlt, ht⟩
      · rw [← h]; exact hall e he hb
      · have hl := hall e he hb
        have hlt' : j < ops.size := (Array.getElem?_eq_some_iff.1 ho).1
        have : e.on < ops.size := by omega
        exact ih e.on (by omega) ops[e.on] (by simp [this]) (fun e' he' hb' => hc e.on _ (by simp [this]) hl e' he' hb') ht
  obtain ⟨_, oj, hoj, hall⟩ := mem_ready.1 hj
  cases hw : waitsB ops j i with
  | false => rfl
  | true =>
    have := key j j (Nat.le_refl _) oj hoj hall hw
    have h2 : listed.getD i false = false := by
      rcases Nat.lt_or_ge i listed.size with h' | h'
      · simp [h'] at hi ⊢; exact hi
      · simp [Array.getElem?_eq_none h'] at hi
    rw [this] at h2; cases h2

end before

section
variable {P : Program} {ops : Array Oper} {Q : Exit → Act → World → Prop}

def wpAnyD (P : Program) (ops : Array Oper) (Q : Exit → Act → World → Prop) : Nat → List (Nat × (World → Prop)) → Array Bool → Act → World → Prop
  | 0, _, listed, a, w => Region.ready .any ops listed = [] ∧ Q .normal a w
  | fuel + 1, C, listed, a, w =>
    (Region.ready .any ops listed = [] → Q .normal a w) ∧
    ∀ i ∈ Region.ready .any ops listed, wpOp P ops Q i (fun a' w' => (∀ c ∈ C, waitsB ops i c.1 = false → c.2 w') ∧
      wpAnyD P ops Q fuel (C.filter fun c => !waitsB ops i c.1) (listed.setIfInBounds i true) a' w') a w

theorem wpAny_of_D : ∀ (fuel : Nat) (C : List (Nat × (World → Prop))) (listed : Array Bool) (a : Act) (w : World), wpAnyD P ops Q fuel C listed a w → wpAny P .any ops Q fuel listed a w
  | 0, _, _, _, _, h => h
  | fuel + 1, _, _, _, _, h => ⟨h.1, fun i hi => wpOp_mono (fun a' w' h' => wpAny_of_D fuel _ _ a' w' h'.2) (h.2 i hi)⟩

theorem wpAnyD_weaken : ∀ (fuel : Nat) (C C' : List (Nat × (World → Prop))) (listed : Array Bool) (a : Act) (w : World), (∀ c ∈ C', c ∈ C ∨ ∀ w, c.2 w) → wpAnyD P ops Q fuel C listed a w → wpAnyD P ops Q fuel C' listed a w
  | 0, _, _, _, _, _, _, h => h
  | fuel + 1, C, C', _, _, _, hs, h => ⟨h.1, fun i hi => wpOp_mono (fun a' w' h' => ⟨fun c hc hw => (hs c hc).elim (fun hm => h'.1 c hm hw) (fun ht => ht w'), wpAnyD_weaken fuel _ _ _ a' w' (fun c hc => by
      simp only [List.mem_filter] at hc ⊢
      exact (hs c hc.1).imp (fun hm => ⟨hm, hc.2⟩) id) h'.2⟩) (h.2 i hi)⟩

/-- What only reads may be taken first, if what it read is asked of the world behind each operation that may come up before it. -/
theorem wpAnyD_first {i : Nat} {oi : Oper} {v : Value} {S : World → Prop} (hi : ops[i]? = some oi) (hsel : ∀ (j : Nat) (o : Oper) cs b, ops[j]? = some o → o.op ≠ .select cs b)
    (hQ : ∀ c a w, Q (.panic c) (a.put oi.dst v) w → Q (.panic c) a w) :
    ∀ (fuel : Nat) (C : List (Nat × (World → Prop))) (listed : Array Bool) (a : Act) (w : World), Closed ops listed →
      (∀ j oj, ops[j]? = some oj → j ≠ i → listed.getD j true = false → (∀ e ∈ oj.after, Region.binds .any e = true → e.on ≠ i) → oi.apart ops oj = true) →
      i ∈ Region.ready .any ops listed → YieldsIf P ops S oi v a → S w → (∀ c ∈ C, c.2 w) →
      wpAnyD P ops Q fuel ((i, S) :: C) (listed.setIfInBounds i true) (a.put oi.dst v) w → wpAnyD P ops Q (fuel + 1) C listed a w := by
  intro fuel
  induction fuel with
  | zero =>
    intro C listed a w hcl _ hr hy hS hC H
    refine ⟨fun h => (by rw [h] at hr; cases hr), fun j hj => ?_⟩
    by_cases hji : j = i
    · subst hji; exact hy.wpOp hi hS ⟨fun c hc _ => hC c hc, H⟩
    · have := ready_mono hj hji
      rw [H.1] at this
      cases this
  | succ fuel ih =>
    intro C listed a w hcl hfree hr hy hS hC H
    refine ⟨fun h => (by rw [h] at hr; cases hr), fun j hj => ?_⟩
    by_cases hji : j = i
    · subst hji
      refine hy.wpOp hi hS ⟨fun c hc _ => hC c hc, ?_⟩
      exact wpAnyD_weaken _ _ _ _ _ _ (fun c hc => by simp only [List.mem_filter] at hc; exact .inl (List.mem_cons_of_mem _ hc.1)) H
    · have h1 := H.2 j (ready_mono hj hji)
      obtain ⟨hjun, oj, hoj, hall⟩ := mem_ready.1 hj
      have hiun := (mem_ready.1 hr).1
      have hnw : waitsB ops j i = false := not_waits hcl hj hiun
      have hnot : ∀ e ∈ oj.after, Region.binds .any e = true → e.on ≠ i := fun e he hb heq => by
        have h1 := hall e he hb
        rw [heq] at h1
        rcases Nat.lt_or_ge i listed.size with h' | h'
        · simp [h'] at hiun h1; rw [hiun] at h1; cases h1
        · simp [Array.getElem?_eq_none h'] at h1
      have h2 := wpOp_putIf hoj (hfree j oj hoj hji hjun hnot) (fun cs b => hsel i oi cs b hi) (fun cs b => hsel j oj cs b hoj) hQ hy h1
      have hfree' : ∀ k ok, ops[k]? = some ok → k ≠ i → (listed.setIfInBounds j true).getD k true = false →
          (∀ e ∈ ok.after, Region.binds .any e = true → e.on ≠ i) → oi.apart ops ok = true := fun k ok hk hki hun hno => by
        refine hfree k ok hk hki ?_ hno
        by_cases hjk : j = k
        · subst hjk; exact hjun
        · rw [getD_set_ne true hjk] at hun; exact hun
      refine wpOp_mono (fun a' w' h3 => ?_) h2
      obtain ⟨hy', hC', h4⟩ := h3
      have hS' : S w' := hC' (i, S) (by simp) hnw
      refine ⟨fun c hc hw => hC' c (by simp [hc]) hw, ih _ _ a' w' (hcl.set hj) hfree' (ready_mono hr (Ne.symm hji)) hy' hS' (fun c hc => ?_) ?_⟩
      · simp only [List.mem_filter, Bool.not_eq_true'] at hc
        exact hC' c (by simp [hc.1]) hc.2
      · rw [Array.setIfInBounds_comm _ _ hji]
        simpa [List.filter_cons, hnw] using h4

def unlisted (listed : Array Bool) : Nat := listed.toList.countP fun b => !b

theorem unlisted_set {listed : Array Bool} {i : Nat} (h : listed.getD i true = false) : unlisted (listed.setIfInBounds i true) + 1 = unlisted listed := by
  have key : ∀ (l : List Bool) (i : Nat), l[i]? = some false → (l.set i true).countP (fun b => !b) + 1 = l.countP fun b => !b := by
    intro l
    induction l with
    | nil => intro i h; simp at h
    | cons b l ih =>
      intro i h
      cases i with
      | zero => simp at h; subst h; simp
      | succ i =>
        have := ih i (by simpa using h)
        simp only [List.set_cons_succ, List.countP_cons]
        omega
  have hi : listed.toList[i]? = some false := by
    cases hh : listed[i]? with
    | none => simp [hh] at h
    | some b => simp [hh] at h; subst h; simpa using hh
  unfold unlisted
  rw [Array.toList_setIfInBounds]
  exact key _ _ hi

theorem conds_elim {ops : Array Oper} {j : Nat} {st : St} {h : Heap} : ∀ {C : List (Nat × Cond)} {K : List (Nat × Cond) → Prop}, conds ops j st h C K →
    ∃ C', K C' ∧ (∀ c ∈ C', c ∈ C ∧ waitsB ops j c.1 = false) ∧ ∀ c ∈ C, waitsB ops j c.1 = false → c.2.chk st h ∧ (c ∈ C' ∨ c.2 = .tt)
  | [], K, hc => ⟨[], hc, fun _ h => by simp at h, fun _ h => by simp at h⟩
  | (i, c) :: C, K, hc => by
    have rest : ∀ (hchk : c.chk st h) (hw : waitsB ops j i = false) {K' : List (Nat × Cond) → Prop}, (conds ops j st h C fun r => K' ((i, c) :: r)) →
        ∃ C', K' C' ∧ (∀ c' ∈ C', c' ∈ (i, c) :: C ∧ waitsB ops j c'.1 = false) ∧ ∀ c' ∈ (i, c) :: C, waitsB ops j c'.1 = false → c'.2.chk st h ∧ (c' ∈ C' ∨ c'.2 = .tt) := by
      intro hchk hw K' hc
      obtain ⟨C', hk, h1, h2⟩ := conds_elim hc
      refine ⟨_, hk, fun c' hc' => ?_, fun c' hc' hw' => ?_⟩
      · rcases List.mem_cons.1 hc' with rfl | hc'
        · exact ⟨by simp, hw⟩
        · exact ⟨by simp [(h1 c' hc').1], (h1 c' hc').2⟩
      · rcases List.mem_cons.1 hc' with rfl | hc'
        · exact ⟨hchk, .inl (by simp)⟩
        · obtain ⟨g1, g2⟩ := h2 c' hc' hw'
          exact ⟨g1, g2.imp (fun hm => by simp [hm]) id⟩
    unfold conds at hc
    split at hc
    · rename_i hw
      obtain ⟨C', hk, h1, h2⟩ := conds_elim hc
      refine ⟨C', hk, fun c hc => ⟨by simp [(h1 c hc).1], (h1 c hc).2⟩, fun c hc hw' => ?_⟩
      rcases List.mem_cons.1 hc with rfl | hc
      · rw [hw] at hw'; cases hw'
      · exact h2 c hc hw'
    · rename_i hw
      split at hc
      · obtain ⟨C', hk, h1, h2⟩ := conds_elim hc
        refine ⟨C', hk, fun c hc => ⟨by simp [(h1 c hc).1], (h1 c hc).2⟩, fun c hc hw' => ?_⟩
        rcases List.mem_cons.1 hc with rfl | hc
        · exact ⟨trivial, .inr rfl⟩
        · exact h2 c hc hw'
      · exact rest hc.1 hw hc.2
      · exact rest hc.1 hw hc.2
      · rename_i id x
        split at hc
        · rename_i x' hx'
          split at hc
          · rename_i hb
            exact rest (by simp only [Cond.chk, hx', hb]) hw hc
          · exact hc.elim
        · exact hc.elim

/-- What was read stands behind a step. -/
theorem chk_holds {st st' : St} {h' : Heap} {a : Act} {W : World} (r : Rel st' h' a W) (he : Ev st st') {c : Cond} (hg : ∀ id l, c = .loc id l → st.loc id = some l) (hk : c.chk st' h') :
    c.holds h' ∧ ∀ id l, c = .loc id l → st'.loc id = some l := by
  cases c with
  | tt => exact ⟨trivial, fun _ _ e => by cases e⟩
  | cells b off l => exact ⟨hk, fun _ _ e => by cases e⟩
  | obj b o => exact ⟨hk, fun _ _ e => by cases e⟩
  | loc id l =>
    have hl := hg id l rfl
    simp only [Cond.chk] at hk
    split at hk
    · rename_i l' hl'
      split at hk
      · rename_i hv
        have := ((he.some id l hl l' hl').2.2.2 (Nat.eq_of_beq_eq_true hv).symm)
        subst this
        exact ⟨r.loc _ _ hl', fun id' l2 e => by cases e; exact hl'⟩
      · exact hk.elim
    · exact hk.elim

theorem clearF_get : ∀ (w : List Nat) (f : List SV) (i : Nat), (clearF w f).getD i .unk = if i ∈ w then .unk else f.getD i .unk
  | [], f, i => by simp [clearF]
  | j :: w, f, i => by
    rw [clearF, clearF_get w]
    by_cases h1 : i ∈ w
    · simp [h1]
    · by_cases h2 : i = j
      · subst h2
        simp only [h1, if_false, List.mem_cons, true_or, if_true]
        by_cases hl : i < f.length
        · simp [hl]
        · simp [hl]
      · have h3 : ¬ j = i := fun e => h2 e.symm
        simp [h1, h2, h3]

theorem clearF_length : ∀ (w : List Nat) (f : List SV), (clearF w f).length = f.length
  | [], f => rfl
  | j :: w, f => by rw [clearF, clearF_length w]; simp

theorem Rel.clear {st : St} {h : Heap} {a : Act} {W : World} (r : Rel st h a W) (w : List Nat) : Rel (st.clear w) h a W := by
  refine ⟨r.heap, r.ds, by simpa [St.clear, clearF_length] using r.len, fun i => ?_, r.loc, r.apart⟩
  have hs := r.slot i
  unfold St.get St.clear at *
  simp only [clearF_get]
  split
  · trivial
  · exact SVr.of_ls rfl hs

/-- A panic's state knows nothing of what a region writes. -/
def Qclear (w : List Nat) (Qp : List PanicEntry → St → Heap → Prop) (c : List PanicEntry) (s : St) (h : Heap) : Prop := Qp c s h ∧ ∀ d ∈ w, s.get d = .unk

theorem clear_get {st : St} {w : List Nat} {d : Nat} (h : d ∈ w) : (st.clear w).get d = .unk := by
  unfold St.get St.clear
  rw [clearF_get, if_pos h]

theorem Rel.unput {s : St} {h : Heap} {a : Act} {W : World} {d : Option Nat} {v : Value} (r : Rel s h (a.put d v) W) (hd : ∀ x, d = some x → s.get x = .unk) : Rel s h a W := by
  cases d with
  | none => exact r
  | some d =>
    refine ⟨r.heap, r.ds, by simpa [Act.put] using r.len, fun i => ?_, r.loc, r.apart⟩
    by_cases e : i = d
    · subst e; rw [hd i rfl]; trivial
    · have := r.slot i
      have h2 : (a.tmps.setIfInBounds d v).getD i undef = a.tmps.getD i undef := by
        simp [Array.getElem?_setIfInBounds_ne (fun x => e x.symm)]
      simp only [Act.put] at this
      rw [h2] at this; exact this

theorem ready_unlisted {listed : Array Bool} {i : Nat} (hi : i ∈ Region.ready .any ops listed) : unlisted (listed.setIfInBounds i true) + 1 = unlisted listed :=
  unlisted_set (mem_ready.1 hi).1

/-- The conditions on worlds. -/
def cw (C : List (Nat × Cond)) : List (Nat × (World → Prop)) := C.map fun c => (c.1, fun w : World => c.2.holds w.heap)

theorem cw_filter (C : List (Nat × Cond)) (j : Nat) : (cw C).filter (fun c => !waitsB ops j c.1) = cw (C.filter fun c => !waitsB ops j c.1) := by
  unfold cw
  rw [List.filter_map]
  rfl

theorem D_of_T {fuel : Nat} {C : List (Nat × (World → Prop))} {listed : Array Bool} {a : Act} {W : World} (hu : unlisted listed ≤ fuel)
    (h1 : Region.ready .any ops listed = [] → Q .normal a W)
    (h2 : ∀ f, unlisted listed ≤ f + 1 → ∀ j ∈ Region.ready .any ops listed, j ∉ ([] : List Nat) →
        wpOp P ops Q j (fun a' w' => (∀ c ∈ C, waitsB ops j c.1 = false → c.2 w') ∧ wpAnyD P ops Q f (C.filter fun c => !waitsB ops j c.1) (listed.setIfInBounds j true) a' w') a W) :
    wpAnyD P ops Q fuel C listed a W := by
  cases fuel with
  | zero =>
    have : Region.ready .any ops listed = [] := by
      cases hr : Region.ready .any ops listed with
      | nil => rfl
      | cons i l =>
        have := ready_unlisted (ops := ops) (listed := listed) (i := i) (by rw [hr]; simp)
        omega
    exact ⟨this, h1 this⟩
  | succ f => exact ⟨h1, fun i hi => h2 f hu i hi (by simp)⟩

/-- What is known while a region's operations come up. -/
structure Dr (ops : Array Oper) (st0 : St) (a0 : Act) (W0 : World) (listed : Array Bool) (C : List (Nat × Cond)) (st : St) (a : Act) (W : World) : Prop where
  rel : Rel st W.heap a W
  closed : Closed ops listed
  conds : ∀ c ∈ C, c.2.holds W.heap ∧ ∀ id l, c.2 = .loc id l → st.loc id = some l
  ev : Ev st0 st
  agree : Agree (dsts ops.toList) a0 a
  out : Out W0 W

theorem dst_mem {i : Nat} {o : Oper} (ho : ops[i]? = some o) : ∀ d, o.dst = some d → d ∈ dsts ops.toList := fun d hd =>
  List.mem_filterMap.2 ⟨o, by simpa using Array.mem_of_getElem? ho, hd⟩

theorem Dr.of_ls {st0 : St} {a0 : Act} {W0 : World} {listed : Array Bool} {C : List (Nat × Cond)} {st st1 : St} {a : Act} {W : World} (d : Dr ops st0 a0 W0 listed C st a W)
    (r : Rel st1 W.heap a W) (hl : st1.ls = st.ls) (hd : st1.ds = st.ds) : Dr ops st0 a0 W0 listed C st1 a W :=
  ⟨r, d.closed, fun c hc => ⟨(d.conds c hc).1, fun id l e => by have := (d.conds c hc).2 id l e; simpa [St.loc, hl] using this⟩, d.ev.trans (Ev.of_ls hl hd), d.agree, d.out⟩

theorem QRP_unput {st0 : St} {a0 : Act} {W0 : World} {K : St → Heap → Prop} {Qp : List PanicEntry → St → Heap → Prop} {i : Nat} {o : Oper} {v : Value} (ho : ops[i]? = some o) :
    ∀ c a w, RP st0 a0 W0 (dsts ops.toList) K (Qclear (dsts ops.toList) Qp) (.panic c) (a.put o.dst v) w → RP st0 a0 W0 (dsts ops.toList) K (Qclear (dsts ops.toList) Qp) (.panic c) a w := by
  rintro c a w ⟨⟨s, ⟨hq, hcl⟩, hr, he⟩, hag, hs⟩
  have hd := dst_mem ho
  have hg := Agree.put (wr := dsts ops.toList) a o.dst v hd
  exact ⟨⟨s, ⟨hq, hcl⟩, hr.unput fun x hx => hcl x (hd x hx), he⟩, ⟨hg.size.symm.trans hag.size, fun i hi => (hg.slot i hi).symm.trans (hag.slot i hi)⟩, hs⟩

theorem draw_sound (hng : ∀ (f : Nat) (fn : Func), P.funcs[f]? = some fn → (fn.name == "runtime.NumGoroutine") = false) (hsel : Region.noSelect ops = true) {pl : Plan}
    {K : St → Heap → Prop} {Qp : List PanicEntry → St → Heap → Prop} (st0 : St) (a0 : Act) (W0 : World) :
    ∀ (p : DPlan) (seen : List Nat) (listed : Array Bool) (C : List (Nat × Cond)) (st : St) (a : Act) (W : World), Dr ops st0 a0 W0 listed C st a W →
      vcDraw P pl ops (fun c st h => Qp c (st.clear (dsts ops.toList)) h) K p seen listed C st W.heap →
      (Region.ready .any ops listed = [] → RP st0 a0 W0 (dsts ops.toList) K (Qclear (dsts ops.toList) Qp) .normal a W) ∧
      ∀ f, unlisted listed ≤ f + 1 → ∀ j ∈ Region.ready .any ops listed, j ∉ seen →
        wpOp P ops (RP st0 a0 W0 (dsts ops.toList) K (Qclear (dsts ops.toList) Qp)) j (fun a' w' => (∀ c ∈ cw C, waitsB ops j c.1 = false → c.2 w') ∧
          wpAnyD P ops (RP st0 a0 W0 (dsts ops.toList) K (Qclear (dsts ops.toList) Qp)) f ((cw C).filter fun c => !waitsB ops j c.1) (listed.setIfInBounds j true) a' w') a W := by
  intro p
  -- an operation that acts
  have acts : ∀ (rest : DPlan), (∀ (seen : List Nat) (listed : Array Bool) (C : List (Nat × Cond)) (st : St) (a : Act) (W : World), Dr ops st0 a0 W0 listed C st a W →
      vcDraw P pl ops (fun c st h => Qp c (st.clear (dsts ops.toList)) h) K rest seen listed C st W.heap →
      (Region.ready .any ops listed = [] → RP st0 a0 W0 (dsts ops.toList) K (Qclear (dsts ops.toList) Qp) .normal a W) ∧
      ∀ f, unlisted listed ≤ f + 1 → ∀ j ∈ Region.ready .any ops listed, j ∉ seen →
        wpOp P ops (RP st0 a0 W0 (dsts ops.toList) K (Qclear (dsts ops.toList) Qp)) j (fun a' w' => (∀ c ∈ cw C, waitsB ops j c.1 = false → c.2 w') ∧
          wpAnyD P ops (RP st0 a0 W0 (dsts ops.toList) K (Qclear (dsts ops.toList) Qp)) f ((cw C).filter fun c => !waitsB ops j c.1) (listed.setIfInBounds j true) a' w') a W) →
      ∀ (i : Nat) (o : Oper) (listed : Array Bool) (C : List (Nat × Cond)) (st : St) (a : Act) (W : World), ops[i]? = some o → Dr ops st0 a0 W0 listed C st a W → i ∈ Region.ready .any ops listed →
      vcG P pl ops.toList o
          (fun st => vcOp P pl o st W.heap (fun st' h' => conds ops i st' h' C fun C' => vcDraw P pl ops (fun c st h => Qp c (st.clear (dsts ops.toList)) h) K rest [] (listed.setIfInBounds i true) C' st' h') (fun c st h => Qp c (st.clear (dsts ops.toList)) h))
          (fun st => conds ops i st W.heap C fun C' => vcDraw P pl ops (fun c st h => Qp c (st.clear (dsts ops.toList)) h) K rest [] (listed.setIfInBounds i true) C' (st.put o.dst (.tup [])) W.heap) st →
      ∀ f, unlisted listed ≤ f + 1 →
        wpOp P ops (RP st0 a0 W0 (dsts ops.toList) K (Qclear (dsts ops.toList) Qp)) i (fun a' w' => (∀ c ∈ cw C, waitsB ops i c.1 = false → c.2 w') ∧
          wpAnyD P ops (RP st0 a0 W0 (dsts ops.toList) K (Qclear (dsts ops.toList) Qp)) f ((cw C).filter fun c => !waitsB ops i c.1) (listed.setIfInBounds i true) a' w') a W := by
    intro rest ih i o listed C st a W ho d hi hv f hu
    have hu' : unlisted (listed.setIfInBounds i true) ≤ f := by have := ready_unlisted (ops := ops) hi; omega
    -- behind it
    have behind : ∀ (st1 st' : St) (a' : Act) (W' : World), (st1.ls = st.ls ∧ st1.ds = st.ds) → Ev st1 st' → Rel st' W'.heap a' W' → Agree (dsts ops.toList) a a' → Out W W' →
        (conds ops i st' W'.heap C fun C' => vcDraw P pl ops (fun c st h => Qp c (st.clear (dsts ops.toList)) h) K rest [] (listed.setIfInBounds i true) C' st' W'.heap) →
        (∀ c ∈ cw C, waitsB ops i c.1 = false → c.2 W') ∧
          wpAnyD P ops (RP st0 a0 W0 (dsts ops.toList) K (Qclear (dsts ops.toList) Qp)) f ((cw C).filter fun c => !waitsB ops i c.1) (listed.setIfInBounds i true) a' W' := by
      intro st1 st' a' W' hls hev hr hag ho' hc
      obtain ⟨C', hk, h1, h2⟩ := conds_elim hc
      have hev' : Ev st st' := (Ev.of_ls hls.1 hls.2).trans hev
      have good : ∀ c ∈ C, waitsB ops i c.1 = false → c.2.holds W'.heap ∧ ∀ id l, c.2 = .loc id l → st'.loc id = some l := fun c hc hw =>
        chk_holds hr hev' (d.conds c hc).2 (h2 c hc hw).1
      refine ⟨fun c hc hw => ?_, ?_⟩
      · obtain ⟨x, hx, rfl⟩ := List.mem_map.1 hc
        exact (good x hx hw).1
      · have d' : Dr ops st0 a0 W0 (listed.setIfInBounds i true) C' st' a' W' :=
          ⟨hr, d.closed.set hi, fun c hc => good c (h1 c hc).1 (h1 c hc).2, d.ev.trans hev', d.agree.trans hag, d.out.trans ho'⟩
        obtain ⟨t1, t2⟩ := ih [] _ C' st' a' W' d' hk
        have hD := D_of_T hu' t1 t2
        refine wpAnyD_weaken _ _ _ _ _ _ (fun c hc => ?_) hD
        simp only [List.mem_filter, Bool.not_eq_true'] at hc
        obtain ⟨x, hx, rfl⟩ := List.mem_map.1 hc.1
        rcases (h2 x hx hc.2).2 with hm | ht
        · exact .inl (List.mem_map.2 ⟨x, hm, rfl⟩)
        · refine .inr fun w => ?_
          show x.2.holds w.heap
          rw [ht]; trivial
    obtain ⟨st1, r1, hls, ⟨hwant, hv⟩ | ⟨hwant, hv⟩⟩ := vcG_elim d.rel hv
    · unfold wpOp
      simp only [ho]
      rw [if_pos hwant]
      refine .inl (wp_conv ?_ ?_ ?_ (vcOp_sound hng r1 hv))
      · rintro a' W' ⟨⟨v, rfl⟩, hout, st', hc, hr', hev⟩
        exact behind st1 st' _ W' hls hev hr' (Agree.put a o.dst v (dst_mem ho)) hout hc
      · rintro c a' W' ⟨c', st', he, hq, hr', hev, rfl, hout⟩
        cases he
        exact ⟨⟨st'.clear (dsts ops.toList), ⟨hq, fun x hx => clear_get hx⟩, hr'.clear _, (d.ev.trans (Ev.of_ls hls.1 hls.2)).trans (hev.trans (Ev.of_ls rfl))⟩, d.agree, d.out.trans hout⟩
      · rintro ⟨a', W', c', st', he, _⟩
        cases he
    · unfold wpOp
      simp only [ho]
      rw [if_neg (by rw [hwant]; simp)]
      have hc2 : conds ops i (st1.put o.dst (.tup [])) W.heap C fun C' => vcDraw P pl ops (fun c st h => Qp c (st.clear (dsts ops.toList)) h) K rest [] (listed.setIfInBounds i true) C' (st1.put o.dst (.tup [])) W.heap := by
        have gen : ∀ (C : List (Nat × Cond)) (s s' : St) (X : List (Nat × Cond) → Prop), s'.ls = s.ls → conds ops i s W.heap C X → conds ops i s' W.heap C X := by
          intro C
          induction C with
          | nil => intro s s' X _ h; exact h
          | cons c C ihC =>
            intro s s' X hl h
            obtain ⟨k, c⟩ := c
            unfold conds at h ⊢
            split
            · rename_i hw; simp only [hw] at h; exact ihC _ _ _ hl h
            · rename_i hw
              simp only [hw] at h
              cases c with
              | tt => exact ihC _ _ _ hl h
              | cells b off l => exact ⟨h.1, ihC _ _ _ hl h.2⟩
              | obj b ob => exact ⟨h.1, ihC _ _ _ hl h.2⟩
              | loc id l =>
                have e : s'.loc id = s.loc id := by simp [St.loc, hl]
                simp only at h ⊢
                rw [e]
                split
                · rename_i x' hx'
                  rw [hx'] at h
                  simp only at h
                  split
                  · rename_i hb
                    simp only [hb] at h
                    exact ihC _ _ _ hl h
                  · rename_i hb
                    simp only [hb] at h
                · rename_i hx'
                  rw [hx'] at h
                  exact h
        exact gen C st1 _ _ (by cases o.dst <;> rfl) hv
      exact behind st1 _ _ W hls (Ev.of_ls (by cases o.dst <;> rfl) (by cases o.dst <;> rfl)) (r1.put (s := .tup []) rfl) (Agree.put a o.dst undef (dst_mem ho)) (Out.refl _) hc2
  induction p with
  | done =>
    intro seen listed C st a W d hv
    simp only [vcDraw] at hv
    split at hv
    · rename_i hr
      have hr : Region.ready .any ops listed = [] := by simpa [readyIs] using hr
      exact ⟨fun _ => ⟨⟨st, hv, d.rel, d.ev⟩, d.agree, d.out⟩, fun f _ j hj => by rw [hr] at hj; cases hj⟩
    · exact hv.elim
  | still i rest ih =>
    intro seen listed C st a W d hv
    simp only [vcDraw] at hv
    split at hv
    · rename_i hmf
      simp only [mayFirst, Bool.and_eq_true] at hmf
      have hi : i ∈ Region.ready .any ops listed := by simpa using hmf.1
      obtain ⟨o, ho, hv⟩ := opt_some hv
      split at hv
      · refine ⟨fun h => (by rw [h] at hi; cases hi), fun f hu j hj _ => ?_⟩
        have hu' : unlisted (listed.setIfInBounds i true) ≤ f := by have := ready_unlisted (ops := ops) hi; omega
        have hC : ∀ c ∈ cw C, c.2 W := fun c hc => by
          obtain ⟨x, hx, rfl⟩ := List.mem_map.1 hc
          exact (d.conds x hx).1
        obtain ⟨st1, r1, hls, ⟨hwant, hv⟩ | ⟨hwant, hv⟩⟩ := vcG_elim d.rel hv
        · obtain ⟨v, s, c, hk, hs, hc, hg, hrun⟩ := vcS_sound r1 hv
          have d1 := d.of_ls r1 hls.1 hls.2
          have d2 : Dr ops st0 a0 W0 (listed.setIfInBounds i true) ((i, c) :: C) (st1.put o.dst s) (a.put o.dst v) W := by
            have hpl : (st1.put o.dst s).ls = st1.ls := by cases o.dst <;> rfl
            refine ⟨r1.put hs, d.closed.set hi, fun x hx => ?_, d1.ev.trans (Ev.of_ls hpl (by cases o.dst <;> rfl)), d.agree.trans (Agree.put a o.dst v (dst_mem ho)), d.out⟩
            have hloc : ∀ id, (st1.put o.dst s).loc id = st1.loc id := fun id => by simp [St.loc, hpl]
            rcases List.mem_cons.1 hx with rfl | hx
            · exact ⟨hc, fun id l e => by rw [hloc]; exact hg id l e⟩
            · exact ⟨(d1.conds x hx).1, fun id l e => by rw [hloc]; exact (d1.conds x hx).2 id l e⟩
          obtain ⟨t1, t2⟩ := ih [] _ _ _ _ W d2 hk
          have hD := D_of_T hu' t1 t2
          have := wpAnyD_first (P := P) (S := fun w => c.holds w.heap) ho (fun j o cs b => Region.noSelect_spec hsel j o cs b) (QRP_unput ho) f (cw C) listed a W d.closed
            (fun j oj hj hne hun hno => Region.free_spec ho hmf.2 j oj hj hne hun hno) hi (.inl ⟨hwant, fun w hw => hrun w hw⟩) hc hC hD
          exact this.2 j hj
        · have d1 := d.of_ls r1 hls.1 hls.2
          have d2 : Dr ops st0 a0 W0 (listed.setIfInBounds i true) C (st1.put o.dst (.tup [])) (a.put o.dst undef) W := by
            have hpl : (st1.put o.dst (.tup [])).ls = st1.ls := by cases o.dst <;> rfl
            have hloc : ∀ id, (st1.put o.dst (.tup [])).loc id = st1.loc id := fun id => by simp [St.loc, hpl]
            exact ⟨r1.put (s := .tup []) rfl, d.closed.set hi, fun x hx => ⟨(d1.conds x hx).1, fun id l e => by rw [hloc]; exact (d1.conds x hx).2 id l e⟩, d1.ev.trans (Ev.of_ls hpl (by cases o.dst <;> rfl)), d.agree.trans (Agree.put a o.dst undef (dst_mem ho)), d.out⟩
          obtain ⟨t1, t2⟩ := ih [] _ _ _ _ W d2 hv
          have hD := D_of_T hu' t1 t2
          have hD' := wpAnyD_weaken f (cw C) ((i, fun _ => True) :: cw C) _ _ _ (fun c hc => by
            rcases List.mem_cons.1 hc with rfl | hc
            · exact .inr fun _ => trivial
            · exact .inl hc) hD
          have := wpAnyD_first (P := P) (S := fun _ => True) ho (fun j o cs b => Region.noSelect_spec hsel j o cs b) (QRP_unput ho) f (cw C) listed a W d.closed
            (fun j oj hj hne hun hno => Region.free_spec ho hmf.2 j oj hj hne hun hno) hi (.inr ⟨hwant, rfl⟩) trivial hC hD'
          exact this.2 j hj
      · exact hv.elim
    · exact hv.elim
  | mem i rest ih =>
    intro seen listed C st a W d hv
    simp only [vcDraw] at hv
    split at hv
    · rename_i hr
      have hr : Region.ready .any ops listed = seen.reverse ++ [i] := by simpa [readyIs] using hr
      obtain ⟨o, ho, hv⟩ := opt_some hv
      refine ⟨fun h => (by rw [h] at hr; simp at hr), fun f hu j hj hns => ?_⟩
      have : j = i := by
        rw [hr] at hj
        simp at hj
        exact hj.resolve_left hns
      subst this
      exact acts rest ih j o listed C st a W ho d hj hv f hu
    · exact hv.elim
  | alt i rest other ih1 ih2 =>
    intro seen listed C st a W d hv
    simp only [vcDraw] at hv
    obtain ⟨hv1, hv2⟩ := hv
    obtain ⟨o, ho, hv1⟩ := opt_some hv1
    obtain ⟨t1, t2⟩ := ih2 (i :: seen) listed C st a W d hv2
    refine ⟨t1, fun f hu j hj hns => ?_⟩
    by_cases e : j = i
    · subst e
      exact acts rest ih1 j o listed C st a W ho d hj hv1 f hu
    · exact t2 f hu j hj (by simp [e, hns])

end
end Go.V
