/- This text proves a part of the laws of seat Yteojmnnobmpdiaa, under no condition: C12a C12b. -/
import Derived.Test.YteojmnnobmpdiaaCJ
set_option linter.unusedVariables false
set_option linter.unusedSimpArgs false
/-! Two caches of which parts are alike. -/
namespace Go.V.Yteojmnnobmpdiaa
open Go Go.V

/-- One part is another one, its entries called otherwise. -/
structure RS (f : Nat → Nat) (it it' : Nat → Option It) (s s' : Sh) : Prop where
  all : s'.all = s.all.map f
  waits : s'.waits = s.waits.map f
  ins : s'.ins = s.ins.map fun e => (e.1, f e.2)
  inj : ∀ p ∈ s.all, ∀ q ∈ s.all, f p = f q → p = q
  it : ∀ p ∈ s.all, it' (f p) = it p

/-- The parts of J are alike. -/
structure RX (J : Nat → Prop) (f : Nat → Nat) (σ σ' : CS) : Prop where
  len : σ'.sh.length = σ.sh.length
  room : σ'.room = σ.room
  strict : σ'.strict = σ.strict
  sh : ∀ j s s', J j → σ.sh[j]? = some s → σ'.sh[j]? = some s' → RS f σ.it σ'.it s s'

theorem map_erase_inj {f : Nat → Nat} {x : Nat} : ∀ {l : List Nat}, (∀ p ∈ l, f p = f x → p = x) → (l.map f).erase (f x) = (l.erase x).map f
  | [], _ => rfl
  | p :: l, h => by
    by_cases hp : p = x
    · subst hp; simp
    · have hp' : ¬ f p = f x := fun e => hp (h p (List.mem_cons_self ..) e)
      rw [List.map_cons, List.erase_cons_tail (by simpa using hp'), List.erase_cons_tail (by simpa using hp), List.map_cons, map_erase_inj fun q hq => h q (List.mem_cons_of_mem _ hq)]
theorem map_filter_inj {f : Nat → Nat} {x : Nat} : ∀ {l : List Nat}, (∀ p ∈ l, f p = f x → p = x) → (l.map f).filter (fun p => !decide (p = f x)) = (l.filter fun p => !decide (p = x)).map f
  | [], _ => rfl
  | p :: l, h => by
    have ih := map_filter_inj (f := f) (x := x) (l := l) fun q hq => h q (List.mem_cons_of_mem _ hq)
    by_cases hp : p = x
    · subst hp; simp [ih]
    · have hp' : ¬ f p = f x := fun e => hp (h p (List.mem_cons_self ..) e)
      simp [hp, hp', ih]
theorem adel_map {f : Nat → Nat} {k : ByteArray} : ∀ (l : List (ByteArray × Nat)), adel .str k (l.map fun e => (e.1, f e.2)) = (adel .str k l).map fun e => (e.1, f e.2)
  | [] => rfl
  | e :: l => by
    by_cases h : keq .str k e.1 = true
    · have h' : keq .str k ((e.1, f e.2) : ByteArray × Nat).1 = true := h
      rw [List.map_cons, adel, adel, if_pos h, if_pos h']
    · have h' : ¬ keq .str k ((e.1, f e.2) : ByteArray × Nat).1 = true := h
      rw [List.map_cons, adel, adel, if_neg h, if_neg h', List.map_cons, adel_map l]
theorem lookK_map {f : Nat → Nat} {k : ByteArray} (l : List (ByteArray × Nat)) : lookK k (l.map fun e => (e.1, f e.2)) = (lookK k l).map f := by
  unfold lookK
  rw [List.find?_map]
  cases h : l.find? fun e => strEq k e.1 with
  | none =>
    have : l.find? ((fun e : ByteArray × Nat => strEq k e.1) ∘ fun e : ByteArray × Nat => (e.1, f e.2)) = none := h
    rw [this]; rfl
  | some e =>
    have : l.find? ((fun e : ByteArray × Nat => strEq k e.1) ∘ fun e : ByteArray × Nat => (e.1, f e.2)) = some e := h
    rw [this]; rfl

theorem RS.used {f : Nat → Nat} {it it' : Nat → Option It} {s s' : Sh} (r : RS f it it' s s') : usedS it' s' = usedS it s := by
  unfold usedS
  rw [r.all, List.map_map]
  congr 2
  apply List.map_congr_left
  intro p hp
  simp only [Function.comp, chOf, r.it p hp]

/-- One part, one entry are put anew on both sides. -/
theorem RX.upd {J : Nat → Prop} {f f1 : Nat → Nat} {σ σ' σ1 σ1' : CS} {i x x' : Nat} {t t' : Sh} {m : Nat} (I : Inv m σ) (r : RX J f σ σ') (hsh : σ1.sh = σ.sh.set i t) (hsh' : σ1'.sh = σ'.sh.set i t') (hr : σ1'.room = σ1.room) (hst : σ1'.strict = σ1.strict)
    (hit : ∀ p, p ≠ x → σ1.it p = σ.it p) (hit' : ∀ p, p ≠ x' → σ1'.it p = σ'.it p) (hx : ∀ (j : Nat) (s : Sh), σ.sh[j]? = some s → j ≠ i → x ∉ s.all) (hx' : ∀ (j : Nat) (s : Sh), σ'.sh[j]? = some s → j ≠ i → x' ∉ s.all)
    (hf : ∀ p, p ≠ x → f1 p = f p) (S : J i → i < σ.sh.length → RS f1 σ1.it σ1'.it t t') : RX J f1 σ1 σ1' := by
  refine ⟨by rw [hsh, hsh']; simp [r.len], hr, hst, fun j s s' hj hs hs' => ?_⟩
  rw [hsh, List.getElem?_set] at hs
  rw [hsh', List.getElem?_set] at hs'
  by_cases hij : i = j
  · subst hij
    simp only [if_true] at hs hs'
    split at hs
    · rename_i hlt
      cases hs
      split at hs'
      · cases hs'; exact S hj hlt
      · cases hs'
    · cases hs
  · rw [if_neg hij] at hs hs'
    have R := r.sh j s s' hj hs hs'
    have hne : ∀ p ∈ s.all, p ≠ x := fun p hp e => hx j s hs (fun e => hij e.symm) (e ▸ hp)
    have hne' : ∀ p ∈ s.all, f p ≠ x' := fun p hp e => hx' j s' hs' (fun e => hij e.symm) (by rw [R.all, ← e]; exact List.mem_map_of_mem hp)
    have hmap : s.all.map f1 = s.all.map f := List.map_congr_left fun p hp => hf p (hne p hp)
    refine ⟨by rw [hmap]; exact R.all, ?_, ?_, fun p hp q hq h => ?_, fun p hp => ?_⟩
    · rw [R.waits]
      exact List.map_congr_left fun p hp => (hf p (hne p (((I.sh j s hs).w p).1 hp).1)).symm
    · rw [R.ins]
      exact List.map_congr_left fun e he => by rw [hf e.2 (hne e.2 ((I.sh j s hs).ins e he).1)]
    · rw [hf p (hne p hp), hf q (hne q hq)] at h; exact R.inj p hp q hq h
    · rw [hf p (hne p hp), hit' _ (hne' p hp), hit _ (hne p hp)]; exact R.it p hp

/-- What lies in one part lies in no other. -/
theorem Inv.only {m : Nat} {σ : CS} {i x : Nat} {s : Sh} (I : Inv m σ) (hs : σ.sh[i]? = some s) (hm : x ∈ s.all) : ∀ (j : Nat) (t : Sh), σ.sh[j]? = some t → j ≠ i → x ∉ t.all := fun j t ht hj hx => hj (I.apart ht hs hx hm)

theorem goneS_shs (σ : CS) (i : Nat) (s : Sh) (x : Nat) (X : It) : (goneS σ i s x X).sh = σ.sh.set i ⟨if X.inn then adel .str X.key s.ins else s.ins, s.all.erase x, s.waits.filter fun p => !decide (p = x)⟩ := by
  unfold goneS CS.setSh CS.setIt; split <;> rfl

theorem RS.mem {f : Nat → Nat} {it it' : Nat → Option It} {s s' : Sh} (r : RS f it it' s s') {p : Nat} (h : p ∈ s.all) : f p ∈ s'.all := by rw [r.all]; exact List.mem_map_of_mem h

/-- An entry goes, on both sides. -/
theorem RX.gone {J : Nat → Prop} {f : Nat → Nat} {σ σ' : CS} {i x m m' : Nat} {s s' : Sh} {X : It} (r : RX J f σ σ') (I : Inv m σ) (I' : Inv m' σ') (hJ : J i) (hs : σ.sh[i]? = some s) (hs' : σ'.sh[i]? = some s') (hm : x ∈ s.all) (hX : σ.it x = some X) :
    RX J f (goneS σ i s x X) (goneS σ' i s' (f x) X) := by
  have R := r.sh i s s' hJ hs hs'
  have hX' : σ'.it (f x) = some X := by rw [R.it x hm]; exact hX
  have hm' := R.mem hm
  have g := goneS_same σ i s x X
  have g' := goneS_same σ' i s' (f x) X
  refine r.upd (x := x) (x' := f x) I (goneS_shs ..) (goneS_shs ..) (by rw [g.room, g'.room, r.room]) (by rw [g.strict, g'.strict, r.strict]) (fun p hp => by rw [goneS_it hX]; simp [hp]) (fun p hp => by rw [goneS_it hX']; simp [hp]) (I.only hs hm) (I'.only hs' hm') (fun _ _ => rfl) fun _ _ => ?_
  have S := I.sh i s hs
  have hinjx : ∀ p ∈ s.all, f p = f x → p = x := fun p hp h => R.inj p hp x hm h
  refine ⟨?_, ?_, ?_, fun p hp q hq h => R.inj p (List.erase_subset hp) q (List.erase_subset hq) h, fun p hp => ?_⟩
  · simp only
    rw [R.all, map_erase_inj hinjx]
  · simp only
    rw [R.waits, map_filter_inj fun p hp => hinjx p ((S.w p).1 hp).1]
  · simp only
    split
    · rw [R.ins, adel_map]
    · exact R.ins
  · have hp' := (List.Nodup.mem_erase_iff S.nd).1 hp
    rw [goneS_it hX', goneS_it hX]
    have : f p ≠ f x := fun h => hp'.1 (hinjx p hp'.2 h)
    rw [if_neg this, if_neg hp'.1]
    exact R.it p hp'.2

theorem RX.makes {J : Nat → Prop} {f : Nat → Nat} {i m m' : Nat} (hJ : J i) (more room : Int) : ∀ (n : Nat) {σ σ' : CS}, RX J f σ σ' → Inv m σ → Inv m' σ' → RX J f (makesS i more room n σ) (makesS i more room n σ')
  | 0, σ, σ', r, _, _ => r
  | n + 1, σ, σ', r, I, I' => by
    unfold makesS
    cases hs : σ.sh[i]? with
    | none =>
      have : σ'.sh[i]? = none := by rw [List.getElem?_eq_none_iff] at hs ⊢; rw [r.len]; exact hs
      rw [this]; exact r
    | some s =>
      have hi := sh_lt hs
      have hs' : σ'.sh[i]? = some (σ'.sh[i]'(by rw [r.len]; exact hi)) := List.getElem?_eq_getElem _
      generalize σ'.sh[i]'(by rw [r.len]; exact hi) = s' at hs'
      have R := r.sh i s s' hJ hs hs'
      rw [hs']
      simp only
      cases hw : s.waits with
      | nil =>
        have : s'.waits = [] := by rw [R.waits, hw]; rfl
        rw [this]; exact r
      | cons x rest =>
        have hw' : s'.waits = f x :: rest.map f := by rw [R.waits, hw]; rfl
        rw [hw']
        simp only
        rw [R.used]
        have S := I.sh i s hs
        obtain ⟨hm, X, hX, hin, hp⟩ := (S.w x).1 (by rw [hw]; exact List.mem_cons_self ..)
        have hX' : σ'.it (f x) = some X := by rw [R.it x hm]; exact hX
        split
        · simp only [hX, hX']
          exact RX.makes hJ more room n (r.gone I I' hJ hs hs' hm hX) (I.gone hs hm hX hp) (I'.gone hs' (R.mem hm) hX' hp)
        · exact r

theorem RX.share {J : Nat → Prop} {f : Nat → Nat} {σ σ' : CS} (r : RX J f σ σ') : share σ' = share σ := by unfold Yteojmnnobmpdiaa.share; rw [r.room, r.len]
theorem RX.at {J : Nat → Prop} {f : Nat → Nat} {σ σ' : CS} (r : RX J f σ σ') {i : Nat} (hi : i < σ.sh.length) (hJ : J i) : ∃ s s', σ.sh[i]? = some s ∧ σ'.sh[i]? = some s' ∧ RS f σ.it σ'.it s s' :=
  ⟨_, _, List.getElem?_eq_getElem hi, List.getElem?_eq_getElem (by rw [r.len]; exact hi), r.sh i _ _ hJ (List.getElem?_eq_getElem hi) (List.getElem?_eq_getElem _)⟩
theorem RX.sh0 {J : Nat → Prop} {f : Nat → Nat} {σ σ' : CS} (r : RX J f σ σ') (key : ByteArray) : shardOf σ'.sh.length key = shardOf σ.sh.length key := by rw [r.len]

theorem RX.room1 {J : Nat → Prop} {f : Nat → Nat} {σ σ' : CS} {m m' : Nat} (r : RX J f σ σ') (I : Inv m σ) (I' : Inv m' σ') (h1 : 1 ≤ σ.sh.length) {key : ByteArray} (hJ : J (shardOf σ.sh.length key)) (ch : Int) : RX J f (putM σ key ch) (putM σ' key ch) := by
  obtain ⟨s, s', hs, hs', R⟩ := r.at (shardOf_lt h1 key) hJ
  unfold putM
  rw [r.sh0, r.share, shAt_of hs, shAt_of hs', R.waits, List.length_map]
  exact RX.makes hJ _ _ _ r I I'

theorem RX.out {J : Nat → Prop} {f : Nat → Nat} {σ σ' : CS} {i x m m' : Nat} {s s' : Sh} {X : It} {key : ByteArray} (r : RX J f σ σ') (I : Inv m σ) (I' : Inv m' σ') (hJ : J i) (hs : σ.sh[i]? = some s) (hs' : σ'.sh[i]? = some s') (hq : (key, x) ∈ s.ins) (hX : σ.it x = some X) :
    RX J f (outS σ i s x X) (outS σ' i s' (f x) X) := by
  have R := r.sh i s s' hJ hs hs'
  have S := I.sh i s hs
  obtain ⟨hm, hk, hin⟩ := S.at hq hX
  have hX' : σ'.it (f x) = some X := by rw [R.it x hm]; exact hX
  have hm' := R.mem hm
  by_cases hp : X.pins = 0
  · rw [outS_gone hp hin, outS_gone hp hin]
    exact r.gone I I' hJ hs hs' hm hX
  · rw [outS_pinned hp, outS_pinned hp]
    have hinjx : ∀ p ∈ s.all, f p = f x → p = x := fun p hp h => R.inj p hp x hm h
    refine r.upd (x := x) (x' := f x) I (t := { s with ins := adel .str X.key s.ins }) (t' := { s' with ins := adel .str X.key s'.ins }) rfl rfl r.room r.strict (fun p hp => by rw [outP_it]; simp [hp]) (fun p hp => by rw [outP_it]; simp [hp]) (I.only hs hm) (I'.only hs' hm') (fun _ _ => rfl) fun _ _ => ?_
    refine ⟨R.all, R.waits, by rw [R.ins]; exact adel_map _, R.inj, fun p hp => ?_⟩
    rw [outP_it, outP_it]
    by_cases h : p = x
    · subst h; simp
    · have : f p ≠ f x := fun e => h (hinjx p hp e)
      rw [if_neg h, if_neg this]; exact R.it p hp

theorem RX.take {J : Nat → Prop} {f : Nat → Nat} {σ σ' : CS} {i m m' : Nat} (r : RX J f σ σ') (I : Inv m σ) (I' : Inv m' σ') (hJ : J i) (hi : i < σ.sh.length) (key : ByteArray) : RX J f (takeS σ i key) (takeS σ' i key) := by
  obtain ⟨s, s', hs, hs', R⟩ := r.at hi hJ
  unfold takeS
  rw [shAt_of hs, shAt_of hs', R.ins, lookK_map]
  cases hl : lookK key s.ins with
  | none => exact r
  | some q =>
    have hq := lookK_some hl
    obtain ⟨hm, X, hX, _⟩ := (I.sh i s hs).ins _ hq
    have hX0 : σ.it q = some X := hX
    have hX' : σ'.it (f q) = some X := by rw [R.it q hm]; exact hX0
    simp only [Option.map_some, hX0, hX']
    exact r.out I I' hJ hs hs' hq hX0

def ren (f : Nat → Nat) (p p' : Nat) (q : Nat) : Nat := if q = p then p' else f q

theorem RX.add {J : Nat → Prop} {f : Nat → Nat} {σ σ' : CS} {i m m' p p' : Nat} {key : ByteArray} {v ch : Int} (r : RX J f σ σ') (I : Inv m σ) (I' : Inv m' σ') (hi : i < σ.sh.length) (hp : σ.it p = none) (hp' : σ'.it p' = none) :
    RX J (ren f p p') (addS σ i key v ch p) (addS σ' i key v ch p') := by
  have hne : ∀ (j : Nat) (t : Sh), σ.sh[j]? = some t → p ∉ t.all := fun j t ht hm => by
    obtain ⟨X, hX, _⟩ := (I.sh j t ht).ent p hm
    rw [hp] at hX; cases hX
  have hne' : ∀ (j : Nat) (t : Sh), σ'.sh[j]? = some t → p' ∉ t.all := fun j t ht hm => by
    obtain ⟨X, hX, _⟩ := (I'.sh j t ht).ent p' hm
    rw [hp'] at hX; cases hX
  refine r.upd (x := p) (x' := p') I rfl rfl r.room r.strict (fun q hq => by simp [addS, hq]) (fun q hq => by simp [addS, hq]) (fun j t ht _ => hne j t ht) (fun j t ht _ => hne' j t ht) (fun q hq => by simp [ren, hq]) fun hJ _ => ?_
  obtain ⟨s, s', hs, hs', R⟩ := r.at hi hJ
  have S := I.sh i s hs
  have hup : ∀ q ∈ s.all, ren f p p' q = f q := fun q hq => by
    have : q ≠ p := fun e => hne i s hs (e ▸ hq)
    simp [ren, this]
  have hpp : ren f p p' p = p' := by simp [ren]
  have hfp : ∀ q ∈ s.all, f q ≠ p' := fun q hq e => hne' i s' hs' (e ▸ R.mem hq)
  rw [shAt_of hs, shAt_of hs']
  refine ⟨?_, ?_, ?_, fun a ha b hb h => ?_, fun q hq => ?_⟩
  · simp only [List.map_append, R.all, List.map_cons, List.map_nil, hpp]
    congr 1
    exact List.map_congr_left fun q hq => (hup q hq).symm
  · simp only [R.waits]
    exact List.map_congr_left fun q hq => (hup q ((S.w q).1 hq).1).symm
  · simp only [List.map_append, R.ins, List.map_cons, List.map_nil, hpp]
    congr 1
    exact List.map_congr_left fun e he => by rw [hup e.2 (S.ins e he).1]
  · simp only [List.mem_append, List.mem_singleton] at ha hb
    rcases ha with ha | ha <;> rcases hb with hb | hb
    · rw [hup a ha, hup b hb] at h; exact R.inj a ha b hb h
    · subst hb; rw [hup a ha, hpp] at h; exact absurd h (hfp a ha)
    · subst ha; rw [hup b hb, hpp] at h; exact absurd h.symm (hfp b hb)
    · rw [ha, hb]
  · simp only [List.mem_append, List.mem_singleton] at hq
    rcases hq with hq | hq
    · rw [hup q hq]
      have h1 : q ≠ p := fun e => hne i s hs (e ▸ hq)
      have h2 := hfp q hq
      simp only [addS, if_neg h1, if_neg h2]
      exact R.it q hq
    · subst hq; rw [hpp]; simp [addS]

/-- Put, on both sides. -/
theorem RX.put {J : Nat → Prop} {f : Nat → Nat} {σ σ' : CS} {m m' p p' : Nat} {key : ByteArray} {v ch : Int} (r : RX J f σ σ') (I : Inv m σ) (I' : Inv m' σ') (h1 : 1 ≤ σ.sh.length) (hJ : J (shardOf σ.sh.length key)) (hp : σ.it p = none) (hp' : σ'.it p' = none) :
    RX J (ren f p p') (putA σ key v ch p) (putA σ' key v ch p') := by
  have rM := r.room1 I I' h1 hJ ch
  have IM := putM_inv I key ch
  have IM' := putM_inv I' key ch
  have sm := putM_same σ key ch
  have sm' := putM_same σ' key ch
  have hi : shardOf σ.sh.length key < (putM σ key ch).sh.length := by rw [sm.len]; exact shardOf_lt h1 key
  have rT := rM.take IM IM' hJ hi key
  obtain ⟨s, s', hs, hs', R⟩ := rM.at hi hJ
  have hlt : shardOf σ.sh.length key < (takeS (putM σ key ch) (shardOf σ.sh.length key) key).sh.length := by rw [(takeS_same ..).len]; exact hi
  unfold putA
  rw [r.sh0]
  exact rT.add (IM.take hs) (IM'.take hs') hlt (takeS_none IM hs (makesS_none _ _ _ _ _ hp)) (takeS_none IM' hs' (makesS_none _ _ _ _ _ hp'))

end Go.V.Yteojmnnobmpdiaa
set_option linter.unusedVariables false
set_option linter.unusedSimpArgs false
/-! Free, Get on both sides; what is done in one part alone. -/
namespace Go.V.Yteojmnnobmpdiaa
open Go Go.V

theorem unpin_it {σ : CS} {n : Int} {x : Nat} {X : It} (p : Nat) : (unpin σ n x X).it p = if p = x then some { X with pins := X.pins - 1 } else σ.it p := rfl

/-- Free, on both sides. -/
theorem RX.free {J : Nat → Prop} {f : Nat → Nat} {σ σ' : CS} {m m' : Nat} {n n' : Int} {x : Nat} {X : It} (r : RX J f σ σ') (I : Inv m σ) (I' : Inv m' σ') (hn : (n, x) ∈ σ.pins) (hn' : (n', f x) ∈ σ'.pins) (hX : σ.it x = some X) (hX' : σ'.it (f x) = some X)
    (hJ : J (shardOf σ.sh.length X.key)) : RX J f (freeT σ n x X) (freeT σ' n' (f x) X) := by
  obtain ⟨s, hs, hm, eX, hp1⟩ := I.at hn hX
  obtain ⟨s', hs', hm', _, _⟩ := I'.at hn' hX'
  have hsh := r.sh0 X.key
  rw [freeT_eq (m := m) hs, freeT_eq (m := m') hs']
  have hs2 : σ'.sh[shardOf σ.sh.length X.key]? = some s' := by rw [← hsh]; exact hs'
  have R := r.sh _ s s' hJ hs hs2
  have S := I.sh _ s hs
  have hinjx : ∀ p ∈ s.all, f p = f x → p = x := fun p hp h => R.inj p hp x hm h
  have hset : ∀ {ρ : CS} {i : Nat} {t : Sh}, ρ.sh[i]? = some t → ρ.sh.set i t = ρ.sh := fun {ρ i t} ht => by
    apply List.ext_getElem?
    intro j
    rw [List.getElem?_set]
    split
    · rename_i hj; subst hj; rw [if_pos (sh_lt ht), ht]
    · rfl
  have hitR : ∀ p ∈ s.all, (unpin σ' n' (f x) X).it (f p) = (unpin σ n x X).it p := fun p hp => by
    rw [unpin_it, unpin_it]
    by_cases h : p = x
    · subst h; simp
    · have : f p ≠ f x := fun e => h (hinjx p hp e)
      rw [if_neg h, if_neg this]; exact R.it p hp
  have hU : RX J f (unpin σ n x X) (unpin σ' n' (f x) X) :=
    r.upd (x := x) (x' := f x) (i := shardOf σ.sh.length X.key) (t := s) (t' := s') I (hset hs).symm (hset hs2).symm r.room r.strict (fun p hp => by rw [unpin_it]; simp [hp]) (fun p hp => by rw [unpin_it]; simp [hp]) (I.only hs hm) (by
      intro j t ht hj
      exact I'.only hs' hm' j t ht (by rw [hsh]; exact hj)) (fun _ _ => rfl) fun _ _ => ⟨R.all, R.waits, R.ins, R.inj, hitR⟩
  split
  · exact hU
  · rename_i h1
    split
    · rename_i hin
      have hW : RX J f (waitS σ n x X s) (waitS σ' n' (f x) X s') := by
        refine r.upd (x := x) (x' := f x) (i := shardOf σ.sh.length X.key) (t := { s with waits := s.waits ++ [x] }) (t' := { s' with waits := s'.waits ++ [f x] }) I rfl (by simp only [waitS, CS.setSh, unpin, CS.setIt]; rw [hsh]) r.room r.strict
          (fun p hp => by show (unpin σ n x X).it p = _; rw [unpin_it]; simp [hp]) (fun p hp => by show (unpin σ' n' (f x) X).it p = _; rw [unpin_it]; simp [hp]) (I.only hs hm) (by
          intro j t ht hj
          exact I'.only hs' hm' j t ht (by rw [hsh]; exact hj)) (fun _ _ => rfl) fun _ _ => ⟨R.all, ?_, R.ins, R.inj, hitR⟩
        simp only [List.map_append, R.waits, List.map_cons, List.map_nil]
      rw [hsh, r.share, R.waits, List.length_map]
      exact RX.makes hJ _ _ _ hW (I.wait hn hX hs h1 hin) (I'.wait hn' hX' hs' h1 hin)
    · rename_i hin
      have hin' : X.inn = false := by simpa using hin
      have hg : ∀ {ρ : CS} {k : Int} {y i : Nat} {t : Sh}, goneS (unpin ρ k y X) i t y { X with pins := X.pins - 1 } = (unpin ρ k y X).setSh i ⟨t.ins, t.all.erase y, t.waits.filter fun p => !decide (p = y)⟩ := fun {ρ k y i t} => by
        unfold goneS; simp [hin']
      rw [hg, hg]
      refine r.upd (x := x) (x' := f x) (i := shardOf σ.sh.length X.key) (t := ⟨s.ins, s.all.erase x, s.waits.filter fun p => !decide (p = x)⟩) (t' := ⟨s'.ins, s'.all.erase (f x), s'.waits.filter fun p => !decide (p = f x)⟩) I rfl (by simp only [CS.setSh, unpin, CS.setIt]; rw [hsh]) r.room r.strict
          (fun p hp => by show (unpin σ n x X).it p = _; rw [unpin_it]; simp [hp]) (fun p hp => by show (unpin σ' n' (f x) X).it p = _; rw [unpin_it]; simp [hp]) (I.only hs hm) (by
          intro j t ht hj
          exact I'.only hs' hm' j t ht (by rw [hsh]; exact hj)) (fun _ _ => rfl) fun _ _ => ⟨?_, ?_, R.ins, fun p hp q hq h => R.inj p (List.erase_subset hp) q (List.erase_subset hq) h, fun p hp => hitR p (List.erase_subset hp)⟩
      · simp only [R.all, map_erase_inj hinjx]
      · simp only [R.waits]
        exact map_filter_inj fun p hp => hinjx p ((S.w p).1 hp).1

/-- What is done in one part alone. -/
structure Loc (i : Nat) (σ σ1 : CS) : Prop where
  oth : ∀ j s, j ≠ i → σ.sh[j]? = some s → σ1.sh[j]? = some s ∧ ∀ p ∈ s.all, σ1.it p = σ.it p
  len : σ1.sh.length = σ.sh.length
  room : σ1.room = σ.room
  strict : σ1.strict = σ.strict

theorem Loc.refl (i : Nat) (σ : CS) : Loc i σ σ := ⟨fun j s _ hs => ⟨hs, fun _ _ => rfl⟩, rfl, rfl, rfl⟩
theorem Loc.trans {i : Nat} {a b c : CS} (h : Loc i a b) (k : Loc i b c) : Loc i a c :=
  ⟨fun j s hj hs => by
    obtain ⟨h1, h2⟩ := h.oth j s hj hs
    obtain ⟨k1, k2⟩ := k.oth j s hj h1
    exact ⟨k1, fun p hp => (k2 p hp).trans (h2 p hp)⟩, k.len.trans h.len, k.room.trans h.room, k.strict.trans h.strict⟩
theorem Loc.mk1 {i x : Nat} {σ σ1 : CS} {t : Sh} (hsh : σ1.sh = σ.sh.set i t) (hit : ∀ p, p ≠ x → σ1.it p = σ.it p) (hx : ∀ (j : Nat) (s : Sh), σ.sh[j]? = some s → j ≠ i → x ∉ s.all) (hr : σ1.room = σ.room) (hst : σ1.strict = σ.strict) : Loc i σ σ1 :=
  ⟨fun j s hj hs => ⟨by rw [hsh, List.getElem?_set, if_neg fun e => hj e.symm]; exact hs, fun p hp => hit p fun e => hx j s hs hj (e ▸ hp)⟩, by rw [hsh]; simp, hr, hst⟩
theorem goneS_loc {σ : CS} {m i x : Nat} {s : Sh} {X : It} (I : Inv m σ) (hs : σ.sh[i]? = some s) (hm : x ∈ s.all) (hX : σ.it x = some X) : Loc i σ (goneS σ i s x X) :=
  Loc.mk1 (x := x) (goneS_shs ..) (fun p hp => by rw [goneS_it hX]; simp [hp]) (I.only hs hm) (goneS_same ..).room (goneS_same ..).strict
theorem makesS_loc {m : Nat} (i : Nat) (more room : Int) : ∀ (n : Nat) {σ : CS}, Inv m σ → Loc i σ (makesS i more room n σ)
  | 0, σ, _ => Loc.refl _ _
  | n + 1, σ, I => by
    unfold makesS
    split
    · rename_i s hs
      split
      · exact Loc.refl _ _
      · rename_i x rest hw
        obtain ⟨hm, Y, hY, _, hp⟩ := ((I.sh i s hs).w x).1 (by rw [hw]; exact List.mem_cons_self ..)
        split
        · split
          · rename_i X hX
            rw [hX] at hY; cases hY
            exact (goneS_loc I hs hm hX).trans (makesS_loc i more room n (I.gone hs hm hX hp))
          · exact Loc.refl _ _
        · exact Loc.refl _ _
    · exact Loc.refl _ _
theorem outS_loc {σ : CS} {m i x : Nat} {s : Sh} {X : It} {key : ByteArray} (I : Inv m σ) (hs : σ.sh[i]? = some s) (hq : (key, x) ∈ s.ins) (hX : σ.it x = some X) : Loc i σ (outS σ i s x X) := by
  obtain ⟨hm, hk, hin⟩ := (I.sh i s hs).at hq hX
  by_cases hp : X.pins = 0
  · rw [outS_gone hp hin]; exact goneS_loc I hs hm hX
  · rw [outS_pinned hp]
    exact Loc.mk1 (x := x) (t := { s with ins := adel .str X.key s.ins }) rfl (fun p hp => by rw [outP_it]; simp [hp]) (I.only hs hm) rfl rfl
theorem takeS_loc {σ : CS} {m i : Nat} {s : Sh} (key : ByteArray) (I : Inv m σ) (hs : σ.sh[i]? = some s) : Loc i σ (takeS σ i key) := by
  unfold takeS
  rw [shAt_of hs]
  split
  · rename_i q hq
    split
    · rename_i X hX; exact outS_loc I hs (lookK_some hq) hX
    · exact Loc.refl _ _
  · exact Loc.refl _ _
theorem addS_loc {σ : CS} {m i p : Nat} {key : ByteArray} {v ch : Int} (I : Inv m σ) (hp : σ.it p = none) : Loc i σ (addS σ i key v ch p) :=
  Loc.mk1 (x := p) rfl (fun q hq => by simp [addS, hq]) (fun j t ht _ hm => by
    obtain ⟨X, hX, _⟩ := (I.sh j t ht).ent p hm
    rw [hp] at hX; cases hX) rfl rfl
theorem putA_loc {σ : CS} {m p : Nat} {key : ByteArray} {v ch : Int} (I : Inv m σ) (h1 : 1 ≤ σ.sh.length) (hp : σ.it p = none) : Loc (shardOf σ.sh.length key) σ (putA σ key v ch p) := by
  have IM := putM_inv I key ch
  have sm := putM_same σ key ch
  obtain ⟨s, hs⟩ : ∃ s, (putM σ key ch).sh[shardOf σ.sh.length key]? = some s := ⟨_, List.getElem?_eq_getElem (by rw [sm.len]; exact shardOf_lt h1 key)⟩
  exact ((makesS_loc _ _ _ _ I).trans (takeS_loc key IM hs)).trans (addS_loc (IM.take hs) (takeS_none IM hs (makesS_none _ _ _ _ _ hp)))
theorem freeT_loc {σ : CS} {m : Nat} {n : Int} {x : Nat} {X : It} (I : Inv m σ) (hn : (n, x) ∈ σ.pins) (hX : σ.it x = some X) : Loc (shardOf σ.sh.length X.key) σ (freeT σ n x X) := by
  obtain ⟨s, hs, hm, eX, hp1⟩ := I.at hn hX
  rw [freeT_eq (m := m) hs]
  split
  · refine Loc.mk1 (x := x) (t := s) ?_ (fun p hp => by rw [unpin_it]; simp [hp]) (I.only hs hm) rfl rfl
    apply List.ext_getElem?
    intro j
    rw [List.getElem?_set]
    split
    · rename_i hj; subst hj; rw [if_pos (sh_lt hs)]; exact hs
    · rfl
  · rename_i h1
    split
    · rename_i hin
      have hW : Loc (shardOf σ.sh.length X.key) σ (waitS σ n x X s) := Loc.mk1 (x := x) (t := { s with waits := s.waits ++ [x] }) rfl (fun p hp => by show (unpin σ n x X).it p = _; rw [unpin_it]; simp [hp]) (I.only hs hm) rfl rfl
      exact hW.trans (makesS_loc _ _ _ _ (I.wait hn hX hs h1 hin))
    · rename_i hin
      have hg : goneS (unpin σ n x X) (shardOf σ.sh.length X.key) s x { X with pins := X.pins - 1 } = (unpin σ n x X).setSh (shardOf σ.sh.length X.key) ⟨s.ins, s.all.erase x, s.waits.filter fun p => !decide (p = x)⟩ := by
        unfold goneS; simp [hin]
      rw [hg]
      exact Loc.mk1 (x := x) (t := ⟨s.ins, s.all.erase x, s.waits.filter fun p => !decide (p = x)⟩) rfl (fun p hp => by show (unpin σ n x X).it p = _; rw [unpin_it]; simp [hp]) (I.only hs hm) rfl rfl

/-- What is done elsewhere on one side changes nothing. -/
theorem RX.left {J : Nat → Prop} {f : Nat → Nat} {σ σ1 σ' : CS} {i : Nat} (r : RX J f σ σ') (l : Loc i σ σ1) (hJ : ¬ J i) : RX J f σ1 σ' := by
  refine ⟨by rw [r.len, l.len], by rw [r.room, l.room], by rw [r.strict, l.strict], fun j s s' hj hs hs' => ?_⟩
  have hji : j ≠ i := fun e => hJ (e ▸ hj)
  have hlt : j < σ.sh.length := by have := sh_lt hs; rw [l.len] at this; exact this
  obtain ⟨h1, h2⟩ := l.oth j _ hji (List.getElem?_eq_getElem hlt)
  rw [hs] at h1
  cases h1
  have R := r.sh j _ s' hj (List.getElem?_eq_getElem hlt) hs'
  exact ⟨R.all, R.waits, R.ins, R.inj, fun p hp => by rw [h2 p hp]; exact R.it p hp⟩

theorem RX.new (J : Nat → Prop) (n : Nat) (room : Int) (strict : Bool) : RX J id (newS n room strict) (newS n room strict) :=
  ⟨rfl, rfl, rfl, fun j s s' _ hs hs' => by
    rw [hs] at hs'
    cases hs'
    have : s = emptySh := by
      simp only [newS, List.getElem?_replicate] at hs
      split at hs
      · cases hs; rfl
      · cases hs
    subst this
    exact ⟨rfl, rfl, rfl, fun p hp => by simp [emptySh] at hp, fun p hp => by simp [emptySh] at hp⟩⟩

theorem RX.keys {J : Nat → Prop} {f : Nat → Nat} {σ σ' : CS} {m : Nat} (r : RX J f σ σ') (I : Inv m σ) {i : Nat} (hJ : J i) : keysS σ' (i : Int) = keysS σ (i : Int) := by
  unfold keysS
  rw [r.len]
  split
  · rename_i hlt
    obtain ⟨s, s', hs, hs', R⟩ := r.at (i := i) (by omega) hJ
    rw [Int.toNat_natCast, shAt_of hs, shAt_of hs', R.waits, List.map_map]
    apply List.map_congr_left
    intro p hp
    simp only [Function.comp, keyOf, R.it p (((I.sh i s hs).w p).1 hp).1]
  · rfl

end Go.V.Yteojmnnobmpdiaa
