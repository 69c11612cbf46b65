/- This text proves a part of the laws of seat Ytclffphegfhocaa, under no condition: VZ. -/
import Derived.Test.YtclffphegfhocaaVY
set_option linter.unusedVariables false
set_option linter.unusedSimpArgs false
namespace Go.V

theorem pruneF_get : ∀ (keep : List Nat) (f : List SV) (k i : Nat), (pruneF keep k f).getD i .unk = if keep.contains (k + i) then f.getD i .unk else .unk
  | keep, [], k, i => by simp [pruneF]
  | keep, x :: l, k, i => by
    cases i with
    | zero =>
      simp only [pruneF, List.getD_cons_zero, Nat.add_zero]
      cases keep.contains k <;> rfl
    | succ i =>
      have := pruneF_get keep l (k + 1) i
      simp only [pruneF, List.getD_cons_succ, this]
      rw [show k + 1 + i = k + (i + 1) by omega]

theorem pruneF_length : ∀ (keep : List Nat) (f : List SV) (k : Nat), (pruneF keep k f).length = f.length
  | _, [], _ => rfl
  | keep, x :: l, k => by simp [pruneF, pruneF_length]

theorem pruneL_get : ∀ (f : List SV) (ls : List (Option Loc)) (k i : Nat), (pruneL f k ls)[i]? = ls[i]? ∨ (i < ls.length ∧ (pruneL f k ls)[i]? = some none)
  | f, [], k, i => .inl rfl
  | f, o :: l, k, i => by
    cases i with
    | zero =>
      simp only [pruneL, List.getElem?_cons_zero]
      cases usesLoc k f with
      | true => exact .inl rfl
      | false => exact .inr ⟨by simp, rfl⟩
    | succ i =>
      simp only [pruneL, List.getElem?_cons_succ, List.length_cons]
      rcases pruneL_get f l (k + 1) i with h | ⟨h1, h2⟩
      · exact .inl h
      · exact .inr ⟨by omega, h2⟩

theorem pruneL_length : ∀ (f : List SV) (ls : List (Option Loc)) (k : Nat), (pruneL f k ls).length = ls.length
  | _, [], _ => rfl
  | f, o :: l, k => by simp [pruneL, pruneL_length]

theorem prune_loc {st : St} {keep : Option (List Nat)} {i : Nat} : (st.prune keep).loc i = st.loc i ∨ (st.prune keep).loc i = none := by
  cases keep with
  | none => exact .inl rfl
  | some k =>
    unfold St.prune St.loc
    simp only
    rcases pruneL_get (pruneF k 0 st.f) st.ls 0 i with h | ⟨_, h⟩
    · rw [h]; exact .inl rfl
    · rw [h]; exact .inr rfl

theorem Rel.prune {st : St} {h : Heap} {a : Act} {W : World} (r : Rel st h a W) (keep : Option (List Nat)) : Rel (st.prune keep) h a W ∧ Ev st (st.prune keep) := by
  have hloc : ∀ i l, (st.prune keep).loc i = some l → st.loc i = some l := fun i l hl => by
    rcases prune_loc (st := st) (keep := keep) (i := i) with h | h
    · rw [← h]; exact hl
    · rw [h] at hl; cases hl
  have hlen : (st.prune keep).ls.length = st.ls.length := by
    cases keep with
    | none => rfl
    | some k => exact pruneL_length _ _ _
  have hds : (st.prune keep).ds = st.ds := by cases keep <;> rfl
  refine ⟨⟨r.heap, by rw [hds]; exact r.ds, ?_, fun i => ?_, fun i l hl => r.loc i l (hloc i l hl), fun i j l m hl hm hb => r.apart i j l m (hloc i l hl) (hloc j m hm) hb⟩,
    ⟨fun i l hl l' hl' => ?_, hds, fun i hi hn => ?_, by rw [hlen]; exact Nat.le_refl _⟩⟩
  · cases keep with
    | none => exact r.len
    | some k => simpa [St.prune, pruneF_length] using r.len
  · have hs := r.slot i
    have hget : (st.prune keep).get i = st.get i ∨ (st.prune keep).get i = .unk := by
      cases keep with
      | none => exact .inl rfl
      | some k =>
        unfold St.prune St.get
        simp only [pruneF_get]
        split
        · exact .inl rfl
        · exact .inr rfl
    rcases hget with h | h
    · rw [h]
      cases hg : st.get i with
      | loc id off =>
        rw [hg] at hs
        exact ⟨by rw [hlen]; exact hs.1, fun l hl => hs.2 l (hloc id l hl)⟩
      | _ => rw [hg] at hs; exact hs
    · rw [h]; trivial
  · have := hloc i l' hl'
    rw [hl] at this; cases this
    exact ⟨rfl, rfl, Nat.le_refl _, fun _ => rfl⟩
  · rcases prune_loc (st := st) (keep := keep) (i := i) with h | h
    · rw [h]; exact hn
    · exact h

theorem AllI_app : ∀ {ts : List LT} {R : Type} {I : Cur ts R} {K : List Lf → R → Prop} {l : List Lf} {X : R → Prop}, AllI ts I K → app ts I l X → ∃ i, K l i ∧ X i
  | [], _, I, K, [], X, h, k => ⟨I, h, k⟩
  | t :: ts, _, I, K, x :: l, X, h, k => by
    simp only [app] at k
    split at k
    · rename_i d hd
      have := AllI_app (h d) k
      rw [LT.get_mk hd] at this
      exact this
    · exact k.elim
  | [], _, _, _, _ :: _, _, _, k => k.elim
  | _ :: _, _, _, _, [], _, _, k => k.elim

/-- The slots of a meeting. -/
theorem setSlots_get {st' : St} : ∀ (sl : List (Nat × VT)) (l rest : List Lf) (f : List SV), slotCells st' sl = some l →
    (setSlots sl (l ++ rest) f).2 = rest ∧ (setSlots sl (l ++ rest) f).1.length = f.length ∧
    ∀ i, (setSlots sl (l ++ rest) f).1.getD i .unk = f.getD i .unk ∨ (setSlots sl (l ++ rest) f).1.getD i .unk = st'.get i ∧ (∃ x, st'.get i = .v x) ∨ (setSlots sl (l ++ rest) f).1.getD i .unk = .unk
  | [], l, rest, f, h => by cases h; exact ⟨rfl, rfl, fun i => .inl rfl⟩
  | (j, .one t) :: r, l, rest, f, h => by
    simp only [slotCells] at h
    split at h
    · rename_i x hx
      split at h
      · rename_i m hm
        cases h
        obtain ⟨h1, h2, h3⟩ := setSlots_get r m rest (f.set j (.v (.lf x))) hm
        refine ⟨h1, by rw [List.cons_append, setSlots, h2]; simp, fun i => ?_⟩
        rcases h3 i with h | h | h
        · by_cases e : i = j
          · subst e
            rw [List.cons_append, setSlots, h]
            by_cases hl : i < f.length
            · exact .inr (.inl ⟨by simp [hl, hx], _, hx⟩)
            · exact .inr (.inr (by simp [hl]))
          · exact .inl (by rw [List.cons_append, setSlots, h]; simp [show ¬ j = i from fun x => e x.symm])
        · exact .inr (.inl h)
        · exact .inr (.inr h)
      · cases h
    · cases h
  | (j, .agg ts) :: r, l, rest, f, h => by
    simp only [slotCells] at h
    split at h
    · rename_i xs hx
      split at h
      · rename_i hb
        have hb := Nat.eq_of_beq_eq_true hb
        split at h
        · rename_i m hm
          cases h
          obtain ⟨h1, h2, h3⟩ := setSlots_get r m rest (f.set j (.v (.agg xs))) hm
          have e1 : (xs ++ m ++ rest).take ts.length = xs := by rw [← hb]; simp
          have e2 : (xs ++ m ++ rest).drop ts.length = m ++ rest := by rw [← hb]; simp
          simp only [setSlots, e1, e2]
          refine ⟨h1, by rw [h2]; simp, fun i => ?_⟩
          rcases h3 i with h | h | h
          · by_cases e : i = j
            · subst e
              rw [h]
              by_cases hl : i < f.length
              · exact .inr (.inl ⟨by simp [hl, hx], _, hx⟩)
              · exact .inr (.inr (by simp [hl]))
            · exact .inl (by rw [h]; simp [show ¬ j = i from fun x => e x.symm])
          · exact .inr (.inl h)
          · exact .inr (.inr h)
        · cases h
      · cases h
    · cases h

def locIn (ls : List (Option Loc)) (i : Nat) : Option Loc := match ls[i]? with
  | some o => o
  | none => none

/-- The followed variables of a meeting. -/
theorem setLocs_get {st' : St} : ∀ (lo : List (Nat × List LT)) (l : List Lf) (ls : List (Option Loc)), locCells st' lo = some l →
    (setLocs lo l ls).length = ls.length ∧ ∀ i m, locIn (setLocs lo l ls) i = some m →
      ((∀ x ∈ lo, x.1 ≠ i) ∧ locIn ls i = some m) ∨ (∃ x l', locIn ls i = some x ∧ st'.loc i = some l' ∧ m.b = x.b ∧ m.t = x.t ∧ x.ver < m.ver ∧ m.cs = l'.cs)
  | [], l, ls, h => ⟨rfl, fun i m hm => .inl ⟨fun x hx => by simp at hx, hm⟩⟩
  | (j, ts) :: r, l, ls, h => by
    simp only [locCells] at h
    split at h
    · rename_i l' hl'
      split at h
      · rename_i hb
        have hb := Nat.eq_of_beq_eq_true hb
        split at h
        · rename_i m' hm'
          cases h
          have e1 : (l'.cs ++ m').take ts.length = l'.cs := by rw [← hb]; simp
          have e2 : (l'.cs ++ m').drop ts.length = m' := by rw [← hb]; simp
          simp only [setLocs, e1, e2]
          cases hj : ls[j]? with
          | none =>
            obtain ⟨h1, h2⟩ := setLocs_get r m' ls hm'
            refine ⟨h1, fun i m hm => ?_⟩
            rcases h2 i m hm with ⟨g1, g2⟩ | g
            · refine .inl ⟨fun x hx => ?_, g2⟩
              rcases List.mem_cons.1 hx with rfl | hx
              · intro e
                have e : j = i := e
                subst e
                unfold locIn at g2
                rw [hj] at g2; cases g2
              · exact g1 x hx
            · exact .inr g
          | some o =>
            cases o with
            | none =>
              obtain ⟨h1, h2⟩ := setLocs_get r m' ls hm'
              refine ⟨h1, fun i m hm => ?_⟩
              rcases h2 i m hm with ⟨g1, g2⟩ | g
              · refine .inl ⟨fun x hx => ?_, g2⟩
                rcases List.mem_cons.1 hx with rfl | hx
                · intro e
                  have e : j = i := e
                  subst e
                  unfold locIn at g2
                  rw [hj] at g2; cases g2
                · exact g1 x hx
              · exact .inr g
            | some x0 =>
              have hjl : j < ls.length := by
                rcases Nat.lt_or_ge j ls.length with h' | h'
                · exact h'
                · rw [List.getElem?_eq_none h'] at hj; cases hj
              obtain ⟨h1, h2⟩ := setLocs_get r m' (ls.set j (some ⟨x0.b, x0.t, l'.cs, x0.ver + 1⟩)) hm'
              refine ⟨by simpa using h1, fun i m hm => ?_⟩
              have hset : ∀ i, locIn (ls.set j (some ⟨x0.b, x0.t, l'.cs, x0.ver + 1⟩)) i = if i = j then some ⟨x0.b, x0.t, l'.cs, x0.ver + 1⟩ else locIn ls i := by
                intro i
                unfold locIn
                rw [List.getElem?_set]
                by_cases e : j = i
                · subst e; simp [hjl]
                · simp [e, show ¬ i = j from fun x => e x.symm]
              have hj0 : locIn ls j = some x0 := by unfold locIn; rw [hj]
              rcases h2 i m hm with ⟨g1, g2⟩ | ⟨x, l2, g1, g2, g3, g4, g5, g6⟩
              · rw [hset] at g2
                by_cases e : i = j
                · subst e
                  rw [if_pos rfl] at g2
                  cases g2
                  exact .inr ⟨x0, l', hj0, hl', rfl, rfl, by simp, rfl⟩
                · rw [if_neg e] at g2
                  refine .inl ⟨fun x hx => ?_, g2⟩
                  rcases List.mem_cons.1 hx with rfl | hx
                  · exact fun h => e h.symm
                  · exact g1 x hx
              · rw [hset] at g1
                by_cases e : i = j
                · subst e
                  rw [if_pos rfl] at g1
                  cases g1
                  exact .inr ⟨x0, l2, hj0, g2, g3, g4, by simp at g5; omega, g6⟩
                · rw [if_neg e] at g1
                  exact .inr ⟨x, l2, g1, g2, g3, g4, g5, g6⟩
        · cases h
      · cases h
    · cases h

theorem dropLocs_get : ∀ (d : List Nat) (ls : List (Option Loc)), (dropLocs d ls).length = ls.length ∧ ∀ i m, locIn (dropLocs d ls) i = some m → locIn ls i = some m ∧ i ∉ d
  | [], ls => ⟨rfl, fun i m h => ⟨h, by simp⟩⟩
  | j :: d, ls => by
    obtain ⟨h1, h2⟩ := dropLocs_get d (ls.set j none)
    refine ⟨by simpa [dropLocs] using h1, fun i m hm => ?_⟩
    obtain ⟨g1, g2⟩ := h2 i m hm
    unfold locIn at g1
    rw [List.getElem?_set] at g1
    by_cases e : j = i
    · subst e
      exfalso
      by_cases hl : j < ls.length
      · simp [hl] at g1
      · simp [hl] at g1
    · simp only [e, if_false] at g1
      exact ⟨g1, by simp [g2, show ¬ i = j from fun x => e x.symm]⟩

theorem sameLocs_get {s : JSpec} {st0 st : St} : ∀ (ls : List (Option Loc)) (k : Nat), sameLocs s st0 st k ls = true → ∀ i l, ls[i]? = some (some l) →
    (k + i) ∈ s.drop ∨ (∃ x ∈ s.locs, x.1 = k + i) ∨ ∃ l', st.loc (k + i) = some l' ∧ l.ver = l'.ver
  | [], k, _, i, l, hl => by simp at hl
  | none :: r, k, h, i, l, hl => by
    cases i with
    | zero => simp at hl
    | succ i =>
      have := sameLocs_get r (k + 1) h i l (by simpa using hl)
      rw [show k + 1 + i = k + (i + 1) by omega] at this
      exact this
  | some l0 :: r, k, h, i, l, hl => by
    simp only [sameLocs, Bool.and_eq_true] at h
    cases i with
    | zero =>
      simp at hl; subst hl
      simp only [Nat.add_zero]
      have h1 := h.1
      simp only [Bool.or_eq_true] at h1
      rcases h1 with (h1 | h1) | h1
      · exact .inl (by simpa using h1)
      · obtain ⟨x, hx, hb⟩ := List.any_eq_true.1 h1
        exact .inr (.inl ⟨x, hx, Nat.eq_of_beq_eq_true hb⟩)
      · split at h1
        · rename_i l' hl'; exact .inr (.inr ⟨l', hl', Nat.eq_of_beq_eq_true h1⟩)
        · cases h1
    | succ i =>
      have := sameLocs_get r (k + 1) h.2 i l (by simpa using hl)
      rw [show k + 1 + i = k + (i + 1) by omega] at this
      exact this

theorem jget_some {s : JSpec} {st0 st : St} {l : List Lf} (h : jget s st0 st = some l) :
    sameLocs s st0 st 0 st0.ls = true ∧ ∃ a b, slotCells st s.slots = some a ∧ locCells st s.locs = some b ∧ l = a ++ b := by
  unfold jget at h
  split at h
  · rename_i hs
    split at h
    · rename_i a ha
      split at h
      · rename_i b hb
        exact ⟨hs, a, b, ha, hb, (Option.some.inj h).symm⟩
      · cases h
    · cases h
  · cases h

/-- **Where ways meet**: the state behind is one of those that the meeting's state stands for. -/
theorem Rel.jset {s : JSpec} {st st' : St} {h h' : Heap} {a a' : Act} {W W' : World} {w : List Nat} {l : List Lf} (r : Rel st h a W) (r' : Rel st' h' a' W') (ev : Ev st st') (ag : Agree w a a')
    (hj : jget s st st' = some l) : Rel (jset s w st l) h' a' W' ∧ Ev st (jset s w st l) := by
  obtain ⟨hsame, x, y, hx, hy, rfl⟩ := jget_some hj
  obtain ⟨e1, e2, e3⟩ := setSlots_get s.slots x y (clearF w st.f) hx
  have hjs : Go.V.jset s w st (x ++ y) = { st with f := (setSlots s.slots (x ++ y) (clearF w st.f)).1, ls := setLocs s.locs y (dropLocs s.drop st.ls) } := by
    unfold Go.V.jset
    generalize hh : setSlots s.slots (x ++ y) (clearF w st.f) = p at *
    obtain ⟨f, rr⟩ := p
    simp only at e1
    subst e1
    rfl
  obtain ⟨d1, d2⟩ := dropLocs_get s.drop st.ls
  obtain ⟨l1, l2⟩ := setLocs_get s.locs y (dropLocs s.drop st.ls) hy
  have hloc : ∀ i m, (Go.V.jset s w st (x ++ y)).loc i = some m → ∃ m0, st.loc i = some m0 ∧ m.b = m0.b ∧ m.t = m0.t ∧ m0.ver ≤ m.ver ∧ (m.ver = m0.ver → m = m0) ∧ h'[m.b]? = some m.obj := by
    intro i m hm
    rw [hjs] at hm
    have hm' : locIn (setLocs s.locs y (dropLocs s.drop st.ls)) i = some m := hm
    rcases l2 i m hm' with ⟨g1, g2⟩ | ⟨x0, l', g1, g2, g3, g4, g5, g6⟩
    · obtain ⟨g3, g4⟩ := d2 i m g2
      have g3' : st.loc i = some m := g3
      refine ⟨m, g3', rfl, rfl, Nat.le_refl _, fun _ => rfl, ?_⟩
      have hls : st.ls[i]? = some (some m) := St.loc_get g3'
      rcases sameLocs_get st.ls 0 hsame i m hls with h0 | ⟨z, hz, hzi⟩ | ⟨l', hl', hv⟩
      · simp at h0; exact absurd h0 g4
      · simp at hzi; exact absurd hzi (g1 z hz)
      · rw [Nat.zero_add] at hl'
        have := (ev.some i m g3' l' hl').2.2.2 hv.symm
        subst this
        exact r'.loc i _ hl'
    · obtain ⟨g7, g8⟩ := d2 i x0 g1
      have g7' : st.loc i = some x0 := g7
      obtain ⟨b1, t1, _, _⟩ := ev.some i x0 g7' l' g2
      refine ⟨x0, g7', g3, g4, by omega, fun e => by omega, ?_⟩
      have := r'.loc i l' g2
      rw [g3, ← b1, this]
      simp [Loc.obj, g4, g6, t1]
  have hlen : (Go.V.jset s w st (x ++ y)).ls.length = st.ls.length := by rw [hjs]; simp [l1, d1]
  have hds : (Go.V.jset s w st (x ++ y)).ds = st.ds := by rw [hjs]
  refine ⟨⟨r'.heap, by rw [hds, r'.ds, ev.ds], ?_, fun i => ?_, fun i m hm => ?_, fun i j m n hm hn hb => ?_⟩, ⟨fun i m0 hm0 m hm => ?_, hds, fun i hi hn => ?_, by rw [hlen]; exact Nat.le_refl _⟩⟩
  · rw [hjs]
    simp only [e2, clearF_length]
    rw [ag.size]; exact r.len
  · have hget : (Go.V.jset s w st (x ++ y)).get i = (setSlots s.slots (x ++ y) (clearF w st.f)).1.getD i .unk := by rw [hjs]; rfl
    rw [hget]
    rcases e3 i with hh | ⟨hh, z, hz⟩ | hh
    · rw [hh, clearF_get]
      split
      · trivial
      · rename_i hiw
        have hs := r.slot i
        rw [← ag.slot i hiw] at hs
        show SVr _ (st.get i) _
        cases hg : st.get i with
        | loc id off =>
          rw [hg] at hs
          refine ⟨by rw [hlen]; exact hs.1, fun m hm => ?_⟩
          obtain ⟨m0, hm0, hb, _⟩ := hloc id m hm
          rw [hb]; exact hs.2 m0 hm0
        | _ => rw [hg] at hs; exact hs
    · rw [hh, hz]
      have hs := r'.slot i
      rw [hz] at hs; exact hs
    · rw [hh]; trivial
  · obtain ⟨_, _, _, _, _, _, hh⟩ := hloc i m hm
    exact hh
  · obtain ⟨m0, h1, h2, _⟩ := hloc i m hm
    obtain ⟨n0, h3, h4, _⟩ := hloc j n hn
    exact r.apart i j m0 n0 h1 h3 (by rw [← h2, ← h4]; exact hb)
  · obtain ⟨m1, h1, h2, h3, h4, h5, _⟩ := hloc i m hm
    rw [hm0] at h1; cases h1
    exact ⟨h2, h3, h4, h5⟩
  · cases hh : (Go.V.jset s w st (x ++ y)).loc i with
    | none => rfl
    | some m =>
      obtain ⟨m0, h1, _⟩ := hloc i m hh
      rw [hn] at h1; cases h1

end Go.V
