/- This text proves a part of the laws of seat YtdeihieblljfcaaGreat, under no condition: VZ VR VMain VD VL VL2 VL3 VL4 VL5. -/
import Derived.Test.YtdeihieblljfcaaGreatPB
import Derived.RecoverIn
import Derived.IntWalk
set_option linter.unusedVariables false
set_option linter.unusedSimpArgs false
namespace Go.V

theorem pruneF_get : ∀ (keep : List Nat) (f : List SV) (k i : Nat), (pruneF keep k f).getD i .unk = if keep.contains (k + i) then f.getD i .unk else .unk
  | keep, [], k, i => by simp [pruneF]
  | keep, x :: l, k, i => by
    cases i with
    | zero =>
      simp only [pruneF, List.getD_cons_zero, Nat.add_zero]
      cases keep.contains k <;> rfl
    | succ i =>
      have := pruneF_get keep l (k + 1) i
      simp only [pruneF, List.getD_cons_succ, this]
      rw [show k + 1 + i = k + (i + 1) by omega]

theorem pruneF_length : ∀ (keep : List Nat) (f : List SV) (k : Nat), (pruneF keep k f).length = f.length
  | _, [], _ => rfl
  | keep, x :: l, k => by simp [pruneF, pruneF_length]

theorem pruneL_get : ∀ (f : List SV) (ls : List (Option Loc)) (k i : Nat), (pruneL f k ls)[i]? = ls[i]? ∨ (i < ls.length ∧ (pruneL f k ls)[i]? = some none)
  | f, [], k, i => .inl rfl
  | f, o :: l, k, i => by
    cases i with
    | zero =>
      simp only [pruneL, List.getElem?_cons_zero]
      cases usesLoc k f with
      | true => exact .inl rfl
      | false => exact .inr ⟨by simp, rfl⟩
    | succ i =>
      simp only [pruneL, List.getElem?_cons_succ, List.length_cons]
      rcases pruneL_get f l (k + 1) i with h | ⟨h1, h2⟩
      · exact .inl h
      · exact .inr ⟨by omega, h2⟩

theorem pruneL_length : ∀ (f : List SV) (ls : List (Option Loc)) (k : Nat), (pruneL f k ls).length = ls.length
  | _, [], _ => rfl
  | f, o :: l, k => by simp [pruneL, pruneL_length]

theorem prune_loc {st : St} {keep : Option (List Nat)} {i : Nat} : (st.prune keep).loc i = st.loc i ∨ (st.prune keep).loc i = none := by
  cases keep with
  | none => exact .inl rfl
  | some k =>
    unfold St.prune St.loc
    simp only
    rcases pruneL_get (pruneF k 0 st.f) st.ls 0 i with h | ⟨_, h⟩
    · rw [h]; exact .inl rfl
    · rw [h]; exact .inr rfl

theorem Rel.prune {st : St} {h : Heap} {a : Act} {W : World} (r : Rel st h a W) (keep : Option (List Nat)) : Rel (st.prune keep) h a W ∧ Ev st (st.prune keep) := by
  have hloc : ∀ i l, (st.prune keep).loc i = some l → st.loc i = some l := fun i l hl => by
    rcases prune_loc (st := st) (keep := keep) (i := i) with h | h
    · rw [← h]; exact hl
    · rw [h] at hl; cases hl
  have hlen : (st.prune keep).ls.length = st.ls.length := by
    cases keep with
    | none => rfl
    | some k => exact pruneL_length _ _ _
  have hds : (st.prune keep).ds = st.ds := by cases keep <;> rfl
  refine ⟨⟨r.heap, by rw [hds]; exact r.ds, ?_, fun i => ?_, fun i l hl => r.loc i l (hloc i l hl), fun i j l m hl hm hb => r.apart i j l m (hloc i l hl) (hloc j m hm) hb⟩,
    ⟨fun i l hl l' hl' => ?_, ⟨[], hds⟩, fun i hi hn => ?_, by rw [hlen]; exact Nat.le_refl _⟩⟩
  · cases keep with
    | none => exact r.len
    | some k => simpa [St.prune, pruneF_length] using r.len
  · have hs := r.slot i
    have hget : (st.prune keep).get i = st.get i ∨ (st.prune keep).get i = .unk := by
      cases keep with
      | none => exact .inl rfl
      | some k =>
        unfold St.prune St.get
        simp only [pruneF_get]
        split
        · exact .inl rfl
        · exact .inr rfl
    rcases hget with h | h
    · rw [h]
      cases hg : st.get i with
      | loc id off =>
        rw [hg] at hs
        exact ⟨by rw [hlen]; exact hs.1, fun l hl => hs.2 l (hloc id l hl)⟩
      | _ => rw [hg] at hs; exact hs
    · rw [h]; trivial
  · have := hloc i l' hl'
    rw [hl] at this; cases this
    exact ⟨rfl, rfl, Nat.le_refl _, fun _ => rfl⟩
  · rcases prune_loc (st := st) (keep := keep) (i := i) with h | h
    · rw [h]; exact hn
    · exact h

theorem AllI_app : ∀ {ts : List LT} {R : Type} {I : Cur ts R} {K : List Lf → R → Prop} {l : List Lf} {X : R → Prop}, AllI ts I K → app ts I l X → ∃ i, K l i ∧ X i
  | [], _, I, K, [], X, h, k => ⟨I, h, k⟩
  | t :: ts, _, I, K, x :: l, X, h, k => by
    simp only [app] at k
    split at k
    · rename_i d hd
      have := AllI_app (h d) k
      rw [LT.get_mk hd] at this
      exact this
    · exact k.elim
  | [], _, _, _, _ :: _, _, _, k => k.elim
  | _ :: _, _, _, _, [], _, _, k => k.elim

theorem setSlots_get {st' : St} : ∀ (sl : List (Nat × VT)) (l rest : List Lf) (f : List SV), slotCells st' sl = some l →
    (setSlots sl (l ++ rest) f).2 = rest ∧ (setSlots sl (l ++ rest) f).1.length = f.length ∧
    ∀ i, (setSlots sl (l ++ rest) f).1.getD i .unk = f.getD i .unk ∨ (setSlots sl (l ++ rest) f).1.getD i .unk = st'.get i ∧ (∃ x, st'.get i = .v x) ∨ (setSlots sl (l ++ rest) f).1.getD i .unk = .unk
  | [], l, rest, f, h => by cases h; exact ⟨rfl, rfl, fun i => .inl rfl⟩
  | (j, .one t) :: r, l, rest, f, h => by
    simp only [slotCells] at h
    split at h
    · rename_i x hx
      split at h
      · rename_i m hm
        cases h
        obtain ⟨h1, h2, h3⟩ := setSlots_get r m rest (f.set j (.v (.lf x))) hm
        refine ⟨h1, by rw [List.cons_append, setSlots, h2]; simp, fun i => ?_⟩
        rcases h3 i with h | h | h
        · by_cases e : i = j
          · subst e
            rw [List.cons_append, setSlots, h]
            by_cases hl : i < f.length
            · exact .inr (.inl ⟨by simp [hl, hx], _, hx⟩)
            · exact .inr (.inr (by simp [hl]))
          · exact .inl (by rw [List.cons_append, setSlots, h]; simp [show ¬ j = i from fun x => e x.symm])
        · exact .inr (.inl h)
        · exact .inr (.inr h)
      · cases h
    · cases h
  | (j, .agg ts) :: r, l, rest, f, h => by
    simp only [slotCells] at h
    split at h
    · rename_i xs hx
      split at h
      · rename_i hb
        have hb := Nat.eq_of_beq_eq_true hb
        split at h
        · rename_i m hm
          cases h
          obtain ⟨h1, h2, h3⟩ := setSlots_get r m rest (f.set j (.v (.agg xs))) hm
          have e1 : (xs ++ m ++ rest).take ts.length = xs := by rw [← hb]; simp
          have e2 : (xs ++ m ++ rest).drop ts.length = m ++ rest := by rw [← hb]; simp
          simp only [setSlots, e1, e2]
          refine ⟨h1, by rw [h2]; simp, fun i => ?_⟩
          rcases h3 i with h | h | h
          · by_cases e : i = j
            · subst e
              rw [h]
              by_cases hl : i < f.length
              · exact .inr (.inl ⟨by simp [hl, hx], _, hx⟩)
              · exact .inr (.inr (by simp [hl]))
            · exact .inl (by rw [h]; simp [show ¬ j = i from fun x => e x.symm])
          · exact .inr (.inl h)
          · exact .inr (.inr h)
        · cases h
      · cases h
    · cases h

def locIn (ls : List (Option Loc)) (i : Nat) : Option Loc := match ls[i]? with
  | some o => o
  | none => none

theorem setLocs_get {st' : St} : ∀ (lo : List (Nat × List LT)) (l : List Lf) (ls : List (Option Loc)), locCells st' lo = some l →
    (setLocs lo l ls).length = ls.length ∧ ∀ i m, locIn (setLocs lo l ls) i = some m →
      ((∀ x ∈ lo, x.1 ≠ i) ∧ locIn ls i = some m) ∨ (∃ x l', locIn ls i = some x ∧ st'.loc i = some l' ∧ m.b = x.b ∧ m.t = x.t ∧ x.ver < m.ver ∧ m.cs = l'.cs)
  | [], l, ls, h => ⟨rfl, fun i m hm => .inl ⟨fun x hx => by simp at hx, hm⟩⟩
  | (j, ts) :: r, l, ls, h => by
    simp only [locCells] at h
    split at h
    · rename_i l' hl'
      split at h
      · rename_i hb
        have hb := Nat.eq_of_beq_eq_true hb
        split at h
        · rename_i m' hm'
          cases h
          have e1 : (l'.cs ++ m').take ts.length = l'.cs := by rw [← hb]; simp
          have e2 : (l'.cs ++ m').drop ts.length = m' := by rw [← hb]; simp
          simp only [setLocs, e1, e2]
          cases hj : ls[j]? with
          | none =>
            obtain ⟨h1, h2⟩ := setLocs_get r m' ls hm'
            refine ⟨h1, fun i m hm => ?_⟩
            rcases h2 i m hm with ⟨g1, g2⟩ | g
            · refine .inl ⟨fun x hx => ?_, g2⟩
              rcases List.mem_cons.1 hx with rfl | hx
              · intro e
                have e : j = i := e
                subst e
                unfold locIn at g2
                rw [hj] at g2; cases g2
              · exact g1 x hx
            · exact .inr g
          | some o =>
            cases o with
            | none =>
              obtain ⟨h1, h2⟩ := setLocs_get r m' ls hm'
              refine ⟨h1, fun i m hm => ?_⟩
              rcases h2 i m hm with ⟨g1, g2⟩ | g
              · refine .inl ⟨fun x hx => ?_, g2⟩
                rcases List.mem_cons.1 hx with rfl | hx
                · intro e
                  have e : j = i := e
                  subst e
                  unfold locIn at g2
                  rw [hj] at g2; cases g2
                · exact g1 x hx
              · exact .inr g
            | some x0 =>
              have hjl : j < ls.length := by
                rcases Nat.lt_or_ge j ls.length with h' | h'
                · exact h'
                · rw [List.getElem?_eq_none h'] at hj; cases hj
              obtain ⟨h1, h2⟩ := setLocs_get r m' (ls.set j (some ⟨x0.b, x0.t, l'.cs, x0.ver + 1⟩)) hm'
              refine ⟨by simpa using h1, fun i m hm => ?_⟩
              have hset : ∀ i, locIn (ls.set j (some ⟨x0.b, x0.t, l'.cs, x0.ver + 1⟩)) i = if i = j then some ⟨x0.b, x0.t, l'.cs, x0.ver + 1⟩ else locIn ls i := by
                intro i
                unfold locIn
                rw [List.getElem?_set]
                by_cases e : j = i
                · subst e; simp [hjl]
                · simp [e, show ¬ i = j from fun x => e x.symm]
              have hj0 : locIn ls j = some x0 := by unfold locIn; rw [hj]
              rcases h2 i m hm with ⟨g1, g2⟩ | ⟨x, l2, g1, g2, g3, g4, g5, g6⟩
              · rw [hset] at g2
                by_cases e : i = j
                · subst e
                  rw [if_pos rfl] at g2
                  cases g2
                  exact .inr ⟨x0, l', hj0, hl', rfl, rfl, by simp, rfl⟩
                · rw [if_neg e] at g2
                  refine .inl ⟨fun x hx => ?_, g2⟩
                  rcases List.mem_cons.1 hx with rfl | hx
                  · exact fun h => e h.symm
                  · exact g1 x hx
              · rw [hset] at g1
                by_cases e : i = j
                · subst e
                  rw [if_pos rfl] at g1
                  cases g1
                  exact .inr ⟨x0, l2, hj0, g2, g3, g4, by simp at g5; omega, g6⟩
                · rw [if_neg e] at g1
                  exact .inr ⟨x, l2, g1, g2, g3, g4, g5, g6⟩
        · cases h
      · cases h
    · cases h

theorem dropLocs_get : ∀ (d : List Nat) (ls : List (Option Loc)), (dropLocs d ls).length = ls.length ∧ ∀ i m, locIn (dropLocs d ls) i = some m → locIn ls i = some m ∧ i ∉ d
  | [], ls => ⟨rfl, fun i m h => ⟨h, by simp⟩⟩
  | j :: d, ls => by
    obtain ⟨h1, h2⟩ := dropLocs_get d (ls.set j none)
    refine ⟨by simpa [dropLocs] using h1, fun i m hm => ?_⟩
    obtain ⟨g1, g2⟩ := h2 i m hm
    unfold locIn at g1
    rw [List.getElem?_set] at g1
    by_cases e : j = i
    · subst e
      exfalso
      by_cases hl : j < ls.length
      · simp [hl] at g1
      · simp [hl] at g1
    · simp only [e, if_false] at g1
      exact ⟨g1, by simp [g2, show ¬ i = j from fun x => e x.symm]⟩

theorem sameLocs_get {s : JSpec} {st0 st : St} : ∀ (ls : List (Option Loc)) (k : Nat), sameLocs s st0 st k ls = true → ∀ i l, ls[i]? = some (some l) →
    (k + i) ∈ s.drop ∨ (∃ x ∈ s.locs, x.1 = k + i) ∨ ∃ l', st.loc (k + i) = some l' ∧ l.ver = l'.ver
  | [], k, _, i, l, hl => by simp at hl
  | none :: r, k, h, i, l, hl => by
    cases i with
    | zero => simp at hl
    | succ i =>
      have := sameLocs_get r (k + 1) h i l (by simpa using hl)
      rw [show k + 1 + i = k + (i + 1) by omega] at this
      exact this
  | some l0 :: r, k, h, i, l, hl => by
    simp only [sameLocs, Bool.and_eq_true] at h
    cases i with
    | zero =>
      simp at hl; subst hl
      simp only [Nat.add_zero]
      have h1 := h.1
      simp only [Bool.or_eq_true] at h1
      rcases h1 with (h1 | h1) | h1
      · exact .inl (by simpa using h1)
      · obtain ⟨x, hx, hb⟩ := List.any_eq_true.1 h1
        exact .inr (.inl ⟨x, hx, Nat.eq_of_beq_eq_true hb⟩)
      · split at h1
        · rename_i l' hl'; exact .inr (.inr ⟨l', hl', Nat.eq_of_beq_eq_true h1⟩)
        · cases h1
    | succ i =>
      have := sameLocs_get r (k + 1) h.2 i l (by simpa using hl)
      rw [show k + 1 + i = k + (i + 1) by omega] at this
      exact this

theorem jget_some {s : JSpec} {st0 st : St} {l : List Lf} (h : jget s st0 st = some l) :
    (sameLocs s st0 st 0 st0.ls = true ∧ st.ds.length = st0.ds.length) ∧ ∃ a b, slotCells st s.slots = some a ∧ locCells st s.locs = some b ∧ l = a ++ b := by
  unfold jget at h
  split at h
  · rename_i hs
    split at h
    · rename_i a ha
      split at h
      · rename_i b hb
        simp only [Bool.and_eq_true] at hs
        exact ⟨⟨hs.1, Nat.eq_of_beq_eq_true hs.2⟩, a, b, ha, hb, (Option.some.inj h).symm⟩
      · cases h
    · cases h
  · cases h

theorem Rel.jset {s : JSpec} {st st' : St} {h h' : Heap} {a a' : Act} {W W' : World} {w : List Nat} {l : List Lf} (r : Rel st h a W) (r' : Rel st' h' a' W') (ev : Ev st st') (ag : Agree w a a')
    (hj : jget s st st' = some l) : Rel (jset s w st l) h' a' W' ∧ Ev st (jset s w st l) := by
  obtain ⟨⟨hsame, hdl⟩, x, y, hx, hy, rfl⟩ := jget_some hj
  have evds : st'.ds = st.ds := by
    obtain ⟨q, hq⟩ := ev.ds
    rw [hq] at hdl
    have : q = [] := by cases q with | nil => rfl | cons _ _ => simp at hdl; omega
    rw [hq, this]; rfl
  obtain ⟨e1, e2, e3⟩ := setSlots_get s.slots x y (clearF w st.f) hx
  have hjs : Go.V.jset s w st (x ++ y) = { st with f := (setSlots s.slots (x ++ y) (clearF w st.f)).1, ls := setLocs s.locs y (dropLocs s.drop st.ls) } := by
    unfold Go.V.jset
    generalize hh : setSlots s.slots (x ++ y) (clearF w st.f) = p at *
    obtain ⟨f, rr⟩ := p
    simp only at e1
    subst e1
    rfl
  obtain ⟨d1, d2⟩ := dropLocs_get s.drop st.ls
  obtain ⟨l1, l2⟩ := setLocs_get s.locs y (dropLocs s.drop st.ls) hy
  have hloc : ∀ i m, (Go.V.jset s w st (x ++ y)).loc i = some m → ∃ m0, st.loc i = some m0 ∧ m.b = m0.b ∧ m.t = m0.t ∧ m0.ver ≤ m.ver ∧ (m.ver = m0.ver → m = m0) ∧ h'[m.b]? = some m.obj := by
    intro i m hm
    rw [hjs] at hm
    have hm' : locIn (setLocs s.locs y (dropLocs s.drop st.ls)) i = some m := hm
    rcases l2 i m hm' with ⟨g1, g2⟩ | ⟨x0, l', g1, g2, g3, g4, g5, g6⟩
    · obtain ⟨g3, g4⟩ := d2 i m g2
      have g3' : st.loc i = some m := g3
      refine ⟨m, g3', rfl, rfl, Nat.le_refl _, fun _ => rfl, ?_⟩
      have hls : st.ls[i]? = some (some m) := St.loc_get g3'
      rcases sameLocs_get st.ls 0 hsame i m hls with h0 | ⟨z, hz, hzi⟩ | ⟨l', hl', hv⟩
      · simp at h0; exact absurd h0 g4
      · simp at hzi; exact absurd hzi (g1 z hz)
      · rw [Nat.zero_add] at hl'
        have := (ev.some i m g3' l' hl').2.2.2 hv.symm
        subst this
        exact r'.loc i _ hl'
    · obtain ⟨g7, g8⟩ := d2 i x0 g1
      have g7' : st.loc i = some x0 := g7
      obtain ⟨b1, t1, _, _⟩ := ev.some i x0 g7' l' g2
      refine ⟨x0, g7', g3, g4, by omega, fun e => by omega, ?_⟩
      have := r'.loc i l' g2
      rw [g3, ← b1, this]
      simp [Loc.obj, g4, g6, t1]
  have hlen : (Go.V.jset s w st (x ++ y)).ls.length = st.ls.length := by rw [hjs]; simp [l1, d1]
  have hds : (Go.V.jset s w st (x ++ y)).ds = st.ds := by rw [hjs]
  refine ⟨⟨r'.heap, by rw [hds, r'.ds, evds], ?_, fun i => ?_, fun i m hm => ?_, fun i j m n hm hn hb => ?_⟩, ⟨fun i m0 hm0 m hm => ?_, ⟨[], hds⟩, fun i hi hn => ?_, by rw [hlen]; exact Nat.le_refl _⟩⟩
  · rw [hjs]
    simp only [e2, clearF_length]
    rw [ag.size]; exact r.len
  · have hget : (Go.V.jset s w st (x ++ y)).get i = (setSlots s.slots (x ++ y) (clearF w st.f)).1.getD i .unk := by rw [hjs]; rfl
    rw [hget]
    rcases e3 i with hh | ⟨hh, z, hz⟩ | hh
    · rw [hh, clearF_get]
      split
      · trivial
      · rename_i hiw
        have hs := r.slot i
        rw [← ag.slot i hiw] at hs
        show SVr _ (st.get i) _
        cases hg : st.get i with
        | loc id off =>
          rw [hg] at hs
          refine ⟨by rw [hlen]; exact hs.1, fun m hm => ?_⟩
          obtain ⟨m0, hm0, hb, _⟩ := hloc id m hm
          rw [hb]; exact hs.2 m0 hm0
        | _ => rw [hg] at hs; exact hs
    · rw [hh, hz]
      have hs := r'.slot i
      rw [hz] at hs; exact hs
    · rw [hh]; trivial
  · obtain ⟨_, _, _, _, _, _, hh⟩ := hloc i m hm
    exact hh
  · obtain ⟨m0, h1, h2, _⟩ := hloc i m hm
    obtain ⟨n0, h3, h4, _⟩ := hloc j n hn
    exact r.apart i j m0 n0 h1 h3 (by rw [← h2, ← h4]; exact hb)
  · obtain ⟨m1, h1, h2, h3, h4, h5, _⟩ := hloc i m hm
    rw [hm0] at h1; cases h1
    exact ⟨h2, h3, h4, h5⟩
  · cases hh : (Go.V.jset s w st (x ++ y)).loc i with
    | none => rfl
    | some m =>
      obtain ⟨m0, h1, _⟩ := hloc i m hh
      rw [hn] at h1; cases h1

end Go.V
namespace Go.V

def CQ (st0 : St) (a0 : Act) (W0 : World) (wr : List Nat) (Q : Exit → St → Heap → Prop) (e : Exit) (a : Act) (W : World) : Prop := End st0 a0 W0 wr (Q e) a W

/-! ### A range over a function -/

theorem AllL_intro : ∀ {ts : List LT} {K : List Lf → Prop}, (∀ l, K l) → AllL ts K
  | [], K, h => h []
  | t :: ts, K, h => fun x => AllL_intro fun l => h _

theorem shape_length : ∀ (vts : List VT) (l : List Lf), (shape vts l).length = vts.length
  | [], _ => rfl
  | .one _ :: ts, l => by simp [shape, shape_length ts]
  | .agg us :: ts, l => by simp [shape, shape_length ts]

theorem putAll_rel {st : St} : ∀ (ps : List Nat) (xs : List VV) (f : List SV) (t : Array Value), (∀ i, SVr st (f.getD i .unk) (t.getD i undef)) → f.length ≤ t.size →
    (∀ i, SVr st ((putAll ps xs f).getD i .unk) (((ps.zip (xs.map VV.val)).foldl (fun t (p : Nat × Value) => t.setIfInBounds p.1 p.2) t).getD i undef)) ∧
      (putAll ps xs f).length ≤ ((ps.zip (xs.map VV.val)).foldl (fun t (p : Nat × Value) => t.setIfInBounds p.1 p.2) t).size
  | [], xs, f, t, h, hl => ⟨by simpa [putAll] using h, by simpa [putAll] using hl⟩
  | p :: ps, [], f, t, h, hl => ⟨by simpa [putAll] using h, by simpa [putAll] using hl⟩
  | p :: ps, x :: xs, f, t, h, hl => by
    simp only [putAll, List.map_cons, List.zip_cons_cons, List.foldl_cons]
    refine putAll_rel ps xs (f.set p (.v x)) (t.setIfInBounds p x.val) (fun i => ?_) (by simpa using hl)
    by_cases e : p = i
    · subst e
      by_cases hf : p < f.length
      · have ht : p < t.size := by omega
        simp [hf, ht, SVr]
      · simp only [List.getD, List.getElem?_eq_none (l := f.set p (.v x)) (i := p) (by simpa using hf)]
        trivial
    · have h1 : (f.set p (.v x)).getD i .unk = f.getD i .unk := by simp [List.getElem?_set_ne e]
      have h2 : (t.setIfInBounds p x.val).getD i undef = t.getD i undef := by simp [Array.getElem?_setIfInBounds_ne e]
      rw [h1, h2]; exact h i

theorem Rel.round {st : St} {h : Heap} {a : Act} {W W2 : World} (r : Rel st h a W) (ps : Array Nat) (xs : List VV) :
    Rel (st.round ps.toList xs) W2.heap { tmps := (ps.zip (xs.map VV.val).toArray).foldl (fun tmps (t, a) => tmps.setIfInBounds t a) a.tmps, defers := [] } W2 := by
  have hloc : ∀ i, (st.round ps.toList xs).loc i = none := by
    intro i
    simp only [St.loc, St.round, List.getElem?_map]
    cases st.ls[i]? <;> rfl
  have hfold : (ps.zip (xs.map VV.val).toArray).foldl (fun tmps (t, a) => tmps.setIfInBounds t a) a.tmps = (ps.toList.zip (xs.map VV.val)).foldl (fun t (p : Nat × Value) => t.setIfInBounds p.1 p.2) a.tmps := by
    rw [← Array.foldl_toList, Array.toList_zip]
  have hbase : ∀ i, SVr (st.round ps.toList xs) (st.f.getD i .unk) (a.tmps.getD i undef) := by
    intro i
    have hs := r.slot i
    unfold St.get at hs
    cases hg : st.f.getD i .unk with
    | loc id off =>
      rw [hg] at hs
      refine ⟨by simpa [St.round] using hs.1, fun l hl => ?_⟩
      rw [hloc] at hl; cases hl
    | _ => rw [hg] at hs; exact hs
  obtain ⟨h1, h2⟩ := putAll_rel ps.toList xs st.f a.tmps hbase r.len
  refine ⟨rfl, rfl, ?_, fun i => ?_, fun i l hl => (by rw [hloc] at hl; cases hl), fun i j l m hl => (by rw [hloc] at hl; cases hl)⟩
  · rw [hfold]; exact h2
  · rw [hfold]; exact h1 i

theorem lobj_ne {lp : Loop} {s : LoopState} {l : Loc} : l.obj ≠ lobj lp s := by simp [Loc.obj, lobj]

theorem Rel.setLoop {st : St} {a : Act} {W : World} {l : Nat} {lp : Loop} {s s' : LoopState} (r : Rel st W.heap a W) (hl : W.heap[l]? = some (lobj lp s)) :
    Rel st (W.heap.setIfInBounds l (lobj lp s')) a (hp W (W.heap.setIfInBounds l (lobj lp s'))) := by
  refine ⟨rfl, r.ds, r.len, r.slot, fun i lc hlc => ?_, r.apart⟩
  have h1 := r.loc i lc hlc
  have : l ≠ lc.b := fun e => by rw [e, h1] at hl; exact lobj_ne (Option.some.inj hl)
  rw [Array.getElem?_setIfInBounds_ne this]; exact h1

theorem run_set {P : Program} {W : World} {l : Nat} {o o' : Obj} (hl : W.heap[l]? = some o) (hne : ∀ c e f, o ≠ .cells c e f := by intro _ _ _ h; cases h) : (setObj l o').run P W = .ok () (hp W (W.heap.setIfInBounds l o')) := by
  cases o <;> first | exact absurd rfl (hne _ _ _) | simp [setObj, Sem.run, hl, hp]

theorem run_get {P : Program} {W : World} {l : Nat} {o : Obj} (hl : W.heap[l]? = some o) (hne : ∀ c e f, o ≠ .cells c e f := by intro _ _ _ h; cases h) : (getObj l).run P W = .ok o W := by
  cases o <;> first | exact absurd rfl (hne _ _ _) | simp [getObj, Sem.run, hl]

theorem run_getLoop {P : Program} {W : World} {l : Nat} {lp : Loop} {s : LoopState} (hl : W.heap[l]? = some (lobj lp s)) : (Instr.getLoop l).run P W = .ok { lp with state := s, pending := none } W := by
  simp only [Instr.getLoop, Sem.run_bind, run_get hl, lobj, Result.andThen_ok, Sem.run_pure]

theorem run_begin {P : Program} {W : World} {l : Nat} {lp : Loop} (hl : W.heap[l]? = some (lobj lp .ready)) : (Instr.beginRound l).run P W = .ok () (hp W (W.heap.setIfInBounds l (lobj lp .busy))) := by
  have hs := run_set (P := P) (o' := lobj lp .busy) hl
  unfold lobj at hs
  simp only [Instr.beginRound, Sem.run_bind, run_getLoop hl, Result.andThen_ok, hs, Sem.run_pure]
  rfl

theorem run_endRound {P : Program} {W : World} {l : Nat} {lp : Loop} {s : LoopState} (hl : W.heap[l]? = some (lobj lp s)) : (Instr.endRound l none).run P W = .ok (.bool true) (hp W (W.heap.setIfInBounds l (lobj lp .ready))) := by
  have hs := run_set (P := P) (o' := lobj lp .ready) hl
  unfold lobj at hs
  simp [Instr.endRound, Sem.run_bind, run_getLoop hl, Result.andThen_ok, hs, lobj]

theorem run_endLoop {P : Program} {W : World} {l : Nat} {lp : Loop} (hl : W.heap[l]? = some (lobj lp .ready)) : (Instr.endLoop l).run P W = .ok none (hp W (W.heap.setIfInBounds l (lobj lp .exhausted))) := by
  have hs := run_set (P := P) (o' := lobj lp .exhausted) hl
  unfold lobj at hs
  have hne : (LoopState.ready == LoopState.busy) = false := by decide
  simp [Instr.endLoop, Sem.run_bind, run_getLoop hl, Result.andThen_ok, hs, lobj, hne]

theorem run_take {P : Program} {W : World} {D : Nat} (hl : W.heap[D]? = some (.deferred (some []))) : (Instr.takeDeferred D).run P W = .ok [] (hp W (W.heap.setIfInBounds D (.deferred none))) := by
  simp only [Instr.takeDeferred, Sem.run_bind, run_get hl, Result.andThen_ok, run_set hl, Sem.run_pure]

theorem run_enterLoop {P : Program} {W : World} {fn : FuncId} {tmps : Array Value} {ps : Array Tmp} {assign body : Code} :
    (Instr.enterLoop fn tmps ps assign body none).run P W = .ok (W.heap.size + 1, [⟨.collected W.heap.size, #[]⟩])
      (hp W ((W.heap.push (.deferred (some []))).push (lobj ⟨.ready, none, fn, tmps, ps, assign, body, W.heap.size⟩ .ready))) := by
  have h1 : ∀ (W : World) (o : Obj), (newObj o).run P W = .ok W.heap.size (hp W (W.heap.push o)) := fun _ _ => rfl
  simp only [Instr.enterLoop, Sem.run_bind, h1, Result.andThen_ok, Sem.run_pure]
  have e : (W.heap.push (Obj.deferred (some []))).size = W.heap.size + 1 := by simp
  show Result.ok ((W.heap.push (Obj.deferred (some []))).size, _) _ = _
  rw [e]
  rfl

theorem run_rangeCall {P : Program} {a : Act} {W : World} {f : Operand} {gf : Nat} {A B : Array Value} {l : Nat} (hf : a.eval f = .func (.func gf) A B) :
    (resolve a.eval (rangeCall f l) 0).run P W = .ok ⟨.fn (.func gf) B, A ++ #[yv l]⟩ W := by
  have h0 : a.eval (.const (yv l)) = yv l := rfl
  simp only [resolve, rangeCall, hf, Deferred.ofValue]
  show Result.ok (Deferred.mk _ (A ++ Array.map a.eval #[.const (yv l)])) W = _
  simp [h0]

theorem run_rangeInvoke {P : Program} {W : World} {gf : Nat} {A B : Array Value} {gfn : Func} {gc : Code} (h1 : P.funcs[gf]? = some gfn) (h2 : gfn.body = some gc) (h3 : ¬ gfn.name = "runtime.NumGoroutine") :
    (invoke (.fn (.func gf) B) A).run P W = .ok (.enter gf (A ++ B)) W := by
  simp [invoke, callFunc, h1, h2, h3]

theorem rangeFunc_sound {P : Program} (hng : ∀ (f : Nat) (fn : Func), P.funcs[f]? = some fn → (fn.name == "runtime.NumGoroutine") = false) {pl : Plan} {st : St} {a : Act} {W : World} {Q : Exit → St → Heap → Prop} {f : Operand} {params : Array Tmp} {assign body : Code}
    (iha : ∀ l, (some l = none ∨ noRF assign = true) → ∀ (Q : Exit → St → Heap → Prop) (st : St) (a : Act) (W : World), Rel st W.heap a W → vc P pl assign Q st W.heap → assign.wpIn (FR (some l)) 0 P (CQ st a W (writes assign) Q) a W)
    (ihb : ∀ l, (some l = none ∨ noRF body = true) → ∀ (Q : Exit → St → Heap → Prop) (st : St) (a : Act) (W : World), Rel st W.heap a W → vc P pl body Q st W.heap → body.wpIn (FR (some l)) 0 P (CQ st a W (writes body) Q) a W)
    (r : Rel st W.heap a W) (hv : vc P pl (.rangeFunc f params assign body) Q st W.heap) :
    (Code.rangeFunc f params assign body).wpIn (FR none) 0 P (CQ st a W (writes (.rangeFunc f params assign body)) Q) a W := by
  simp only [vc] at hv
  obtain ⟨hnr, hv⟩ := okIf_elim hv
  obtain ⟨hnra, hnrb⟩ : noRF assign = true ∧ noRF body = true := by simpa using hnr
  have hev := r.ev f
  split at hv
  · rename_i v hf
    rw [hf] at hev
    obtain ⟨vts, hvts, hv⟩ := opt_some hv
    obtain ⟨hlen, hv⟩ := okIf_elim hv
    have hlen := Nat.eq_of_beq_eq_true hlen
    refine wpIn_rangeFunc fun fn _ => ?_
    have hv := hv ⟨.ready, none, fn, a.tmps, params, assign, body, W.heap.size⟩ W.heap.size (W.heap.size + 1) _ rfl rfl rfl rfl
    generalize hlp : (⟨.ready, none, fn, a.tmps, params, assign, body, W.heap.size⟩ : Loop) = lp at hv
    have hlpp : lp.params = params := by rw [← hlp]
    have hlpt : lp.tmps = a.tmps := by rw [← hlp]
    have hlpf : lp.fn = fn := by rw [← hlp]
    have hlpa : lp.assign = assign := by rw [← hlp]
    have hlpb : lp.body = body := by rw [← hlp]
    have henter := run_enterLoop (P := P) (W := W) (fn := fn) (tmps := a.tmps) (ps := params) (assign := assign) (body := body)
    rw [hlp] at henter
    -- the rounds
    have rounds : ∀ (hh : Heap) (R : Bool → Heap → Prop), LAt hh (W.heap.size + 1) lp → AllL (lts vts) fun xs =>
          vc P pl assign (fun e st1 ha => match e with
            | .normal => LBusy ha (W.heap.size + 1) lp fun hb => vc P pl body (fun e st2 hc => match e with
              | .normal => LReady hc (W.heap.size + 1) lp fun hd => R true hd
              | _ => False) st1 hb
            | _ => False) (st.round params.toList (shape vts xs)) hh →
          CallV P (yv (W.heap.size + 1)) (shape vts xs) hh [.one .bool] R := by
      intro hh R hat
      refine AllL_intro fun xs hb => ?_
      refine .inr ⟨_, rfl, fun W2 hW2 => ?_⟩
      subst hW2
      refine ⟨fn, _, assign, body, ?_, roundIn_of_wpIn trivial (wpIn_mono (iha (W.heap.size + 1) (.inr hnra) _ _ _ W2 (r.round params (shape vts xs)) hb) ?_)⟩
      · have hsz : (shape vts xs).length = params.size := by rw [shape_length, hlen]; simp
        simp only [Instr.yield, Sem.run_bind, run_getLoop hat, Result.andThen_ok, hlpp, hlpt, hlpf, hlpa, hlpb]
        simp [hsz]
      · intro e a1 w1 hend
        cases e with
        | normal =>
          obtain ⟨⟨st1, k, r1, e1⟩, ag1, ou1⟩ := hend
          obtain ⟨hb1, k⟩ := k
          refine ⟨_, run_begin hb1, ?_⟩
          have r2 := r1.setLoop (s' := .busy) hb1
          refine wpIn_mono (ihb (W.heap.size + 1) (.inr hnrb) _ _ _ (hp w1 _) r2 (k _ rfl)) ?_
          intro e2 a2 w2 hend2
          cases e2 with
          | normal =>
            obtain ⟨⟨st2, k2, r3, e3⟩, ag2, ou2⟩ := hend2
            obtain ⟨hb2, k2⟩ := k2
            exact ⟨_, _, run_endRound hb2, (ou1.trans (hp_out _ _)).trans (ou2.trans (hp_out _ _)), true, rfl, k2 _ rfl⟩
          | _ => obtain ⟨⟨st2, k2, _⟩, _⟩ := hend2; exact k2.elim
        | _ => obtain ⟨⟨st2, k2, _⟩, _⟩ := hend; exact k2.elim
    obtain ⟨gf, first, capt, gfn, gc, rfl, hgf, hgc, hcall⟩ := hv rounds
    have hev' : a.eval f = .func (.func gf) (first.map VV.val).toArray (capt.map VV.val).toArray := hev
    have hgf' : P.funcs[gf]? = some gfn := hgf
    have hne : ¬ gfn.name = "runtime.NumGoroutine" := by simpa using hng gf gfn hgf
    have hcall := hcall (hp W _) rfl
    have hargs : ((first ++ [VV.lf (.raw (yv (W.heap.size + 1)))] ++ capt).map VV.val).toArray = (first.map VV.val).toArray ++ #[yv (W.heap.size + 1)] ++ (capt.map VV.val).toArray := by
      simp [VV.val, Lf.val, oneV, yv, Value.oneCell']
    rw [hargs] at hcall
    refine ⟨W.heap.size + 1, [⟨.collected W.heap.size, #[]⟩], _, _, _, gf, _, _, henter, run_rangeCall hev', fun _ _ => trivial, run_rangeInvoke hgf hgc hne, fr_depth none, ?_⟩
    refine callsIn_fr.2 (Calls.mono hcall ?_)
    intro e W3 hW3
    obtain ⟨ho, hnil, k⟩ := hW3
    subst hnil
    obtain ⟨hend, k⟩ := k
    refine ⟨none, _, run_endLoop hend, ?_⟩
    obtain ⟨hkeep, k⟩ := keepC_iff (k _ rfl)
    have rk := r.keep (W' := hp W3 _) hkeep
    refine ⟨⟨_, k, ⟨rk.heap, ?_, rk.len, rk.slot, rk.loc, rk.apart⟩, ?_⟩, ⟨rfl, fun _ _ => rfl⟩, (hp_out _ _).trans (ho.trans (hp_out _ _))⟩
    · have := r.ds
      simp [this]
    · exact ⟨(Ev.refl st).some, ⟨[_], rfl⟩, fun _ _ h => h, Nat.le_refl _⟩
  · exact hv.elim

end Go.V
namespace Go.V

theorem End.wider {st0 : St} {a0 : Act} {W0 : World} {wr wr' : List Nat} {K : St → Heap → Prop} {a : Act} {W : World} (h : End st0 a0 W0 wr K a W) (hs : ∀ i, i ∈ wr → i ∈ wr') : End st0 a0 W0 wr' K a W :=
  ⟨h.out, h.agree.mono hs, h.streams⟩

theorem opt_app {s : JSpec} {st0 st : St} {h : Heap} {I : Cur (jlts s) (Heap → Prop)} (hm : meet s st0 I st h) : ∃ l, jget s st0 st = some l ∧ app (jlts s) I l fun p => p h := by
  unfold meet at hm
  exact opt_some hm

theorem wp_loopn {F : Fence} {k0 : Nat} {P : Program} {Q : Exit → Act → World → Prop} {c : Code} {a : Act} {w : World} (I : Nat → Act → World → Prop) (h0 : ∃ n, I n a w)
    (round : ∀ n a w, I n a w → c.wpIn F k0 P (Exit.then (fun a' w' => ∃ m, m < n ∧ I m a' w') Q) a w) : (Code.loop c).wpIn F k0 P Q a w := by
  intro b k cs hro hb hr
  have key : ∀ n a w, I n a w →
      ∃ e a' w', Q e a' w' ∧ ArrivesIn (Machine.fenced P F) P (lone (b.atR a (.code c :: .inLoop c :: k)) cs w) b k cs e a' w' := by
    intro n
    induction n using Nat.strongRecOn with
    | _ n ih =>
      intro a w hI
      obtain ⟨e, a₁, w₁, hq, harr⟩ := round n a w hI b (.inLoop c :: k) cs hro hb hr
      cases e with
      | normal =>
        obtain ⟨m, hlt, hI₁⟩ := hq
        obtain ⟨e₂, a₂, w₂, hq₂, harr₂⟩ := ih m hlt a₁ w₁ hI₁
        exact ⟨e₂, a₂, w₂, hq₂, .of_steps (StepsIn.trans harr (.one (fenced_calm hb hr rfl) stepR_inLoop)) harr₂⟩
      | exit id => exact ⟨_, a₁, w₁, hq, .pass (x := .inLoop c) rfl (fun _ _ => .inl (by simp)) harr⟩
      | goto l => exact ⟨_, a₁, w₁, hq, .pass (x := .inLoop c) rfl (fun _ _ => .inl (by simp)) harr⟩
      | ret => exact ⟨_, a₁, w₁, hq, .pass (x := .inLoop c) rfl (fun _ _ => .inl (by simp)) harr⟩
      | panic ch => exact ⟨_, a₁, w₁, hq, .pass (x := .inLoop c) rfl (fun _ _ => .inl (by simp)) harr⟩
      | outgrown => exact ⟨_, a₁, w₁, hq, .pass (x := .inLoop c) rfl (fun _ _ => .inl (by simp)) harr⟩
  obtain ⟨n, hn⟩ := h0
  obtain ⟨e, a', w', hq, harr⟩ := key n a w hn
  exact ⟨e, a', w', hq, .of_steps (.one (fenced_calm hb hr rfl) stepR_loop) harr⟩

def resStep (tmps : Array Value) : ResultVar → Sem Value
  | .tmp t => pure (tmps.getD t undef)
  | .cell x t => do loadVar t (← asAddr (tmps.getD x undef))

theorem results_eq (fn : Func) (tmps : Array Value) : results fn tmps = (do
    let vs ← fn.results.mapM (resStep tmps)
    pure (if h : vs.size = 1 then vs[0] else .tuple vs)) := by
  unfold results
  congr 1

theorem resK_run {P : Program} {st : St} {h : Heap} {a : Act} {W : World} (r : Rel st h a W) : ∀ (l : List ResultVar) (K : List VV → Prop), resK P st h l K →
    ∃ vs, K vs ∧ (l.mapM (resStep a.tmps)).run P W = .ok (vs.map VV.val) W
  | [], K, hv => ⟨[], hv, by simp⟩
  | .tmp t :: l, K, hv => by
    simp only [resK] at hv
    split at hv
    · rename_i x hx
      obtain ⟨vs, hk, hrun⟩ := resK_run r l _ hv
      refine ⟨x :: vs, hk, ?_⟩
      have hs := r.slot t
      rw [hx] at hs
      simp only [SVr] at hs
      simp only [List.mapM_cons, Sem.run_bind, resStep, Sem.run_pure, Result.andThen_ok, hrun, hs, List.map_cons]
    · exact hv.elim
  | .cell x t :: l, K, hv => by
    simp only [resK] at hv
    split at hv
    · rename_i i off vt hx hvt
      split at hv
      · rename_i lc hlc
        obtain ⟨y, hy, hv⟩ := opt_some hv
        obtain ⟨vs, hk, hrun⟩ := resK_run r l _ hv
        have hs := r.slot x
        rw [hx] at hs
        have hs' := hs.2 lc hlc
        have hb := r.loc i lc hlc
        have hlen : lc.cs.length = vt.lts.length ∧ y = vt.put lc.cs := by
          cases vt with
          | one z =>
            generalize lc.cs = cs at hy
            match cs, hy with
            | [w], hy => cases hy; exact ⟨rfl, rfl⟩
          | agg ts =>
            simp only [asVT] at hy
            split at hy
            · rename_i hbq; cases hy; exact ⟨Nat.eq_of_beq_eq_true hbq, rfl⟩
            · cases hy
        have hcells : cellsAt W.heap lc.b 0 lc.cs := by
          have := loc_cellsAt (h := W.heap) (l := lc) (by rw [r.heap]; exact hb) lc.cs.length 0 (by omega)
          simpa using this
        have hload := run_loadVar (P := P) hvt hlen.1 hcells
        rw [← hlen.2] at hload
        refine ⟨y :: vs, hk, ?_⟩
        simp only [List.mapM_cons, Sem.run_bind, resStep, hs', asAddr, Sem.run_pure, Result.andThen_ok, hload, hrun, List.map_cons]
      · exact hv.elim
    · rename_i b off vt hx hvt
      obtain ⟨cs, hcl, hcells, hv⟩ := ExL_elim hv
      obtain ⟨vs, hk, hrun⟩ := resK_run r l _ hv
      have hs := r.slot x
      rw [hx] at hs
      have hs' : a.tmps.getD x undef = .pointer (some ⟨b, off, none⟩) := hs
      have hload := run_loadVar (P := P) hvt hcl (show cellsAt W.heap b off cs by rw [r.heap]; exact hcells)
      refine ⟨vt.put cs :: vs, hk, ?_⟩
      simp only [List.mapM_cons, Sem.run_bind, resStep, hs', asAddr, Sem.run_pure, Result.andThen_ok, hload, hrun, List.map_cons]
    · exact hv.elim

theorem flat_shape : ∀ {vts : List VT} {r : List VV} {l : List Lf}, flat vts r = some l → shape vts l = r
  | [], [], l, h => rfl
  | .one _ :: ts, .lf x :: r, l, h => by
    simp only [flat] at h
    split at h
    · rename_i m hm; cases h; simp [shape, flat_shape hm]
    · cases h
  | .agg us :: ts, .agg xs :: r, l, h => by
    simp only [flat] at h
    split at h
    · rename_i hb
      have hb := Nat.eq_of_beq_eq_true hb
      split at h
      · rename_i m hm
        cases h
        simp only [shape, ← hb]
        simp [flat_shape hm]
      · cases h
    · cases h
  | [], _ :: _, _, h => by cases h
  | .one _ :: _, [], _, h => by cases h
  | .agg _ :: _, [], _, h => by cases h
  | .one _ :: _, .agg _ :: _, _, h => by cases h
  | .agg _ :: _, .lf _ :: _, _, h => by cases h

theorem ExL_of_app : ∀ {ts : List LT} {R : Type} {I : Cur ts R} {l : List Lf} {X : R → Prop} {Y : List Lf → Prop}, app ts I l X → Y l → ExL ts fun l' => Y l' ∧ app ts I l' X
  | [], _, I, [], X, Y, h, y => ⟨y, h⟩
  | t :: ts, _, I, x :: l, X, Y, h, y => by
    have h' := h
    simp only [app] at h
    split at h
    · rename_i d hd
      refine ⟨d, ?_⟩
      have hy : Y (t.mk d :: l) := by rw [LT.get_mk hd]; exact y
      have := ExL_of_app (Y := fun l' => Y (t.mk d :: l')) h hy
      have hg : t.get (t.mk d) = some d := by rw [LT.get_mk hd]; exact hd
      have conv : ∀ (ts : List LT) (A B : List Lf → Prop), (∀ l, A l → B l) → ExL ts A → ExL ts B := by
        intro ts
        induction ts with
        | nil => intro A B hab ha; exact hab _ ha
        | cons u us ih => intro A B hab ha; obtain ⟨z, hz⟩ := ha; exact ⟨z, ih _ _ (fun l => hab _) hz⟩
      refine conv ts _ _ (fun l' hl' => ⟨hl'.1, ?_⟩) this
      simp only [app, hg]
      exact hl'.2
    · exact h.elim
  | [], _, _, _ :: _, _, _, h, _ => h.elim
  | _ :: _, _, _, [], _, _, h, _ => h.elim

theorem noRF2 {a b : Bool} (h : (a && b) = true) : a = true ∧ b = true := by simpa using h

section
variable {P : Program} (hng : ∀ (f : Nat) (fn : Func), P.funcs[f]? = some fn → (fn.name == "runtime.NumGoroutine") = false) (hmix : P.follows .mixedOrders = true) {pl : Plan}
include hng hmix

theorem vc_sound : ∀ (c : Code) (ro : Option Nat), (ro = none ∨ noRF c = true) → ∀ (Q : Exit → St → Heap → Prop) (st : St) (a : Act) (W : World), Rel st W.heap a W → vc P pl c Q st W.heap →
    c.wpIn (FR ro) 0 P (CQ st a W (writes c) Q) a W := by
  intro c
  induction c with
  | skip => intro ro hro Q st a W r hv; exact wpIn_skip ⟨⟨st, hv, r, Ev.refl _⟩, Agree.refl _ _, Out.refl _⟩
  | region id ops draw =>
    intro ro hro Q st a W r hv
    simp only [vc] at hv
    split at hv
    · refine wpIn_region_list (wpList_mono ?_ _ _ _ (ops_sound hng (dsts ops.toList) ops.toList st a W (hro.imp (fun h => h) fun h o ho => by
        simp only [noRF, List.all_eq_true, Bool.not_eq_true'] at h; exact h o ho) (fun o ho d hd => List.mem_filterMap.2 ⟨o, ho, hd⟩) r hv))
      intro e a' W' h
      cases e with
      | normal =>
        obtain ⟨⟨s, k, r', e'⟩, ag, ou⟩ := h
        obtain ⟨r2, e2⟩ := r'.prune (pl.live id)
        exact ⟨⟨_, k, r2, e'.trans e2⟩, ag, ou⟩
      | panic c => exact h
      | _ => exact h.elim
    · split at hv
      · rename_i hsd
        obtain ⟨hsel, hdf⟩ := noRF2 hsd
        have hdf : ∀ o ∈ ops.toList, isDefer o = false := fun o ho => by
          simp only [List.all_eq_true, Bool.not_eq_true'] at hdf; exact hdf o ho
        refine wpIn_mono (wpIn_region_any hmix ?_) (Q := RP st a { W with drawn := W.drawn + 1 } (dsts ops.toList) (fun st h => Q .normal (st.prune (pl.live id)) h) (Qclear (dsts ops.toList) fun c st h => Q (.panic c) st h)) ?_
        · have hcl : Closed ops (Array.replicate ops.size false) := fun j o hj hl => by
            have : (Array.replicate ops.size false).getD j false = false := by
              rcases Nat.lt_or_ge j ops.size with h | h
              · simp [h]
              · simp [h]
            rw [this] at hl; cases hl
          have d0 : Dr ops st a { W with drawn := W.drawn + 1 } (Array.replicate ops.size false) [] st a { W with drawn := W.drawn + 1 } :=
            ⟨⟨rfl, r.ds, r.len, r.slot, r.loc, r.apart⟩, hcl, fun c hc => by simp at hc, Ev.refl _, Agree.refl _ _, Out.refl _⟩
          obtain ⟨t1, t2⟩ := draw_sound (ro := ro) hng hsel hdf (pl := pl) (K := fun st h => Q .normal (st.prune (pl.live id)) h) (Qp := fun c st h => Q (.panic c) st h) st a _ (pl.draw id) [] _ [] st a _ d0 hv
          have hu : unlisted (Array.replicate ops.size false) ≤ ops.size := by
            unfold unlisted
            have := List.countP_le_length (p := fun b : Bool => !b) (l := (Array.replicate ops.size false).toList)
            simpa using this
          exact wpAny_of_D (ro := ro) _ _ _ _ _ (D_of_T hu t1 t2)
        · intro e a' W' h
          cases e with
          | normal =>
            obtain ⟨⟨s, k, r', e'⟩, ag, ou⟩ := h
            obtain ⟨r2, e2⟩ := r'.prune (pl.live id)
            exact ⟨⟨_, k, r2, e'.trans e2⟩, ag, ⟨ou.os, ou.tape, ou.output⟩⟩
          | panic c =>
            obtain ⟨⟨s, k, r', e'⟩, ag, ou⟩ := h
            exact ⟨⟨_, k.1, r', e'⟩, ag, ⟨ou.os, ou.tape, ou.output⟩⟩
          | _ => exact h.elim
      · exact hv.elim
  | seq x y ihx ihy =>
    intro ro hro Q st a W r hv
    simp only [vc] at hv
    split at hv
    · refine wpIn_seq (wpIn_mono (ihx ro (hro.imp id fun h => (noRF2 h).1) _ st a W r hv) ?_)
      intro e a' W' h
      cases e with
      | normal =>
        obtain ⟨⟨s, k, r', e'⟩, ag, ou⟩ := h
        refine wpIn_mono (ihy ro (hro.imp id fun h => (noRF2 h).2) Q s a' W' r' k) fun e2 a2 W2 h2 => ?_
        exact (h2.wider (wr' := writes (x.seq y)) (fun i hi => by simp [writes, hi])).before e' (ag.mono fun i hi => by simp [writes, hi]) ou
      | _ => exact h.wider fun i hi => by simp [writes, hi]
    · rename_i s hs
      obtain ⟨I, hx, hI⟩ := hv
      refine wpIn_seq (wpIn_mono (ihx ro (hro.imp id fun h => (noRF2 h).1) _ st a W r hx) ?_)
      intro e a' W' h
      cases e with
      | normal =>
        obtain ⟨⟨st', k, r', e'⟩, ag, ou⟩ := h
        obtain ⟨l, hl, happ⟩ := opt_app k
        obtain ⟨p, hp, hph⟩ := AllI_app hI happ
        obtain ⟨rj, ej⟩ := Rel.jset r r' e' ag hl
        refine wpIn_mono (ihy ro (hro.imp id fun h => (noRF2 h).2) Q _ a' W' rj (hp _ hph)) fun e2 a2 W2 h2 => ?_
        exact (h2.wider (wr' := writes (x.seq y)) (fun i hi => by simp [writes, hi])).before ej (ag.mono fun i hi => by simp [writes, hi]) ou
      | _ => exact h.wider fun i hi => by simp [writes, hi]
  | cond c x y ihx ihy =>
    intro ro hro Q st a W r hv
    simp only [vc] at hv
    have hc := r.ev c
    split at hv
    · rename_i t ht
      rw [ht] at hc
      simp only [SVr, VV.val, Lf.val] at hc
      rcases Br_elim hv with ⟨e, hv⟩ | ⟨e, hv⟩
      · rw [e] at hc
        exact wpIn_cond_true hc (wpIn_mono (ihx ro (hro.imp id fun h => (noRF2 h).1) Q st a W r hv) fun e a' W' h => End.wider h fun i hi => by simp [writes, hi])
      · rw [e] at hc
        exact wpIn_cond_false hc (wpIn_mono (ihy ro (hro.imp id fun h => (noRF2 h).2) Q st a W r hv) fun e a' W' h => End.wider h fun i hi => by simp [writes, hi])
    · exact hv.elim
  | block id x ih =>
    intro ro hro Q st a W r hv
    simp only [vc] at hv
    split at hv
    · refine wpIn_block (wpIn_mono (ih ro hro _ st a W r hv) ?_)
      intro e a' W' h
      cases e with
      | exit i =>
        simp only [Exit.inBlock]
        obtain ⟨⟨st', k, r', e'⟩, ag, ou⟩ := h
        simp only at k
        by_cases hi : i = id
        · subst hi
          rw [if_pos rfl]
          have hb : Nat.beq i i = true := by simp
          rw [hb] at k
          exact ⟨⟨st', k, r', e'⟩, ag, ou⟩
        · rw [if_neg hi]
          have hb : Nat.beq i id = false := by
            cases hh : Nat.beq i id with
            | false => rfl
            | true => exact absurd (Nat.eq_of_beq_eq_true hh) hi
          rw [hb] at k
          exact ⟨⟨st', k, r', e'⟩, ag, ou⟩
      | _ => exact h
    · rename_i s hs
      obtain ⟨I, hx, hI⟩ := hv
      have met : ∀ a' W' st', meet s st I st' W'.heap → Rel st' W'.heap a' W' → Ev st st' → Agree (writes x) a a' → Out W W' → End st a W (writes x) (Q .normal) a' W' := by
        intro a' W' st' k r' e' ag ou
        obtain ⟨l, hl, happ⟩ := opt_app k
        obtain ⟨p, hp, hph⟩ := AllI_app hI happ
        obtain ⟨rj, ej⟩ := Rel.jset r r' e' ag hl
        exact ⟨⟨_, hp _ hph, rj, ej⟩, ag, ou⟩
      refine wpIn_block (wpIn_mono (ih ro hro _ st a W r hx) ?_)
      intro e a' W' h
      cases e with
      | exit i =>
        simp only [Exit.inBlock]
        obtain ⟨⟨st', k, r', e'⟩, ag, ou⟩ := h
        simp only at k
        by_cases hi : i = id
        · subst hi
          rw [if_pos rfl]
          have hb : Nat.beq i i = true := by simp
          rw [hb] at k
          exact met a' W' st' k r' e' ag ou
        · rw [if_neg hi]
          have hb : Nat.beq i id = false := by
            cases hh : Nat.beq i id with
            | false => rfl
            | true => exact absurd (Nat.eq_of_beq_eq_true hh) hi
          rw [hb] at k
          exact ⟨⟨st', k, r', e'⟩, ag, ou⟩
      | normal =>
        obtain ⟨⟨st', k, r', e'⟩, ag, ou⟩ := h
        exact met a' W' st' k r' e' ag ou
      | _ => exact h
  | loop x ih =>
    intro ro hro Q st a W r hv
    simp only [vc] at hv
    obtain ⟨s, hs, I, h0, hI⟩ := opt_some hv
    obtain ⟨l0, hl0, happ0⟩ := opt_some h0
    let VCb : List Lf → Heap → Nat → Prop := fun l h' n => vc P pl x (fun e st' h'' => match e with
          | .normal => opt (jget s st st') fun l' => app (jlts s) I l' fun p => ∃ m, m < n ∧ p h'' m
          | e => Q e st' h'') (Go.V.jset s (writes x) st l) h'
    let Hd : Nat → Act → World → Prop := fun n a' W' => ∃ l, Rel (Go.V.jset s (writes x) st l) W'.heap a' W' ∧ VCb l W'.heap n ∧ Ev st (Go.V.jset s (writes x) st l) ∧ Agree (writes x) a a' ∧ Out W W'
    refine wp_loopn Hd ?_ ?_
    · obtain ⟨p, hp, n, hpn⟩ := AllI_app hI happ0
      obtain ⟨rj, ej⟩ := Rel.jset r r (Ev.refl st) (Agree.refl (writes x) a) hl0
      exact ⟨n, l0, rj, hp _ _ hpn, ej, Agree.refl _ _, Out.refl _⟩
    · rintro n a1 W1 ⟨l, r1, hb, e1, ag1, ou1⟩
      refine wpIn_mono (ih ro hro _ _ a1 W1 r1 hb) ?_
      intro e a2 W2 h
      cases e with
      | normal =>
        obtain ⟨⟨st', k, r', e'⟩, ag, ou⟩ := h
        obtain ⟨l', hl', happ'⟩ := opt_some k
        obtain ⟨p, hp, m, hm, hpm⟩ := AllI_app hI happ'
        obtain ⟨rj, ej⟩ := Rel.jset r r' (e1.trans e') (ag1.trans ag) hl'
        exact ⟨m, hm, l', rj, hp _ _ hpm, ej, ag1.trans ag, ou1.trans ou⟩
      | _ => exact h.before e1 ag1 ou1
  | exit id => intro ro hro Q st a W r hv; exact wpIn_exit ⟨⟨st, hv, r, Ev.refl _⟩, Agree.refl _ _, Out.refl _⟩
  | ret => intro ro hro Q st a W r hv; exact wpIn_ret ⟨⟨st, hv, r, Ev.refl _⟩, Agree.refl _ _, Out.refl _⟩
  | rangeFunc f params assign body iha ihb =>
    intro ro hro Q st a W r hv
    obtain rfl : ro = none := hro.resolve_right (by simp [noRF])
    exact rangeFunc_sound (pl := pl) hng (fun l => iha (some l)) (fun l => ihb (some l)) r hv
  | scope _ _ => intro ro hro Q st a W r hv; exact hv.elim
  | label _ => intro ro hro Q st a W r hv; exact hv.elim
  | goto _ => intro ro hro Q st a W r hv; exact hv.elim
  | refuse _ => intro ro hro Q st a W r hv; exact hv.elim

omit hmix in
theorem leaves_ds {fn : Func} {st : St} {a : Act} (hds0 : a.defers = st.ds) {vts : List VT} {R : Cur (lts vts) (Heap → Prop)} {Rp : TypeId → Value → Heap → Prop} {W0 : World} : ∀ (ds : List Deferred) (pm : Option (TypeId × Value)) (W : World),
    Rel st W.heap a W → Out W0 W → retDs P st (retK P fn vts R Rp st) ds pm W.heap →
    LeavesInM (FR none) 0 P fn a.tmps (fun e W' => Out W0 W' ∧ ((ExL (lts vts) fun l => e = .returned (rets (shape vts l)) ∧ app (lts vts) R l fun p => p W'.heap) ∨ ∃ t v, e = .panicked [{ v := .iface t v, recovered := false }] ∧ Rp t v W'.heap)) ds (pmode pm) W
  | [], none, W, r, ho, hv => by
    obtain ⟨vs, hk, hrun⟩ := resK_run (P := P) r _ _ hv
    obtain ⟨l, hl, happ⟩ := opt_some hk
    refine ⟨rets vs, ?_, ho, .inl (ExL_of_app (Y := fun l' => Ending.returned (rets vs) = .returned (rets (shape vts l'))) happ (by rw [flat_shape hl]))⟩
    rw [results_eq, ← Array.toArray_toList (xs := fn.results), List.mapM_toArray]
    simp only [Sem.run_bind, Sem.run_map, hrun, Result.andThen_ok, Sem.run_pure]
    match vs with
    | [] => rfl
    | [x] => rfl
    | _ :: _ :: _ => simp [rets]
  | [], some (t, v), W, r, ho, hv => ⟨ho, .inr ⟨t, v, rfl, hv⟩⟩
  | ⟨.collected D, x⟩ :: ds, pm, W, r, ho, hv => by
    obtain ⟨hD, hp⟩ := hv
    refine ⟨by cases pm <;> simp [pmode], .inl ⟨D, _, rfl, run_take hD, leaves_ds hds0 ds pm (Go.V.hp W _) ?_ (ho.trans (hp_out _ _)) (hp _ rfl)⟩⟩
    exact r.setObj fun l e => by rw [hD] at e; cases e
  | ⟨.fn (.func f) capt, args⟩ :: ds, pm, W, r, ho, hv => by
    have harr : (⟨args.toList ++ capt.toList⟩ : Array Value) = args ++ capt := by apply Array.ext'; simp
    obtain ⟨⟨fn', body, hfn', hbody⟩, hcall⟩ := hv
    rw [harr] at hcall
    have hcall := hcall W rfl
    have hn := hng f fn' hfn'
    have hinv : (invoke (.fn (.func f) capt) args).run P W = .ok (.enter f (args ++ capt)) W := by
      have hne : ¬ fn'.name = "runtime.NumGoroutine" := by simpa using hn
      simp [invoke, callFunc, hfn', hne, hbody]
    have hrun : pmode pm ≠ .run := by cases pm <;> simp [pmode]
    refine ⟨hrun, .inr ⟨fun h => (by cases h), .func f, capt, f, args ++ capt, rfl, hinv, fun g _ => trivial, ?_⟩⟩
    refine CallsDIn.mono (hcall) fun e u' W' ⟨ho', ⟨v, hv'⟩, hx⟩ => ?_
    subst hv'
    rcases hx with ⟨rfl, hk⟩ | ⟨t, v', rfl, rfl, hk⟩
    · obtain ⟨hkeep, hk⟩ := keepC_iff hk
      have := leaves_ds hds0 ds pm W' (r.keep hkeep) (ho.trans ho') hk
      have hs : settle (pmode pm) = pmode pm := by cases pm <;> rfl
      show LeavesInM _ _ _ _ _ _ _ (settle (pmode pm)) _
      rw [hs]; exact this
    · obtain ⟨hkeep, hk⟩ := keepC_iff hk
      exact leaves_ds hds0 ds none W' (r.keep hkeep) (ho.trans ho') hk
  | ⟨.nil, _⟩ :: _, _, _, _, _, hv => hv.elim
  | ⟨.builtin .., _⟩ :: _, _, _, _, _, hv => hv.elim
  | ⟨.coroexit _, _⟩ :: _, _, _, _, _, hv => hv.elim
  | ⟨.fn (.method _) _, _⟩ :: _, _, _, _, _, hv => hv.elim
  | ⟨.fn (.methodOf ..) _, _⟩ :: _, _, _, _, _, hv => hv.elim
  | ⟨.fn (.via ..) _, _⟩ :: _, _, _, _, _, hv => hv.elim
  | ⟨.fn (.yield _) _, _⟩ :: _, _, _, _, _, hv => hv.elim

theorem callP_sound {f : FuncId} {fn : Func} (hf : P.funcs[f]? = some fn) {args : List VV} {h : Heap} {vts : List VT} {R : Cur (lts vts) (Heap → Prop)} {Rp : TypeId → Value → Heap → Prop}
    (hv : vcFnP P pl fn args h vts R Rp) : CallP P f args h vts R Rp := by
  intro W hW
  obtain ⟨c, hc, hv⟩ := opt_some hv
  subst hW
  have hsz : (initF fn.ntmps args).length ≤ ((args.map VV.val).toArray ++ Array.replicate (fn.ntmps - (args.map VV.val).toArray.size) undef).size := by
    simp [initF]
  have r0 : Rel ⟨initF fn.ntmps args, [], []⟩ W.heap { tmps := (args.map VV.val).toArray ++ Array.replicate (fn.ntmps - (args.map VV.val).toArray.size) undef, defers := [] } W := by
    refine ⟨rfl, rfl, hsz, fun i => ?_, fun i l hl => by simp [St.loc] at hl, fun i j l m hl => by simp [St.loc] at hl⟩
    unfold St.get initF
    simp only
    by_cases hi : i < args.length
    · have h1 : (args.map SV.v ++ List.replicate (fn.ntmps - args.length) SV.unk).getD i .unk = .v args[i] := by
        simp [List.getD, List.getElem?_append_left, hi]
      have h2 : ((args.map VV.val).toArray ++ Array.replicate (fn.ntmps - (args.map VV.val).toArray.size) undef).getD i undef = args[i].val := by
        simp [Array.getElem?_append_left, hi]
      rw [h1, h2]; rfl
    · have h1 : (args.map SV.v ++ List.replicate (fn.ntmps - args.length) SV.unk).getD i .unk = .unk := by
        simp only [List.getD]
        rw [List.getElem?_append_right (by simp; omega)]
        cases hh : (List.replicate (fn.ntmps - args.length) SV.unk)[i - (args.map SV.v).length]? with
        | none => rfl
        | some y =>
          have := List.mem_of_getElem? hh
          simp at this
          simp [this.2]
      rw [h1]; trivial
  refine callsIn_fr (ro := none) (n := 0) |>.1 (callsIn_of_wp_marks hf hc trivial (wpIn_mono (vc_sound hng hmix c none (.inl rfl) _ _ _ W r0 hv) ?_))
  intro e a' W' hend
  obtain ⟨⟨st', k, r', e'⟩, ag, ou⟩ := hend
  unfold retQP at k
  cases e with
  | normal => have := leaves_ds hng r'.ds st'.ds none W' r' ou k; rw [← r'.ds] at this; exact this
  | ret => have := leaves_ds hng r'.ds st'.ds none W' r' ou k; rw [← r'.ds] at this; exact this
  | panic c =>
    split at k
    · cases ‹Exit.panic _ = _›
    · cases ‹Exit.panic _ = _›
    · rename_i t v heq
      cases heq
      have := leaves_ds hng r'.ds st'.ds (some (t, v)) W' r' ou k
      rw [← r'.ds] at this
      exact this
    · exact k.elim
  | _ => exact k.elim

theorem call_sound {f : FuncId} {fn : Func} (hf : P.funcs[f]? = some fn) {args : List VV} {h : Heap} {vts : List VT} {R : Cur (lts vts) (Heap → Prop)}
    (hv : vcFn P pl fn args h vts R) : Call P f args h vts R := fun W hW =>
  Calls.mono (callP_sound hng hmix hf hv W hW) fun e W' ⟨ho, hx⟩ => ⟨ho, hx.resolve_right fun ⟨_, _, _, x⟩ => x⟩

theorem call_eq {V : Prop} {f : FuncId} {fn : Func} (hf : P.funcs[f]? = some fn) {args : List VV} {h : Heap} {vts : List VT} {R : Cur (lts vts) (Heap → Prop)}
    (e : V = vcFn P pl fn args h vts R) (hv : V) : Call P f args h vts R := call_sound hng hmix hf (e.mp hv)

end
end Go.V
/-! Closures that are deferred and recover: 'x := recover()' first, then whatever. -/
namespace Go.V

section
variable {P : Program} (hng : ∀ (f : Nat) (fn : Func), P.funcs[f]? = some fn → (fn.name == "runtime.NumGoroutine") = false) (hmix : P.follows .mixedOrders = true) {pl : Plan}
include hng hmix

end

end Go.V
/-! Words for what is left to prove: heaps that grow, rows of elements, branches. -/
namespace Go.V

structure Ext (S : Nat → Prop) (h h' : Heap) : Prop where
  size : h.size ≤ h'.size
  same : ∀ b, b < h.size → ¬ S b → h'[b]? = h[b]?

def none' : Nat → Prop := fun _ => False
abbrev Ext0 (h h' : Heap) : Prop := Ext none' h h'

theorem Ext.refl (S : Nat → Prop) (h : Heap) : Ext S h h := ⟨Nat.le_refl _, fun _ _ _ => rfl⟩
theorem Ext.trans {S : Nat → Prop} {a b c : Heap} (h : Ext S a b) (k : Ext S b c) : Ext S a c :=
  ⟨Nat.le_trans h.size k.size, fun i hi hs => (k.same i (Nat.lt_of_lt_of_le hi h.size) hs).trans (h.same i hi hs)⟩
theorem Ext.mono {S T : Nat → Prop} {a b : Heap} (h : Ext S a b) (hs : ∀ i, S i → T i) : Ext T a b := ⟨h.size, fun i hi ht => h.same i hi fun x => ht (hs i x)⟩
theorem Ext.of0 {S : Nat → Prop} {a b : Heap} (h : Ext0 a b) : Ext S a b := h.mono fun _ x => x.elim
theorem Ext.trans' {S T : Nat → Prop} {a b c : Heap} (h : Ext S a b) (k : Ext T b c) (hs : ∀ i, i < a.size → T i → S i) : Ext S a c :=
  ⟨Nat.le_trans h.size k.size, fun i hi hn => (k.same i (Nat.lt_of_lt_of_le hi h.size) fun x => hn (hs i hi x)).trans (h.same i hi hn)⟩
theorem Ext.then0 {S : Nat → Prop} {a b c : Heap} (h : Ext S a b) (k : Ext0 b c) : Ext S a c := h.trans k.of0
theorem Ext.keep {S : Nat → Prop} {h h' : Heap} (e : Ext S h h') {b : Nat} (hb : b < h.size) (hs : ¬ S b := by exact id) : keepB h h' [b] := ⟨e.same b hb hs, trivial⟩
theorem Ext.keep2 {S : Nat → Prop} {h h' : Heap} (e : Ext S h h') {b c : Nat} (hb : b < h.size) (hc : c < h.size) (hs : ¬ S b := by exact id) (hs' : ¬ S c := by exact id) : keepB h h' [b, c] := ⟨e.same b hb hs, e.same c hc hs', trivial⟩

def Blk (h : Heap) (b : Nat) (t : TypeId) (cs : List Lf) : Prop := h[b]? = some (.cells (cs.map Lf.val).toArray t (0, 0))

theorem Blk.lt {h : Heap} {b : Nat} {t : TypeId} {cs : List Lf} (k : Blk h b t cs) : b < h.size := size_pos_of_getElem? k
theorem Blk.ext {S : Nat → Prop} {h h' : Heap} {b : Nat} {t : TypeId} {cs : List Lf} (k : Blk h b t cs) (e : Ext S h h') (hs : ¬ S b := by exact id) : Blk h' b t cs := (e.same b k.lt hs).trans k
theorem Blk.cell {h : Heap} {b : Nat} {t : TypeId} {cs : List Lf} (k : Blk h b t cs) {off : Nat} {x : Lf} (hx : cs[off]? = some x) : cellsAt h b off [x] :=
  ⟨⟨_, _, _, k, by simp [hx]⟩, trivial⟩

theorem cellsAt.ext {S : Nat → Prop} {h h' : Heap} (e : Ext S h h') {b : Nat} (hs : ¬ S b) : ∀ {l : List Lf} {off : Nat}, cellsAt h b off l → cellsAt h' b off l
  | [], _, _ => trivial
  | x :: l, off, ⟨⟨c, t, fz, hb, hx⟩, hr⟩ => ⟨⟨c, t, fz, (e.same b (size_pos_of_getElem? hb) hs).trans hb, hx⟩, cellsAt.ext e hs hr⟩

theorem cellsAt.lt {h : Heap} {b off : Nat} {x : Lf} {l : List Lf} (k : cellsAt h b off (x :: l)) : b < h.size := let ⟨⟨_, _, _, hb, _⟩, _⟩ := k; size_pos_of_getElem? hb

/-! ### Steps -/

theorem Br.mk {b : Bool} {X Y : Prop} (ht : b = true → X) (hf : b = false → Y) : Br b X Y := by
  cases b
  · exact hf rfl
  · exact ht rfl
theorem Br.dec {c : Prop} [Decidable c] {X Y : Prop} (ht : c → X) (hf : ¬ c → Y) : Br (decide c) X Y :=
  Br.mk (fun h => ht (of_decide_eq_true h)) (fun h => hf (of_decide_eq_false h))
theorem Br.eq {a b : Int} {X Y : Prop} (ht : a = b → X) (hf : a ≠ b → Y) : Br (a == b) X Y :=
  Br.mk (fun h => ht (by simpa using h)) (fun h => hf (by simpa using h))
theorem Br.ne {a b : Int} {X Y : Prop} (ht : a ≠ b → X) (hf : a = b → Y) : Br (a != b) X Y :=
  Br.mk (fun h => ht (by simpa using h)) (fun h => hf (by simpa using h))
theorem Br.not {a : Bool} {X Y : Prop} (ht : a = false → X) (hf : a = true → Y) : Br (!a) X Y :=
  Br.mk (fun h => ht (by simpa using h)) (fun h => hf (by simpa using h))
theorem Br.t {X Y : Prop} {b : Bool} (h : b = true) (x : X) : Br b X Y := by subst h; exact x
theorem Br.f {X Y : Prop} {b : Bool} (h : b = false) (y : Y) : Br b X Y := by subst h; exact y

theorem NilC.mk {p : Option (Nat × Nat)} {b off : Nat} {K : Nat → Nat → Prop} (h : p = some (b, off)) (k : K b off) : NilC p K := by subst h; exact k

theorem hnew_get (h : Heap) (t : TypeId) (cs : List Lf) : (hnew h t cs)[h.size]? = some (.cells (cs.map Lf.val).toArray t (0, 0)) := by simp [hnew]
theorem push_ext (h : Heap) (o : Obj) : Ext0 h (h.push o) := ⟨by simp, fun b hb _ => by rw [Array.getElem?_push, if_neg (by omega)]⟩

theorem New.mk {t : TypeId} {cs : List Lf} {h : Heap} {K : Nat → Heap → Prop} (k : ∀ b h', b = h.size → h'.size = h.size + 1 → Ext0 h h' → Blk h' b t cs → K b h') : New t cs h K := by
  rintro b h' rfl rfl
  exact k _ _ rfl (by simp [hnew]) (push_ext h _) (hnew_get h t cs)

theorem set_ext (h : Heap) (b : Nat) (o : Obj) : Ext (fun x => x = b) h (h.setIfInBounds b o) :=
  ⟨by simp, fun i hi hs => by rw [Array.getElem?_setIfInBounds_ne (fun e => hs e.symm)]⟩

theorem Set.mk {b : Nat} {t : TypeId} {cs : List Lf} {h : Heap} {K : Heap → Prop} (k : ∀ h', h'.size = h.size → Ext (fun x => x = b) h h' → (b < h.size → Blk h' b t cs) → K h') : Set b t cs h K := by
  rintro h' rfl
  exact k _ (by simp [hset]) (set_ext h b _) (fun hb => by simp [Blk, hset, hb])

def CurImp : (ts : List LT) → Cur ts (Heap → Prop) → Cur ts (Heap → Prop) → Prop
  | [], R, R' => ∀ h, R h → R' h
  | t :: ts, R, R' => ∀ x : t.den, CurImp ts (R x) (R' x)

theorem app_imp : ∀ {ts : List LT} {R R' : Cur ts (Heap → Prop)} {l : List Lf} {h : Heap}, CurImp ts R R' → app ts R l (fun p => p h) → app ts R' l fun p => p h
  | [], _, _, [], _, k, a => k _ a
  | t :: ts, R, R', x :: l, h, k, a => by
    simp only [app] at a ⊢
    split at a
    · rename_i d hd; exact app_imp (k d) a
    · exact a
  | [], _, _, _ :: _, _, _, a => a.elim
  | _ :: _, _, _, [], _, _, a => a.elim

theorem ExL_mono : ∀ {ts : List LT} {A B : List Lf → Prop}, (∀ l, A l → B l) → ExL ts A → ExL ts B
  | [], _, _, k, a => k _ a
  | _ :: ts, _, _, k, ⟨x, a⟩ => ⟨x, ExL_mono (ts := ts) (fun l => k _) a⟩

theorem Call.mono {P : Program} {f : FuncId} {args : List VV} {h : Heap} {vts : List VT} {R R' : Cur (lts vts) (Heap → Prop)} (c : Call P f args h vts R) (k : CurImp (lts vts) R R') : Call P f args h vts R' :=
  fun W hW => (c W hW).mono fun e W' ⟨o, x⟩ => ⟨o, ExL_mono (fun l ⟨e, a⟩ => ⟨e, app_imp k a⟩) x⟩

/-! ### Numbers -/
theorem wi64 {n : Int} (h1 : -9223372036854775808 ≤ n) (h2 : n ≤ 9223372036854775807) : IntKind.wrap .i64 n = n := IntWalk.i64_in n ⟨h1, h2⟩
theorem wu64 {n : Int} (h1 : 0 ≤ n) (h2 : n ≤ 18446744073709551615) : IntKind.wrap .u64 n = n := IntWalk.u64_in n ⟨h1, h2⟩
/-! ### Rows of elements -/

structure Arr {α : Type} (sz : Nat) (f : α → List Lf) (h : Heap) (s : Slc) (l : List α) : Prop where
  len : s.len = l.length
  ne : l ≠ [] → ∃ b off, s.a = some (b, off)
  at_ : ∀ b off, s.a = some (b, off) → ∀ i x, l[i]? = some x → cellsAt h b (off + i * sz) (f x)
  pl : l ≠ [] → s.plain

def Slc.inS (s : Slc) (S : Nat → Prop) : Prop := ∃ b off, s.a = some (b, off) ∧ S b

theorem Arr.ext {α : Type} {sz : Nat} {f : α → List Lf} {S : Nat → Prop} {h h' : Heap} {s : Slc} {l : List α} (a : Arr sz f h s l) (e : Ext S h h') (hs : ¬ s.inS S) : Arr sz f h' s l :=
  ⟨a.len, a.ne, fun b off hb i x hx => (a.at_ b off hb i x hx).ext e fun k => hs ⟨b, off, hb, k⟩, a.pl⟩
theorem Arr.ext0 {α : Type} {sz : Nat} {f : α → List Lf} {h h' : Heap} {s : Slc} {l : List α} (a : Arr sz f h s l) (e : Ext0 h h') : Arr sz f h' s l :=
  a.ext e fun ⟨_, _, _, k⟩ => k
theorem Arr.nil {α : Type} (sz : Nat) (f : α → List Lf) (h : Heap) (c : Nat) : Arr sz f h ⟨none, 0, c⟩ ([] : List α) := ⟨rfl, fun x => absurd rfl x, (fun b off e => by cases e), fun _ => rfl⟩

theorem Arr.ix {α : Type} {sz : Nat} {f : α → List Lf} {h : Heap} {s : Slc} {l : List α} (a : Arr sz f h s l) {i : Int} {k : Nat} (hi : i = (k : Int)) {x : α} (hx : l[k]? = some x)
    {K : Nat → Nat → Prop} (c : ∀ b off, cellsAt h b off (f x) → K b off) : IxC s i sz K := by
  have hk : k < l.length := by
    rcases Nat.lt_or_ge k l.length with h' | h'
    · exact h'
    · rw [List.getElem?_eq_none h'] at hx; cases hx
  obtain ⟨b, off, hb⟩ := a.ne (by intro e; rw [e] at hk; simp at hk)
  subst hi
  refine ⟨by omega, by rw [a.len]; omega, a.pl (by intro e; rw [e] at hk; simp at hk), NilC.mk hb (c _ _ ?_)⟩
  have := a.at_ b off hb k x hx
  simpa using this

theorem Arr.sub {α : Type} {sz : Nat} {f : α → List Lf} {h : Heap} {s : Slc} {l : List α} (a : Arr sz f h s l) {lo hi m : Nat} (h1 : lo ≤ hi) (h2 : hi ≤ l.length) (h3 : hi ≤ m) :
    Arr sz f h (s.sub sz lo hi m) ((l.take hi).drop lo) := by
  refine ⟨?_, fun hne => ?_, fun b off hb i x hx => ?_, fun hne => Slc.plain_sub (a.pl (by rintro rfl; simp at hne)) _ _ _ _⟩
  · simp [Slc.sub]; omega
  · have : l ≠ [] := by rintro rfl; simp at hne
    obtain ⟨b, off, hb⟩ := a.ne this
    unfold Slc.sub
    by_cases e : m = lo
    · exact ⟨b, off, by simp [e, hb]⟩
    · exact ⟨b, off + lo * sz, by simp [e, hb]⟩
  · have hx' : l[lo + i]? = some x ∧ lo + i < hi := by
      simp only [List.getElem?_drop, List.getElem?_take] at hx
      split at hx
      · rename_i hlt; exact ⟨hx, hlt⟩
      · cases hx
    unfold Slc.sub at hb
    simp only at hb
    by_cases e : m = lo
    · exfalso; omega
    · rw [if_neg e] at hb
      cases hsa : s.a with
      | none => rw [hsa] at hb; cases hb
      | some p =>
        obtain ⟨b0, o0⟩ := p
        rw [hsa] at hb
        simp only [Option.some.injEq, Prod.mk.injEq] at hb
        obtain ⟨rfl, rfl⟩ := hb
        have := a.at_ b0 o0 hsa (lo + i) x hx'.1
        rw [Nat.add_mul, ← Nat.add_assoc] at this
        exact this

structure Own {α : Type} (sz : Nat) (f : α → List Lf) (h : Heap) (s : Slc) (l : List α) : Prop where
  len : s.len = l.length
  lec : s.len ≤ s.cap
  blk : (s.a = none ∧ s.cap = 0) ∨ ∃ b c e, s.a = some (b, 0) ∧ h[b]? = some (.cells c e (0, 0)) ∧ c.size = s.cap * sz ∧ c.toList.take (l.length * sz) = (l.flatMap f).map Lf.val
  pl : s.plain

def Sized {α : Type} (sz : Nat) (f : α → List Lf) : Prop := ∀ x, (f x).length = sz

theorem flat_len {α : Type} {sz : Nat} {f : α → List Lf} (hf : Sized sz f) : ∀ l : List α, (l.flatMap f).length = l.length * sz
  | [] => by simp
  | x :: l => by simp [flat_len hf l, hf x, Nat.add_mul]; omega

theorem flat_get {α : Type} {sz : Nat} {f : α → List Lf} (hf : Sized sz f) : ∀ (l : List α) (i : Nat) (x : α), l[i]? = some x → ((l.flatMap f).drop (i * sz)).take sz = f x
  | [], i, x, h => by simp at h
  | y :: l, 0, x, h => by
    simp at h; subst h
    simp [← hf y]
  | y :: l, i + 1, x, h => by
    have := flat_get hf l i x (by simpa using h)
    rw [List.flatMap_cons, Nat.add_mul, Nat.one_mul, Nat.add_comm, ← List.drop_drop, show (f y ++ l.flatMap f).drop sz = l.flatMap f by rw [← hf y]; simp]
    exact this

theorem cells_of_take {h : Heap} {b : Nat} {c : Array Value} {e : TypeId} {fz : Nat × Nat} (hb : h[b]? = some (.cells c e fz)) : ∀ (xs : List Lf) (off : Nat),
    (∀ j y, xs[j]? = some y → c[off + j]? = some y.val) → cellsAt h b off xs
  | [], _, _ => trivial
  | x :: xs, off, k => ⟨⟨c, e, fz, hb, by simpa using k 0 x rfl⟩, cells_of_take hb xs (off + 1) fun j y hy => by
      have := k (j + 1) y (by simpa using hy)
      rwa [show off + (j + 1) = off + 1 + j by omega] at this⟩

theorem Own.arr {α : Type} {sz : Nat} {f : α → List Lf} (hf : Sized sz f) {h : Heap} {s : Slc} {l : List α} (o : Own sz f h s l) : Arr sz f h s l := by
  refine ⟨o.len, fun hne => ?_, fun b off hb i x hx => ?_, fun _ => o.pl⟩
  · rcases o.blk with ⟨ha, hc⟩ | ⟨b, c, e, ha, _⟩
    · have := o.len; have := o.lec
      have : l.length = 0 := by omega
      exact absurd (List.length_eq_zero_iff.1 this) hne
    · exact ⟨b, 0, ha⟩
  · rcases o.blk with ⟨ha, hc⟩ | ⟨b', c, e, ha, hblk, hsz, htk⟩
    · rw [ha] at hb; cases hb
    · rw [ha] at hb; cases hb
      have hi : i < l.length := by
        rcases Nat.lt_or_ge i l.length with h' | h'
        · exact h'
        · rw [List.getElem?_eq_none h'] at hx; cases hx
      have hfl := flat_get hf l i x hx
      refine cells_of_take hblk _ _ fun j y hy => ?_
      have hj : j < sz := by
        have := hf x
        rcases Nat.lt_or_ge j (f x).length with h' | h'
        · omega
        · rw [List.getElem?_eq_none h'] at hy; cases hy
      have h1 : (l.flatMap f)[i * sz + j]? = some y := by
        rw [← hfl] at hy
        simp only [List.getElem?_take, List.getElem?_drop] at hy
        rw [if_pos hj] at hy; exact hy
      have h2 : ((l.flatMap f).map Lf.val)[i * sz + j]? = some y.val := by simp [h1]
      rw [← htk, List.getElem?_take] at h2
      split at h2
      · simpa using h2
      · cases h2

theorem Own.ext {α : Type} {sz : Nat} {f : α → List Lf} {S : Nat → Prop} {h h' : Heap} {s : Slc} {l : List α} (o : Own sz f h s l) (e : Ext S h h') (hs : ¬ s.inS S) : Own sz f h' s l := by
  refine ⟨o.len, o.lec, o.blk.imp id ?_, o.pl⟩
  rintro ⟨b, c, t, ha, hb, hsz, htk⟩
  exact ⟨b, c, t, ha, (e.same b (size_pos_of_getElem? hb) fun x => hs ⟨b, 0, ha, x⟩).trans hb, hsz, htk⟩
theorem Own.ext0 {α : Type} {sz : Nat} {f : α → List Lf} {h h' : Heap} {s : Slc} {l : List α} (o : Own sz f h s l) (e : Ext0 h h') : Own sz f h' s l := o.ext e fun ⟨_, _, _, k⟩ => k
theorem Own.nil {α : Type} (sz : Nat) (f : α → List Lf) (h : Heap) : Own sz f h ⟨none, 0, 0⟩ ([] : List α) := ⟨rfl, Nat.le_refl _, .inl ⟨rfl, rfl⟩, rfl⟩
theorem Own.lt {α : Type} {sz : Nat} {f : α → List Lf} {h : Heap} {s : Slc} {l : List α} (o : Own sz f h s l) : ∀ b off, s.a = some (b, off) → b < h.size ∧ off = 0 := by
  intro b off hb
  rcases o.blk with ⟨ha, _⟩ | ⟨b', c, t, ha, hb', _⟩
  · rw [ha] at hb; cases hb
  · rw [ha] at hb; cases hb; exact ⟨size_pos_of_getElem? hb', rfl⟩

theorem Own.new {α : Type} {sz : Nat} {f : α → List Lf} {h : Heap} {b : Nat} {t : TypeId} {l : List α} (hf : Sized sz f) (k : Blk h b t (l.flatMap f)) : Own sz f h ⟨some (b, 0), l.length, l.length⟩ l :=
  ⟨rfl, Nat.le_refl _, .inr ⟨b, _, t, rfl, k, by simp [← flat_len hf l], by
    have := flat_len hf l
    rw [List.take_of_length_le (by simp [this])]⟩, rfl⟩

theorem Own.take {α : Type} {sz : Nat} {f : α → List Lf} (hf : Sized sz f) {h : Heap} {s : Slc} {l : List α} (o : Own sz f h s l) {n : Nat} (hn : n ≤ l.length) : Own sz f h (s.sub sz 0 n s.cap) (l.take n) := by
  have hlen := o.len
  have hlec := o.lec
  refine ⟨by simp [Slc.sub]; omega, by simp [Slc.sub]; omega, ?_, Slc.plain_sub o.pl _ _ _ _⟩
  rcases o.blk with ⟨ha, hc⟩ | ⟨b, c, t, ha, hb, hsz, htk⟩
  · exact .inl ⟨by simp [Slc.sub, ha], by simp [Slc.sub, hc]⟩
  · refine .inr ⟨b, c, t, by simp [Slc.sub, ha], hb, by simp [Slc.sub, hsz], ?_⟩
    have h1 : (l.take n).length = n := by simp; omega
    have h2 : n * sz ≤ l.length * sz := Nat.mul_le_mul_right _ hn
    rw [h1, show c.toList.take (n * sz) = (c.toList.take (l.length * sz)).take (n * sz) by rw [List.take_take, Nat.min_eq_left h2], htk]
    have h3 : (l.flatMap f) = (l.take n).flatMap f ++ (l.drop n).flatMap f := by rw [← List.flatMap_append, List.take_append_drop]
    rw [h3, List.map_append]
    have h4 : (((l.take n).flatMap f).map Lf.val).length = n * sz := by simp [flat_len hf, h1]
    rw [← h4, List.take_left]

theorem vals_of_cells {h : Heap} {b : Nat} : ∀ {l : List Lf} {off : Nat}, cellsAt h b off l → valsAt h b off (l.map Lf.val)
  | [], _, _ => trivial
  | _ :: _, _, ⟨x, hr⟩ => ⟨x, vals_of_cells hr⟩

theorem valsAt_append {h : Heap} {b : Nat} : ∀ {l m : List Value} {off : Nat}, valsAt h b off l → valsAt h b (off + l.length) m → valsAt h b off (l ++ m)
  | [], _, _, _, k => by simpa using k
  | x :: l, m, off, ⟨y, hr⟩, k => ⟨y, valsAt_append hr (by rw [List.length_cons] at k; rwa [show off + 1 + l.length = off + (l.length + 1) by omega])⟩

theorem Arr.src {α : Type} {sz : Nat} {f : α → List Lf} (hf : Sized sz f) {h : Heap} {s : Slc} {l : List α} (a : Arr sz f h s l) : srcAt h s.a (s.len * sz) ((l.flatMap f).map Lf.val) := by
  refine ⟨by simp [flat_len hf, a.len], ?_⟩
  cases hs : s.a with
  | none =>
    have : l = [] := by
      apply Classical.byContradiction
      intro hne
      obtain ⟨b, off, hb⟩ := a.ne hne
      rw [hs] at hb; cases hb
    subst this; rfl
  | some p =>
    obtain ⟨b, off⟩ := p
    have key : ∀ (m : List α) (k : Nat), (∀ i x, m[i]? = some x → cellsAt h b (off + (k + i) * sz) (f x)) → valsAt h b (off + k * sz) ((m.flatMap f).map Lf.val) := by
      intro m
      induction m with
      | nil => intro k _; exact trivial
      | cons x m ih =>
        intro k hk
        rw [List.flatMap_cons, List.map_append]
        refine valsAt_append (vals_of_cells (by simpa using hk 0 x rfl)) ?_
        have := ih (k + 1) fun i y hy => by
          have := hk (i + 1) y (by simpa using hy)
          rwa [show k + (i + 1) = k + 1 + i by omega] at this
        rw [Nat.add_mul, Nat.one_mul, ← Nat.add_assoc] at this
        simpa [hf x] using this
    have := key l 0 fun i x hx => by simpa using a.at_ b off hs i x hx
    simpa using this

theorem vals_one (l : List Lf) : ∀ v ∈ l.map Lf.val, v.oneCell' = true := fun v hv => by
  obtain ⟨y, _, rfl⟩ := List.mem_map.1 hv; exact Lf.val_one y

theorem zeroCells_size (z : Array Value) (n : Nat) : (Builtin.zeroCells z n).size = n * z.size := by simp [Builtin.zeroCells]

theorem AppV.own {α : Type} {sz bytes : Nat} {f : α → List Lf} (hf : Sized sz f) (hb0 : 0 < bytes) {e : TypeId} {zc : List Value} (hz : zc.length = sz) {h : Heap} {s : Slc} {l m : List α} (o : Own sz f h s l)
    (hbound : (l.length + m.length) * bytes ≤ 140737488355328) {n : Nat} (hn : n = m.length) {news : List Value} (hnews : news = (m.flatMap f).map Lf.val) {K : Slc → Heap → Prop}
    (k : ∀ s' h', Own sz f h' s' (l ++ m) → Ext (fun b => ∃ off, s.a = some (b, off)) h h' → (s'.a = s.a ∨ ∃ b, s'.a = some (b, 0) ∧ h.size ≤ b) → (s'.a = none → s.a = none ∧ m = []) → K s' h') :
    AppV e zc sz bytes s n news h K := by
  subst hn; subst hnews
  refine ⟨vals_one _, fun hle => ?_, fun hlt => ⟨hb0, growslice_fits hlt (by rw [o.len]; exact hbound), _, (o.arr hf).src hf, .inr o.pl, fun c b h' hc hb hh => ?_⟩⟩
  · rcases o.blk with ⟨ha, hcap⟩ | ⟨b, c, t, ha, hb, hsz, htk⟩
    · rw [ha]
      have h0 : m = [] := List.length_eq_zero_iff.1 (by omega)
      subst h0
      show K s h
      exact k s h (by simpa using o) (Ext.refl _ _) (.inl rfl) fun x => ⟨x, rfl⟩
    · rw [ha]
      have hmul : (s.len + m.length) * sz ≤ s.cap * sz := Nat.mul_le_mul_right _ hle
      rw [Nat.add_mul] at hmul
      have hml : ((m.flatMap f).map Lf.val).length = m.length * sz := by simp [flat_len hf]
      refine ⟨fun hm => ?_, fun _ => ⟨o.pl, c, t, (0, 0), hb, by rw [hml, hsz]; omega, .inl (Nat.le_refl _), ?_⟩⟩
      · have hfl : m.flatMap f = [] := by simpa using hm
        refine k _ h ⟨by simp [o.len], hle, .inr ⟨b, c, t, ha, hb, hsz, ?_⟩, Slc.plain_more o.pl _⟩ (Ext.refl _ _) (.inl rfl) (fun x => by rw [Slc.more_a, ha] at x; cases x)
        have : m.length * sz = 0 := by rw [← flat_len hf m, hfl]; rfl
        rw [List.length_append, Nat.add_mul, this, Nat.add_zero, htk, List.flatMap_append, hfl, List.append_nil]
      · rintro h' rfl
        refine k _ _ ⟨by simp [o.len], hle, .inr ⟨b, wr c (0 + s.len * sz) ((m.flatMap f).map Lf.val), t, ha, by simp [size_pos_of_getElem? hb], ?_, ?_⟩, Slc.plain_more o.pl _⟩ ((set_ext h b _).mono fun i hi => ⟨0, by rw [show i = b from hi]; first | exact ha | rfl⟩) (.inl rfl) (fun x => by rw [Slc.more_a, ha] at x; cases x)
        · rw [← Array.toArray_toList (xs := c), wr_splice _ _ _ (by rw [hml]; simp [hsz]; omega)]
          simp only [Nat.zero_add, List.size_toArray, List.length_append, List.length_take, List.length_drop, hml, Array.length_toList, hsz, Slc.more_cap]
          omega
        · rw [← Array.toArray_toList (xs := c), wr_splice _ _ _ (by rw [hml]; simp [hsz]; omega)]
          simp only [Nat.zero_add, o.len, htk]
          rw [List.length_append, Nat.add_mul, ← List.append_assoc]
          rw [List.take_left' (by simp [flat_len hf])]
          simp
  · subst hb; subst hh
    refine k _ _ ⟨by simp [o.len], by simpa [o.len] using hc, .inr ⟨h.size, _, e, rfl, by simp; rfl, ?_, ?_⟩, rfl⟩ ((push_ext h _).of0) (.inr ⟨_, rfl, Nat.le_refl _⟩) (fun x => by cases x)
    · have h1 : (s.len + m.length) * sz ≤ c * sz := Nat.mul_le_mul_right _ hc
      have h2 : (c - (s.len + m.length)) * sz = c * sz - (s.len + m.length) * sz := Nat.sub_mul _ _ _
      rw [o.len] at *
      simp only [Array.size_append, List.size_toArray, List.length_append, List.length_map, flat_len hf, zeroCells_size, hz]
      rw [h2]
      have h3 := Nat.add_mul l.length m.length sz
      show l.length * sz + m.length * sz + (c * sz - (l.length + m.length) * sz) = c * sz
      omega
    · simp only [Array.toList_append, List.length_append, Nat.add_mul]
      rw [List.take_left' (by simp [flat_len hf])]
      simp

theorem AppC.own {α : Type} {sz bytes : Nat} {f : α → List Lf} (hf : Sized sz f) (hb0 : 0 < bytes) {e : TypeId} {zc : List Lf} (hz : zc.length = sz) {h : Heap} {s x : Slc} {l m : List α} (o : Own sz f h s l) (a : Arr sz f h x m)
    (hbound : (l.length + m.length) * bytes ≤ 140737488355328) {K : Slc → Heap → Prop}
    (k : ∀ s' h', Own sz f h' s' (l ++ m) → Ext (fun b => ∃ off, s.a = some (b, off)) h h' → (s'.a = s.a ∨ ∃ b, s'.a = some (b, 0) ∧ h.size ≤ b) → (s'.a = none → s.a = none ∧ m = []) → K s' h') :
    AppC e zc sz bytes s x h K :=
  ⟨_, a.src hf, (by
    by_cases hm : m = []
    · exact .inl (by simp [hm])
    · exact .inr (a.pl hm)), AppV.own hf hb0 (by simpa using hz) o hbound a.len rfl k⟩

end Go.V
/-! More words: slices that grow, slices made, elements written. -/
namespace Go.V

structure Grow (s : Slc) (h : Heap) (s' : Slc) (h' : Heap) : Prop where
  ext : Ext (fun b => ∃ off, s.a = some (b, off)) h h'
  new : s'.a = s.a ∨ ∃ b, s'.a = some (b, 0) ∧ h.size ≤ b

structure Fresh (h0 h : Heap) (s : Slc) : Prop where
  ext : Ext0 h0 h
  new : ∀ b off, s.a = some (b, off) → h0.size ≤ b

theorem Fresh.nil {h : Heap} (c : Nat) : Fresh h h ⟨none, 0, c⟩ := ⟨Ext.refl _ _, fun b off e => by cases e⟩
theorem Fresh.ext0 {h0 h h' : Heap} {s : Slc} (f : Fresh h0 h s) (e : Ext0 h h') : Fresh h0 h' s := ⟨f.ext.trans e, f.new⟩
theorem Fresh.grow {h0 h h' : Heap} {s s' : Slc} (f : Fresh h0 h s) (g : Grow s h s' h') : Fresh h0 h' s' :=
  ⟨f.ext.trans' g.ext fun i hi ⟨off, hx⟩ => absurd (f.new _ _ hx) (by omega), fun b off hb => by
    rcases g.new with h1 | ⟨b', h1, h2⟩
    · exact f.new b off (h1 ▸ hb)
    · rw [h1] at hb; cases hb; have := f.ext.size; omega⟩
theorem Grow.trans {s s' s'' : Slc} {h h' h'' : Heap} (a : Grow s h s' h') (b : Grow s' h' s'' h'') : Grow s h s'' h'' := by
  refine ⟨a.ext.trans' b.ext fun i hi ⟨off, hx⟩ => ?_, ?_⟩
  · rcases a.new with h1 | ⟨b', h1, h2⟩
    · exact ⟨off, h1 ▸ hx⟩
    · rw [h1] at hx; cases hx; omega
  · rcases b.new with h1 | ⟨b', h1, h2⟩
    · rw [h1]; exact a.new
    · exact .inr ⟨b', h1, Nat.le_trans a.ext.size h2⟩
theorem Grow.pre {s s' : Slc} {h0 h h' : Heap} (e : Ext0 h0 h) (a : Grow s h s' h') : Grow s h0 s' h' :=
  ⟨e.of0.trans a.ext, a.new.imp id fun ⟨b, x, y⟩ => ⟨b, x, Nat.le_trans e.size y⟩⟩
theorem Grow.post {s s' : Slc} {h h' h'' : Heap} (a : Grow s h s' h') (e : Ext0 h' h'') : Grow s h s' h'' := ⟨a.ext.then0 e, a.new⟩
theorem Grow.keep {s s' : Slc} {h h' : Heap} (g : Grow s h s' h') {b : Nat} (hb : b < h.size) (hs : ∀ off, s.a ≠ some (b, off)) : keepB h h' [b] := g.ext.keep hb fun ⟨off, x⟩ => hs off x
theorem Fresh.keep {h0 h h' : Heap} {s s' : Slc} (f : Fresh h0 h s) (g : Grow s h s' h') {b : Nat} (hb : b < h0.size) : keepB h h' [b] :=
  g.keep (Nat.lt_of_lt_of_le hb f.ext.size) fun off x => absurd (f.new _ _ x) (by omega)

theorem AppC.grow {α : Type} {sz bytes : Nat} {f : α → List Lf} (hf : Sized sz f) (hb0 : 0 < bytes) {e : TypeId} {zc : List Lf} (hz : zc.length = sz) {h : Heap} {s x : Slc} {l m : List α} (o : Own sz f h s l) (a : Arr sz f h x m)
    (hbound : (l.length + m.length) * bytes ≤ 140737488355328) {K : Slc → Heap → Prop}
    (k : ∀ s' h', Own sz f h' s' (l ++ m) → Grow s h s' h' → K s' h') : AppC e zc sz bytes s x h K :=
  AppC.own hf hb0 hz o a hbound fun s' h' o' e' n' _ => k s' h' o' ⟨e', n'⟩
theorem AppV.grow {α : Type} {sz bytes : Nat} {f : α → List Lf} (hf : Sized sz f) (hb0 : 0 < bytes) {e : TypeId} {zc : List Value} (hz : zc.length = sz) {h : Heap} {s : Slc} {l m : List α} (o : Own sz f h s l)
    (hbound : (l.length + m.length) * bytes ≤ 140737488355328) {n : Nat} (hn : n = m.length) {news : List Value} (hnews : news = (m.flatMap f).map Lf.val) {K : Slc → Heap → Prop}
    (k : ∀ s' h', Own sz f h' s' (l ++ m) → Grow s h s' h' → K s' h') : AppV e zc sz bytes s n news h K :=
  AppV.own hf hb0 hz o hbound hn hnews fun s' h' o' e' n' _ => k s' h' o' ⟨e', n'⟩

theorem zeroCells_list (z : List Value) (n : Nat) : (Builtin.zeroCells z.toArray n).toList = (List.replicate n z).flatten := by
  have key : ∀ n : Nat, (List.range (n * z.length)).map (fun i => z[i % z.length]?.getD default) = (List.replicate n z).flatten := by
    intro n
    induction n with
    | zero => simp
    | succ n ih =>
      rw [Nat.add_mul, Nat.one_mul, Nat.add_comm, List.range_add, List.map_append, List.map_map, List.replicate_succ, List.flatten_cons, ← ih]
      congr 1
      · apply List.ext_getElem?
        intro i
        by_cases hi : i < z.length
        · simp [hi, Nat.mod_eq_of_lt hi]
        · simp [hi]
      · apply List.map_congr_left
        intro i _
        simp
  simpa [Builtin.zeroCells] using key n

theorem flat_rep {α : Type} (f : α → List Lf) (x : α) : ∀ n : Nat, ((List.replicate n x).flatMap f).map Lf.val = (List.replicate n ((f x).map Lf.val)).flatten
  | 0 => rfl
  | n + 1 => by simp [List.replicate_succ, flat_rep f x n]

theorem MkC.own {α : Type} {sz bytes : Nat} {f : α → List Lf} (hf : Sized sz f) {e : TypeId} {z : α} {zc : List Lf} (hz : zc = f z) {n : Nat} {i j : Int} (hi : i = n) (hj : j = n) (hb : bytes * n ≤ 140737488355328) (hn : n ≤ 140737488355328) {h : Heap} {K : Slc → Heap → Prop}
    (k : ∀ s h', Own sz f h' s (List.replicate n z) → s.a = some (h.size, 0) → Ext0 h h' → K s h') : MkC e zc sz bytes i j h K := by
  subst hi hj hz
  have hc : ((bytes : Int) * (n : Int)) = ((bytes * n : Nat) : Int) := by simp
  refine ⟨by omega, Int.le_refl _, by omega, by rw [hc]; omega, ?_⟩
  rintro b h' rfl rfl
  refine k _ _ ⟨by simp, Nat.le_refl _, .inr ⟨_, _, e, rfl, by simp; rfl, ?_, ?_⟩, rfl⟩ rfl (push_ext h _)
  · rw [zeroCells_size]; simp [hf z]
  · rw [zeroCells_list, flat_rep, List.length_replicate, List.take_of_length_le]
    have := flat_len hf (List.replicate n z)
    rw [← flat_rep, List.length_map, this]; simp

theorem flat_set {α : Type} {sz : Nat} {f : α → List Lf} (hf : Sized sz f) : ∀ (l : List α) (k : Nat) (x : α), k < l.length → (l.set k x).flatMap f = (l.flatMap f).take (k * sz) ++ f x ++ (l.flatMap f).drop ((k + 1) * sz)
  | [], k, x, h => by simp at h
  | y :: l, 0, x, h => by
    have := hf y
    simp [← this]
  | y :: l, k + 1, x, h => by
    have ih := flat_set hf l k x (by simpa using h)
    have hy := hf y
    rw [List.set_cons_succ, List.flatMap_cons, ih, List.flatMap_cons]
    have e1 : (k + 1) * sz = (f y).length + k * sz := by rw [hy, Nat.add_mul]; omega
    have e2 : (k + 1 + 1) * sz = (f y).length + (k + 1) * sz := by rw [hy, Nat.add_mul (k + 1)]; omega
    rw [e2, List.drop_length_add_append, show (f y ++ l.flatMap f).take ((k + 1) * sz) = f y ++ (l.flatMap f).take (k * sz) by rw [e1, List.take_length_add_append]]
    simp only [List.append_assoc]

theorem IxC.set {α : Type} {sz : Nat} {f : α → List Lf} (hf : Sized sz f) {h : Heap} {s : Slc} {l : List α} (o : Own sz f h s l) {i : Int} {k : Nat} (hi : i = (k : Int)) (hk : k < l.length) {cs : List Lf} {x : α} (hx : cs = f x) {K : Heap → Prop}
    (c : ∀ h', h'.size = h.size → Own sz f h' s (l.set k x) → Ext (fun b => ∃ off, s.a = some (b, off)) h h' → K h') : IxC s i sz fun b off => StC h b off cs K := by
  subst hi hx
  refine ⟨by omega, by rw [o.len]; omega, o.pl, ?_⟩
  rcases o.blk with ⟨ha, hc⟩ | ⟨b, cc, t, ha, hb, hsz, htk⟩
  · have := o.len; have := o.lec; omega
  · refine NilC.mk ha ?_
    have hlec := o.lec
    have hlen := o.len
    have h1 : (k + 1) * sz ≤ l.length * sz := Nat.mul_le_mul_right _ hk
    have h2 : l.length * sz ≤ s.cap * sz := Nat.mul_le_mul_right _ (by omega)
    rw [Nat.add_mul, Nat.one_mul] at h1
    have hlx : ((f x).map Lf.val).length = sz := by simp [hf x]
    refine ⟨cc, t, (0, 0), hb, by rw [hlx]; simp; omega, .inl (Nat.le_refl _), ?_⟩
    rintro h' rfl
    refine c _ (by simp) ⟨by simpa using hlen, hlec, .inr ⟨b, _, t, ha, by simp [size_pos_of_getElem? hb]; rfl, ?_, ?_⟩, o.pl⟩ ((set_ext h b _).mono fun i hi => ⟨0, by rw [show i = b from hi]; exact ha⟩)
    · rw [← Array.toArray_toList (xs := cc), wr_splice _ _ _ (by rw [hlx]; simp; omega)]
      simp only [Nat.zero_add, List.size_toArray, List.length_append, List.length_take, List.length_drop, hlx, Array.length_toList, hsz, Int.toNat_natCast]
      omega
    · rw [← Array.toArray_toList (xs := cc), wr_splice _ _ _ (by rw [hlx]; simp; omega)]
      simp only [Nat.zero_add, Int.toNat_natCast, hlx, List.length_set]
      rw [flat_set hf l k x hk, List.map_append, List.map_append, List.map_take, List.map_drop, ← htk]
      rw [List.take_append, List.take_append, List.append_assoc]
      congr 1
      · rw [List.take_take, List.take_take]
        congr 1; omega
      · simp only [List.length_take, Array.length_toList, hlx]
        rw [List.take_of_length_le (by rw [hlx]; omega)]
        congr 1
        rw [List.drop_take, Nat.add_mul, Nat.one_mul]
        congr 1
        omega

theorem StC.one {h : Heap} {b : Nat} {t : TypeId} {cs : List Lf} (k : Blk h b t cs) {off : Nat} {x : Lf} (ho : off < cs.length) {K : Heap → Prop}
    (c : ∀ h', h'.size = h.size → Blk h' b t (cs.set off x) → Ext (fun i => i = b) h h' → K h') : StC h b off [x] K := by
  refine ⟨_, t, (0, 0), k, by simp; omega, .inl (Nat.le_refl _), ?_⟩
  rintro h' rfl
  refine c _ (by simp) ?_ (set_ext h b _)
  have : wr (cs.map Lf.val).toArray off [x.val] = ((cs.set off x).map Lf.val).toArray := by
    simp [wr, List.map_set]
  simp [Blk, List.map_cons, this, k.lt]

theorem Ext.tmp {a b c : Heap} {x : Nat} (e : Ext0 a b) (k : Ext (fun i => i = x) b c) (hx : a.size ≤ x) : Ext0 a c :=
  e.trans' k fun i hi h => by have : i = x := h; omega

def Sub (F F' : Nat → Prop) (h : Heap) : Prop := ∀ b, F' b → F b ∨ h.size ≤ b
theorem Sub.refl (F : Nat → Prop) (h : Heap) : Sub F F h := fun _ hb => .inl hb
theorem Sub.trans {F F' F'' : Nat → Prop} {h h' : Heap} (a : Sub F F' h) (b : Sub F' F'' h') (e : h.size ≤ h'.size) : Sub F F'' h := fun i hi => (b i hi).elim (a i) fun x => .inr (Nat.le_trans e x)
theorem Ext.sub {F F' : Nat → Prop} {a b c : Heap} (e : Ext F a b) (k : Ext F' b c) (s : Sub F F' a) : Ext F a c := e.trans' k fun i hi hx => (s i hx).elim id fun y => by omega

theorem cellsAt_append {h : Heap} {b : Nat} : ∀ {l m : List Lf} {off : Nat}, cellsAt h b off l → cellsAt h b (off + l.length) m → cellsAt h b off (l ++ m)
  | [], _, _, _, k => by simpa using k
  | x :: l, m, off, ⟨y, hr⟩, k => ⟨y, cellsAt_append hr (by rw [List.length_cons] at k; rwa [show off + 1 + l.length = off + (l.length + 1) by omega])⟩

theorem Arr.cells {α : Type} {sz : Nat} {f : α → List Lf} (hf : Sized sz f) {h : Heap} {s : Slc} {l : List α} (a : Arr sz f h s l) {b off : Nat} (hs : s.a = some (b, off)) : cellsAt h b off (l.flatMap f) := by
  have key : ∀ (m : List α) (k : Nat), (∀ i x, m[i]? = some x → cellsAt h b (off + (k + i) * sz) (f x)) → cellsAt h b (off + k * sz) (m.flatMap f) := by
    intro m
    induction m with
    | nil => intro k _; exact trivial
    | cons x m ih =>
      intro k hk
      rw [List.flatMap_cons]
      refine cellsAt_append (by simpa using hk 0 x rfl) ?_
      have := ih (k + 1) fun i y hy => by
        have := hk (i + 1) y (by simpa using hy)
        rwa [show k + (i + 1) = k + 1 + i by omega] at this
      rw [Nat.add_mul, Nat.one_mul, ← Nat.add_assoc] at this
      simpa [hf x] using this
  have := key l 0 fun i x hx => by simpa using a.at_ b off hs i x hx
  simpa using this

theorem Arr.bytes {f : UInt8 → List Lf} (hf : ∀ c, f c = [.int .u8 (c.toNat : Int)]) {h : Heap} {s : Slc} {l : List UInt8} (a : Arr 1 f h s l) : bytesAt h s ⟨l.toArray⟩ := by
  refine ⟨by simp [ByteArray.size, a.len], ?_⟩
  by_cases hl : l = []
  · left; rw [a.len, hl]; rfl
  · right
    obtain ⟨b, off, hb⟩ := a.ne hl
    refine ⟨b, off, hb, a.pl hl, ?_⟩
    have := a.cells (fun c => by rw [hf]; rfl) hb
    rw [show f = fun c => [.int .u8 (c.toNat : Int)] from funext hf, ← List.map_eq_flatMap] at this
    simpa using this

theorem Sub.not {F F' : Nat → Prop} {h : Heap} {s : Slc} {α : Type} {sz : Nat} {f : α → List Lf} {l : List α} (o : Own sz f h s l) (sub : Sub F F' h) (hn : ¬ s.inS F) : ¬ s.inS F' := by
  rintro ⟨b, off, hb, hx⟩
  rcases sub b hx with h1 | h1
  · exact hn ⟨b, off, hb, h1⟩
  · have := (o.lt b off hb).1; omega
theorem Sub.new {F F' : Nat → Prop} {a b : Heap} (s : Sub F F' b) (hF : ∀ i, F i → a.size ≤ i) (e : a.size ≤ b.size) : ∀ i, F' i → a.size ≤ i := fun i hi => (s i hi).elim (hF i) (Nat.le_trans e)

end Go.V
/-! Words for maps. -/
namespace Go.V

structure MapR {β : Type} (h : Heap) (r : Nat) (kt : LT) (vt : VT) (f : β → List Lf) (l : List (kt.den × β)) : Prop where
  rep : ∃ (es : List (ME kt)) (clock : Nat), h[r]? = some (mobj kt vt es clock) ∧ (es.map fun e => (e.key, e.val)) = (l.map fun x => (x.1, f x.2)) ∧ (∀ e ∈ es, e.born < clock) ∧ (es.map (·.born)).Nodup
  nodup : (l.map (·.1)).Nodup

theorem MapR.lt {β : Type} {h : Heap} {r : Nat} {kt : LT} {vt : VT} {f : β → List Lf} {l : List (kt.den × β)} (M : MapR h r kt vt f l) : r < h.size := by
  obtain ⟨es, clock, hr, _⟩ := M.rep; exact size_pos_of_getElem? hr
theorem MapR.ext {β : Type} {S : Nat → Prop} {h h' : Heap} {r : Nat} {kt : LT} {vt : VT} {f : β → List Lf} {l : List (kt.den × β)} (M : MapR h r kt vt f l) (e : Ext S h h') (hs : ¬ S r := by exact id) : MapR h' r kt vt f l :=
  ⟨let ⟨es, clock, hr, x⟩ := M.rep; ⟨es, clock, (e.same r M.lt hs).trans hr, x⟩, M.nodup⟩
theorem MapR.new {β : Type} {h : Heap} {kt : LT} {vt : VT} {f : β → List Lf} {b : Nat} (hb : h[b]? = some (.map #[] 0)) : MapR h b kt vt f ([] : List (kt.den × β)) :=
  ⟨⟨[], 0, hb, rfl, by simp, by simp⟩, by simp⟩

theorem NewM.mk {h : Heap} {K : Nat → Heap → Prop} (k : ∀ b h', b = h.size → h'.size = h.size + 1 → Ext0 h h' → h'[b]? = some (.map #[] 0) → K b h') : NewM h K := by
  rintro b h' rfl rfl
  exact k _ _ rfl (by simp) (push_ext h _) (by simp)

def KeysOk {β : Type} (h : Heap) : (kt : LT) → kt.den → List (kt.den × β) → Prop
  | .ptr, k, l => ∀ x ∈ l, PEq h k x.1
  | _, _, _ => True

theorem KeysOk.kok {β : Type} {h : Heap} {kt : LT} {k : kt.den} {l : List (kt.den × β)} {f : β → List Lf} (o : KeysOk h kt k l) {es : List (ME kt)} (he : (es.map fun e => (e.key, e.val)) = (l.map fun x => (x.1, f x.2))) : KOk h kt k es := by
  cases kt <;> try trivial
  intro e hm
  have : (e.key, e.val) ∈ (l.map fun x => (x.1, f x.2)) := by rw [← he]; exact List.mem_map.2 ⟨e, hm, rfl⟩
  obtain ⟨x, hx, hxe⟩ := List.mem_map.1 this
  have := o x hx
  rw [show x.1 = e.key from congrArg Prod.fst hxe] at this
  exact this

theorem mlook_none {kt : LT} (hk : KeyLT kt) {k : kt.den} : ∀ {es : List (ME kt)} {i : Nat}, (∀ e ∈ es, e.key ≠ k) → mlook kt k es i = none
  | [], _, _ => rfl
  | e :: es, i, h => by
    have : keq kt k e.key = false := by
      cases hh : keq kt k e.key with
      | false => rfl
      | true => exact absurd ((keq_iff hk _ _).1 hh).symm (h e (List.mem_cons_self ..))
    simp only [mlook, this, Bool.false_eq_true, if_false]
    exact mlook_none hk fun x hx => h x (List.mem_cons_of_mem _ hx)

theorem mlook_hit {kt : LT} (hk : KeyLT kt) {k : kt.den} : ∀ {es : List (ME kt)} {i : Nat} {e : ME kt}, e ∈ es → e.key = k → (es.map (·.key)).Nodup → ∃ j, mlook kt k es i = some (i + j, e) ∧ es[j]? = some e
  | [], _, _, h, _, _ => by simp at h
  | x :: es, i, e, h, he, hn => by
    simp only [List.map_cons, List.nodup_cons] at hn
    by_cases hx : keq kt k x.key = true
    · have hxk := (keq_iff hk _ _).1 hx
      have : e = x := by
        rcases List.mem_cons.1 h with h | h
        · exact h
        · exfalso; exact hn.1 (List.mem_map.2 ⟨e, h, by rw [he, hxk]⟩)
      subst this
      exact ⟨0, by simp [mlook, hx], rfl⟩
    · have hne : e ≠ x := by rintro rfl; exact hx ((keq_iff hk _ _).2 he.symm)
      obtain ⟨j, h1, h2⟩ := mlook_hit hk (i := i + 1) ((List.mem_cons.1 h).resolve_left hne) he hn.2
      refine ⟨j + 1, ?_, by simpa using h2⟩
      rw [mlook, if_neg hx, h1, show i + 1 + j = i + (j + 1) by omega]

theorem keys_nodup {β : Type} {kt : LT} {f : β → List Lf} {es : List (ME kt)} {l : List (kt.den × β)} (he : (es.map fun e => (e.key, e.val)) = (l.map fun x => (x.1, f x.2))) (hn : (l.map (·.1)).Nodup) : (es.map (·.key)).Nodup := by
  have h1 : es.map (·.key) = l.map (·.1) := by
    have := congrArg (List.map Prod.fst) he
    simpa [List.map_map, Function.comp_def] using this
  rw [h1]; exact hn

theorem key_mem {β : Type} {kt : LT} {f : β → List Lf} {es : List (ME kt)} {l : List (kt.den × β)} (he : (es.map fun e => (e.key, e.val)) = (l.map fun x => (x.1, f x.2))) {k : kt.den} {v : β} (hm : (k, v) ∈ l) :
    ∃ e ∈ es, e.key = k ∧ e.val = f v := by
  have : (k, f v) ∈ (es.map fun e => (e.key, e.val)) := by rw [he]; exact List.mem_map.2 ⟨(k, v), hm, rfl⟩
  obtain ⟨e, h1, h2⟩ := List.mem_map.1 this
  exact ⟨e, h1, congrArg Prod.fst h2, congrArg Prod.snd h2⟩
theorem key_not {β : Type} {kt : LT} {f : β → List Lf} {es : List (ME kt)} {l : List (kt.den × β)} (he : (es.map fun e => (e.key, e.val)) = (l.map fun x => (x.1, f x.2))) {k : kt.den} (hm : ∀ x ∈ l, x.1 ≠ k) :
    ∀ e ∈ es, e.key ≠ k := by
  intro e h1 h2
  have : (e.key, e.val) ∈ (l.map fun x => (x.1, f x.2)) := by rw [← he]; exact List.mem_map.2 ⟨e, h1, rfl⟩
  obtain ⟨x, hx, hxe⟩ := List.mem_map.1 this
  exact hm x hx ((congrArg Prod.fst hxe).trans h2)

section
variable {β : Type} {h : Heap} {r : Nat} {kt : LT} {vt : VT} {f : β → List Lf} {l : List (kt.den × β)}

theorem MapR.hit (M : MapR h r kt vt f l) (hk : KeyLT kt) {k : kt.den} {v : β} (hm : (k, v) ∈ l) (o : KeysOk h kt k l) (z : List Lf) {x : List Lf} (hx : x = f v) : LookR h kt vt z (some r) k x true := by
  subst hx
  obtain ⟨es, clock, hr, he, hb, hn⟩ := M.rep
  obtain ⟨e, h1, h2, h3⟩ := key_mem he hm
  obtain ⟨j, h4, _⟩ := mlook_hit hk (i := 0) h1 h2 (keys_nodup he M.nodup)
  exact ⟨es, clock, hr, o.kok he, by simp [mget, h4, h3]⟩
theorem MapR.miss (M : MapR h r kt vt f l) (hk : KeyLT kt) {k : kt.den} (hm : ∀ x ∈ l, x.1 ≠ k) (o : KeysOk h kt k l) (z : List Lf) : LookR h kt vt z (some r) k z false := by
  obtain ⟨es, clock, hr, he, hb, hn⟩ := M.rep
  exact ⟨es, clock, hr, o.kok he, by simp [mget, mlook_none hk (key_not he hm)]⟩
theorem MapR.len (M : MapR h r kt vt f l) : LenR h (some r) (l.length : Int) := by
  obtain ⟨es, clock, hr, he, hb, hn⟩ := M.rep
  refine ⟨_, clock, hr, ?_⟩
  have := congrArg List.length he
  simp at this
  simp [this]

def aput (kt : LT) (k : kt.den) (v : β) : List (kt.den × β) → List (kt.den × β)
  | [] => [(k, v)]
  | x :: l => if keq kt k x.1 = true then (k, v) :: l else x :: aput kt k v l

theorem aput_new (hk : KeyLT kt) {k : kt.den} {v : β} : ∀ {l : List (kt.den × β)}, (∀ x ∈ l, x.1 ≠ k) → aput kt k v l = l ++ [(k, v)]
  | [], _ => rfl
  | x :: l, hm => by
    have : ¬ keq kt k x.1 = true := fun hh => hm x (List.mem_cons_self ..) ((keq_iff hk _ _).1 hh).symm
    simp only [aput, this, if_false, List.cons_append, aput_new hk fun y hy => hm y (List.mem_cons_of_mem _ hy), Bool.false_eq_true]

theorem aput_keys (hk : KeyLT kt) {k : kt.den} {v : β} : ∀ {l : List (kt.den × β)}, (∃ x ∈ l, x.1 = k) → (aput kt k v l).map (·.1) = l.map (·.1)
  | [], h => by obtain ⟨x, hx, _⟩ := h; simp at hx
  | x :: l, h => by
    by_cases hx : keq kt k x.1 = true
    · have := (keq_iff hk _ _).1 hx
      rw [aput, if_pos hx, List.map_cons, List.map_cons, ← this]
    · rw [aput, if_neg hx, List.map_cons, List.map_cons]
      congr 1
      apply aput_keys hk
      obtain ⟨y, hy, hyk⟩ := h
      rcases List.mem_cons.1 hy with rfl | hy
      · exact absurd ((keq_iff hk _ _).2 hyk.symm) hx
      · exact ⟨y, hy, hyk⟩

theorem aput_nodup (hk : KeyLT kt) {k : kt.den} {v : β} (hn : (l.map (·.1)).Nodup) : ((aput kt k v l).map (·.1)).Nodup := by
  by_cases hm : ∃ x ∈ l, x.1 = k
  · rw [aput_keys hk hm]; exact hn
  · have hm' : ∀ x ∈ l, x.1 ≠ k := fun x hx he => hm ⟨x, hx, he⟩
    rw [aput_new hk hm', List.map_append, List.nodup_append]
    refine ⟨hn, by simp, ?_⟩
    intro a ha b hb
    simp at hb
    subst hb
    obtain ⟨x, hx, rfl⟩ := List.mem_map.1 ha
    exact hm' x hx

theorem set_born {es : List (ME kt)} {i : Nat} {e y : ME kt} (he : es[i]? = some e) (hb : y.born = e.born) : (es.set i y).map (·.born) = es.map (·.born) := by
  apply List.ext_getElem?
  intro j
  rw [List.getElem?_map, List.getElem?_map, List.getElem?_set]
  split
  · rename_i hij; subst hij
    split
    · rw [he]; simp [hb]
    · rename_i hlt; rw [List.getElem?_eq_none (by omega)] at he; cases he
  · rfl

theorem aput_rep (hk : KeyLT kt) {k : kt.den} {v : β} : ∀ {es : List (ME kt)} {l : List (kt.den × β)}, (es.map fun e => (e.key, e.val)) = (l.map fun x => (x.1, f x.2)) → ∀ {n : Nat},
    (∀ {i e}, mlook kt k es n = some (i, e) → ((es.set (i - n) (⟨k, f v, e.born⟩ : ME kt)).map fun e : ME kt => (e.key, e.val)) = ((aput kt k v l).map fun x => (x.1, f x.2))) ∧
    (mlook kt k es n = none → ∀ c, ((es ++ [(⟨k, f v, c⟩ : ME kt)]).map fun e : ME kt => (e.key, e.val)) = ((aput kt k v l).map fun x => (x.1, f x.2)))
  | [], [], _, n => ⟨fun h => (by cases h), fun _ c => rfl⟩
  | [], _ :: _, he, _ => by simp at he
  | _ :: _, [], he, _ => by simp at he
  | e :: es, x :: l, he, n => by
    simp only [List.map_cons, List.cons.injEq, Prod.mk.injEq] at he
    obtain ⟨⟨hx, hv⟩, he⟩ := he
    obtain ⟨h1, h2⟩ := aput_rep hk (k := k) (v := v) he (n := n + 1)
    by_cases hq : keq kt k e.key = true
    · have hq' : keq kt k x.1 = true := by rw [← hx]; exact hq
      refine ⟨fun {i e'} h => ?_, fun h => ?_⟩
      · simp only [mlook, hq, if_true, Option.some.injEq, Prod.mk.injEq] at h
        obtain ⟨rfl, rfl⟩ := h
        simp [aput, hq', he]
      · simp [mlook, hq] at h
    · have hq' : ¬ keq kt k x.1 = true := by rw [← hx]; exact hq
      refine ⟨fun {i e'} h => ?_, fun h c => ?_⟩
      · simp only [mlook, hq, if_false, Bool.false_eq_true] at h
        have hle := (mlook_some h).1
        have := h1 h
        rw [show i - n = (i - (n + 1)) + 1 by omega]
        simp only [List.set_cons_succ, List.map_cons, aput, hq', if_false, this, hx, hv, Bool.false_eq_true]
      · simp only [mlook, hq, if_false, Bool.false_eq_true] at h
        have := h2 h c
        simp only [List.cons_append, List.map_cons, aput, hq', if_false, this, hx, hv, Bool.false_eq_true]

theorem MapR.put (M : MapR h r kt vt f l) (hk : KeyLT kt) {k : kt.den} {v : β} (o : KeysOk h kt k l) {x : List Lf} (hx : x = f v) {K : Heap → Prop}
    (c : ∀ h', h'.size = h.size → MapR h' r kt vt f (aput kt k v l) → Ext (fun i => i = r) h h' → K h') : UpdC kt vt h (some r) k x K := by
  subst hx
  obtain ⟨es, clock, hr, he, hb, hn⟩ := M.rep
  refine ⟨r, es, clock, rfl, hr, o.kok he, ?_⟩
  rintro h' rfl
  obtain ⟨h1, h2⟩ := aput_rep hk (k := k) (v := v) he (n := 0)
  refine c _ (by simp) ⟨⟨_, _, by simp [M.lt]; rfl, ?_, ?_, ?_⟩, aput_nodup hk M.nodup⟩ (set_ext h r _)
  all_goals unfold mput
  · cases hl : mlook kt k es 0 with
    | none => exact h2 hl clock
    | some x => obtain ⟨i, e⟩ := x; exact h1 hl
  · cases hl : mlook kt k es 0 with
    | none =>
      intro e hm
      rcases List.mem_append.1 hm with hm | hm
      · have := hb e hm; simp only; omega
      · simp at hm; subst hm; simp
    | some x =>
      obtain ⟨i, e⟩ := x
      obtain ⟨_, h3, _⟩ := mlook_some hl
      intro e' hm
      have hbb : e'.born ∈ (es.set i ⟨k, f v, e.born⟩).map (·.born) := List.mem_map.2 ⟨e', hm, rfl⟩
      rw [set_born (e := e) (y := ⟨k, f v, e.born⟩) (by simpa using h3) rfl] at hbb
      obtain ⟨e2, h4, h5⟩ := List.mem_map.1 hbb
      rw [← h5]; exact hb e2 h4
  · cases hl : mlook kt k es 0 with
    | none =>
      simp only [List.map_append, List.nodup_append]
      refine ⟨hn, by simp, ?_⟩
      intro a ha b hb'
      simp at hb'
      subst hb'
      obtain ⟨e2, h4, rfl⟩ := List.mem_map.1 ha
      have := hb e2 h4
      omega
    | some x =>
      obtain ⟨i, e⟩ := x
      obtain ⟨_, h3, _⟩ := mlook_some hl
      simp only
      rw [set_born (e := e) (y := ⟨k, f v, e.born⟩) (by simpa using h3) rfl]; exact hn

def adel (kt : LT) (k : kt.den) : List (kt.den × β) → List (kt.den × β)
  | [] => []
  | x :: l => if keq kt k x.1 = true then l else x :: adel kt k l

theorem adel_sub {k : kt.den} : ∀ (l : List (kt.den × β)), (adel kt k l).Sublist l
  | [] => List.Sublist.refl _
  | x :: l => by
    simp only [adel]
    split
    · exact List.sublist_cons_self ..
    · exact (adel_sub l).cons_cons _

theorem adel_rep {k : kt.den} : ∀ {es : List (ME kt)} {l : List (kt.den × β)}, (es.map fun e => (e.key, e.val)) = (l.map fun x => (x.1, f x.2)) → ∀ {n : Nat},
    (∀ {i e}, mlook kt k es n = some (i, e) → ((es.eraseIdx (i - n)).map fun e => (e.key, e.val)) = ((adel kt k l).map fun x => (x.1, f x.2))) ∧
    (mlook kt k es n = none → (es.map fun e => (e.key, e.val)) = ((adel kt k l).map fun x => (x.1, f x.2)))
  | [], [], _, n => ⟨fun h => (by cases h), fun _ => rfl⟩
  | [], _ :: _, he, _ => by simp at he
  | _ :: _, [], he, _ => by simp at he
  | e :: es, x :: l, he, n => by
    simp only [List.map_cons, List.cons.injEq, Prod.mk.injEq] at he
    obtain ⟨⟨hx, hv⟩, he⟩ := he
    obtain ⟨h1, h2⟩ := adel_rep (k := k) he (n := n + 1)
    by_cases hq : keq kt k e.key = true
    · have hq' : keq kt k x.1 = true := by rw [← hx]; exact hq
      refine ⟨fun {i e'} h => ?_, fun h => ?_⟩
      · simp only [mlook, hq, if_true, Option.some.injEq, Prod.mk.injEq] at h
        obtain ⟨rfl, rfl⟩ := h
        simp [adel, hq', he]
      · simp [mlook, hq] at h
    · have hq' : ¬ keq kt k x.1 = true := by rw [← hx]; exact hq
      refine ⟨fun {i e'} h => ?_, fun h => ?_⟩
      · simp only [mlook, hq, if_false, Bool.false_eq_true] at h
        have hle := (mlook_some h).1
        have := h1 h
        rw [show i - n = (i - (n + 1)) + 1 by omega]
        simp only [List.eraseIdx_cons_succ, List.map_cons, adel, hq', if_false, this, hx, hv, Bool.false_eq_true]
      · simp only [mlook, hq, if_false, Bool.false_eq_true] at h
        have := h2 h
        simp only [List.map_cons, adel, hq', if_false, this, hx, hv, Bool.false_eq_true]

theorem MapR.del (M : MapR h r kt vt f l) {k : kt.den} (o : KeysOk h kt k l) {K : Heap → Prop}
    (c : ∀ h', h'.size = h.size → MapR h' r kt vt f (adel kt k l) → Ext (fun i => i = r) h h' → K h') : DelC kt vt h (some r) k K := by
  obtain ⟨es, clock, hr, he, hb, hn⟩ := M.rep
  refine ⟨es, clock, hr, o.kok he, ?_⟩
  rintro h' rfl
  obtain ⟨h1, h2⟩ := adel_rep (k := k) he (n := 0)
  have hsub : (mdel kt k es).Sublist es := by
    unfold mdel
    split
    · exact List.eraseIdx_sublist ..
    · exact List.Sublist.refl _
  refine c _ (by simp) ⟨⟨_, _, by simp [M.lt], ?_, fun e hm => hb e (hsub.subset hm), (hsub.map _).nodup hn⟩, ((adel_sub l).map _).nodup M.nodup⟩ (set_ext h r _)
  unfold mdel
  cases hl : mlook kt k es 0 with
  | none => exact h2 hl
  | some x => obtain ⟨i, e⟩ := x; exact h1 hl

theorem pair_up : ∀ {es : List (ME kt)} {l : List (kt.den × β)}, (es.map fun e => (e.key, e.val)) = (l.map fun x => (x.1, f x.2)) →
    ∃ ps : List (ME kt × (kt.den × β)), ps.map (·.1) = es ∧ ps.map (·.2) = l ∧ ∀ p ∈ ps, p.1.key = p.2.1 ∧ p.1.val = f p.2.2
  | [], [], _ => ⟨[], rfl, rfl, by simp⟩
  | [], _ :: _, he => by simp at he
  | _ :: _, [], he => by simp at he
  | e :: es, x :: l, he => by
    simp only [List.map_cons, List.cons.injEq, Prod.mk.injEq] at he
    obtain ⟨⟨hx, hv⟩, he⟩ := he
    obtain ⟨ps, h1, h2, h3⟩ := pair_up he
    refine ⟨(e, x) :: ps, by simp [h1], by simp [h2], fun p hp => ?_⟩
    rcases List.mem_cons.1 hp with rfl | hp
    · exact ⟨hx, hv⟩
    · exact h3 p hp

structure Iter (h : Heap) (b r : Nat) (kt : LT) (vt : VT) (f : β → List Lf) (l seen : List (kt.den × β)) : Prop where
  rep : ∃ (ps done rest : List (ME kt × (kt.den × β))) (clock : Nat) (sn : Array Nat), h[b]? = some (.mapIter (some r) clock sn clock) ∧ h[r]? = some (mobj kt vt (ps.map (·.1)) clock) ∧
    l = ps.map (·.2) ∧ (∀ p ∈ ps, p.1.key = p.2.1 ∧ p.1.val = f p.2.2) ∧ (∀ p ∈ ps, p.1.born < clock) ∧ (ps.map (·.1.born)).Nodup ∧ sn.toList = done.map (·.1.born) ∧ ps.Perm (done ++ rest) ∧ seen = done.map (·.2)

theorem find_born' : ∀ (es : List (ME kt)), (es.map (·.born)).Nodup → ∀ e ∈ es, es.find? (fun x => x.born == e.born) = some e
  | [], _, e, he => by simp at he
  | x :: es, hn, e, he => by
    simp only [List.map_cons, List.nodup_cons] at hn
    rcases List.mem_cons.1 he with rfl | he
    · simp
    · have : x.born ≠ e.born := fun hx => hn.1 (List.mem_map.2 ⟨e, he, hx.symm⟩)
      rw [List.find?_cons_of_neg (by simpa using this)]
      exact find_born' es hn.2 e he

theorem Iter.start (M : MapR h r kt vt f l) {K : Nat → Heap → Prop} (c : ∀ b h', b = h.size → h'.size = h.size + 1 → Ext0 h h' → Iter h' b r kt vt f l [] → K b h') : RngC h (some r) K := by
  obtain ⟨es, clock, hr, he, hb, hn⟩ := M.rep
  obtain ⟨ps, rfl, rfl, h3⟩ := pair_up he
  refine ⟨_, clock, hr, ?_⟩
  rintro b h' rfl rfl
  refine c _ _ rfl (by simp) (push_ext h _) ⟨ps, [], ps, clock, #[], by simp, (by rw [Array.getElem?_push, if_neg (by have := M.lt; omega)]; exact hr), rfl, h3, fun p hp => hb _ (List.mem_map.2 ⟨p, hp, rfl⟩), ?_, rfl, List.Perm.refl _, rfl⟩
  simpa [List.map_map, Function.comp_def] using hn

theorem Iter.ext {S : Nat → Prop} {h' : Heap} {b : Nat} {seen : List (kt.den × β)} (I : Iter h b r kt vt f l seen) (e : Ext S h h') (hb : ¬ S b) (hr : ¬ S r) : Iter h' b r kt vt f l seen := by
  obtain ⟨ps, done, rest, clock, sn, h1, h2, x⟩ := I.rep
  exact ⟨ps, done, rest, clock, sn, (e.same b (size_pos_of_getElem? h1) hb).trans h1, (e.same r (size_pos_of_getElem? h2) hr).trans h2, x⟩

theorem Iter.lt {b : Nat} {seen : List (kt.den × β)} (I : Iter h b r kt vt f l seen) : b < h.size ∧ r < h.size := by
  obtain ⟨ps, done, rest, clock, sn, h1, h2, x⟩ := I.rep
  exact ⟨size_pos_of_getElem? h1, size_pos_of_getElem? h2⟩

theorem Iter.next {b : Nat} {seen : List (kt.den × β)} (I : Iter h b r kt vt f l seen) {over : Heap → Prop} {K : kt.den → List Lf → Heap → Prop}
    (c0 : seen.Perm l → over h)
    (c1 : ∀ x rest h', l.Perm (seen ++ x :: rest) → h'.size = h.size → Ext (fun i => i = b) h h' → Iter h' b r kt vt f l (seen ++ [x]) → EntryR h' b kt vt x.1 (f x.2) → K x.1 (f x.2) h') : NextC kt vt h b over K := by
  obtain ⟨ps, done, rest, clock, sn, h1, h2, hl, h3, h4, h5, h6, h7, rfl⟩ := I.rep
  have hbr : b ≠ r := fun e => by rw [e, h2] at h1; cases h1
  have hmem : ∀ p, p ∈ ps ↔ p ∈ done ∨ p ∈ rest := fun p => by rw [h7.mem_iff, List.mem_append]
  have hbn : ((done ++ rest).map (·.1.born)).Nodup := (h7.map _).nodup h5
  have hsn : ∀ n, n ∈ sn ↔ ∃ p ∈ done, p.1.born = n := fun n => by rw [← Array.mem_toList_iff, h6, List.mem_map]
  refine .inr ⟨r, clock, sn, clock, _, clock, h1, h2, ?_, Nat.le_refl _, fun hall => c0 ?_, ?_⟩
  · intro e he
    obtain ⟨p, hp, rfl⟩ := List.mem_map.1 he
    exact h4 p hp
  · have hrest : rest = [] := by
      cases rest with
      | nil => rfl
      | cons q rest =>
        exfalso
        have hq : q ∈ ps := (hmem q).2 (.inr (List.mem_cons_self ..))
        have := hall q.1 (List.mem_map.2 ⟨q, hq, rfl⟩)
        obtain ⟨p, hp, hpb⟩ := (hsn _).1 this
        rw [List.map_append, List.nodup_append] at hbn
        exact hbn.2.2 _ (List.mem_map.2 ⟨p, hp, rfl⟩) _ (List.mem_map.2 ⟨q, List.mem_cons_self .., rfl⟩) hpb
    subst hrest
    rw [List.append_nil] at h7
    rw [hl]
    exact (h7.map _).symm
  · intro e he hns h' hh
    subst hh
    obtain ⟨p, hp, rfl⟩ := List.mem_map.1 he
    have hpr : p ∈ rest := ((hmem p).1 hp).resolve_left fun hd => hns ((hsn _).2 ⟨p, hd, rfl⟩)
    obtain ⟨r1, r2, hrr⟩ := List.append_of_mem hpr
    obtain ⟨hk, hv⟩ := h3 p hp
    have hperm : ps.Perm (done ++ p :: (r1 ++ r2)) := by
      refine h7.trans (List.Perm.append_left _ ?_)
      rw [hrr]
      exact List.perm_middle
    have e1 : Ext (fun i => i = b) h (h.setIfInBounds b (.mapIter (some r) clock (sn.push p.1.born) clock)) := set_ext h b _
    have hr' : (h.setIfInBounds b (.mapIter (some r) clock (sn.push p.1.born) clock))[r]? = some (mobj kt vt (ps.map (·.1)) clock) := (e1.same r (size_pos_of_getElem? h2) fun x => hbr x.symm).trans h2
    have hb' : (h.setIfInBounds b (.mapIter (some r) clock (sn.push p.1.born) clock))[b]? = some (.mapIter (some r) clock (sn.push p.1.born) clock) := by simp [size_pos_of_getElem? h1]
    have := c1 p.2 ((r1 ++ r2).map (·.2)) _ (by rw [hl]; simpa using hperm.map (·.2)) (by simp) e1
      ⟨ps, done ++ [p], r1 ++ r2, clock, sn.push p.1.born, hb', hr', hl, h3, h4, h5, by simp [h6], by simpa using hperm, by simp⟩
      ⟨r, clock, sn, p.1, _, clock, hb', hr', find_born' _ (by simpa [List.map_map, Function.comp_def] using h5) _ he, hk, hv⟩
    rw [hk, hv]; exact this

end
theorem S2B.mk {f : UInt8 → List Lf} (hf : ∀ c, f c = [.int .u8 (c.toNat : Int)]) {e : TypeId} {t : ByteArray} {h : Heap} {K : Slc → Heap → Prop}
    (k : ∀ s h', Arr 1 f h' s t.data.toList → Ext0 h h' → s.a = some (h.size, 0) → K s h') : S2B e t h K := by
  rintro c b h' hc rfl rfl
  refine k _ _ ⟨rfl, fun _ => ⟨_, _, rfl⟩, ?_, fun _ => rfl⟩ (push_ext h _) rfl
  intro b off hb i x hx
  simp only [Option.some.injEq, Prod.mk.injEq] at hb
  obtain ⟨rfl, rfl⟩ := hb
  rw [hf]
  refine ⟨⟨_, _, _, Array.getElem?_push_size, ?_⟩, trivial⟩
  have hi : i < t.data.toList.length := by
    rcases Nat.lt_or_ge i t.data.toList.length with h' | h'
    · exact h'
    · rw [List.getElem?_eq_none h'] at hx; cases hx
  rw [Nat.mul_one, Nat.zero_add, List.getElem?_toArray, List.getElem?_append_left (by simpa using hi), List.getElem?_map, hx]
  rfl

theorem flat_take {α : Type} {sz : Nat} {f : α → List Lf} (hf : Sized sz f) (l : List α) {n : Nat} (hn : n ≤ l.length) : (l.take n).flatMap f = (l.flatMap f).take (n * sz) := by
  have h3 : l.flatMap f = (l.take n).flatMap f ++ (l.drop n).flatMap f := by rw [← List.flatMap_append, List.take_append_drop]
  have h4 : ((l.take n).flatMap f).length = n * sz := by rw [flat_len hf, List.length_take, Nat.min_eq_left hn]
  rw [h3, ← h4, List.take_left]

theorem ClrC.tail {α : Type} {sz : Nat} {f : α → List Lf} (hf : Sized sz f) {h : Heap} {s : Slc} {l : List α} (o : Own sz f h s l) {n : Nat} (hn : n ≤ l.length) {zc : List Lf} (hz : zc.length = sz) {K : Heap → Prop}
    (k : ∀ h', h'.size = h.size → Own sz f h' (s.sub sz 0 n s.cap) (l.take n) → Ext (fun b => ∃ off, s.a = some (b, off)) h h' → K h') : ClrC zc (s.sub sz n s.len s.cap) h K := by
  have hlen := o.len
  have hlec := o.lec
  have k0 := k h rfl (o.take hf hn) (Ext.refl _ _)
  rcases o.blk with ⟨ha, hc⟩ | ⟨b, cc, t, ha, hb, hsz, htk⟩
  · have : (s.sub sz n s.len s.cap).a = none := by unfold Slc.sub; simp [ha]
    unfold ClrC
    rw [this]; exact k0
  · by_cases hnl : n = s.len
    · have hl0 : (s.sub sz n s.len s.cap).len = 0 := by simp [Slc.sub, hnl]
      unfold ClrC
      cases hh : (s.sub sz n s.len s.cap).a with
      | none => exact k0
      | some p => exact ⟨fun _ => k0, fun hne => absurd hl0 hne⟩
    · have hcap : ¬ s.cap = n := by omega
      have hpl : (s.sub sz n s.len s.cap).plain := Slc.plain_sub o.pl _ _ _ _
      have hsa : (s.sub sz n s.len s.cap).a = some (b, 0 + n * sz) := by simp [Slc.sub, ha, hcap]
      have hsl : (s.sub sz n s.len s.cap).len = s.len - n := rfl
      unfold ClrC
      rw [hsa, hsl]
      refine ⟨fun h0 => by omega, fun _ => ⟨hpl, ?_⟩⟩
      have hzl : ((List.replicate (s.len - n) (zc.map Lf.val)).flatten).length = (s.len - n) * sz := by simp [hz]
      have h1 : s.len * sz ≤ s.cap * sz := Nat.mul_le_mul_right _ hlec
      have h2 : n * sz ≤ s.len * sz := Nat.mul_le_mul_right _ (by omega)
      have h3 : (s.len - n) * sz = s.len * sz - n * sz := Nat.sub_mul _ _ _
      refine ⟨cc, t, (0, 0), hb, by rw [hzl]; omega, .inl (Nat.le_refl _), ?_⟩
      rintro h' rfl
      have hw := wr_splice ((List.replicate (s.len - n) (zc.map Lf.val)).flatten) cc.toList (0 + n * sz) (by rw [hzl]; simp; omega)
      rw [Array.toArray_toList] at hw
      rw [Nat.zero_add] at hw
      refine k _ (by simp) ⟨by simp [Slc.sub]; omega, by simp [Slc.sub]; omega, .inr ⟨b, _, t, by simp [Slc.sub, ha], by simp [size_pos_of_getElem? hb]; rfl, ?_, ?_⟩, Slc.plain_sub o.pl _ _ _ _⟩ ((set_ext h b _).mono fun i hi => ⟨0, by rw [show i = b from hi]; exact ha⟩)
      · rw [hw]
        simp only [Nat.zero_add, List.size_toArray, List.length_append, List.length_take, List.length_drop, hzl, Array.length_toList, hsz, Slc.sub, Nat.sub_zero]
        rw [h3]
        omega
      · rw [hw, flat_take hf l hn, List.map_take, ← htk]
        simp only [Nat.zero_add, List.length_take, Nat.min_eq_left hn]
        rw [List.take_append_of_le_length (by simp; omega), List.take_take, List.take_take, Nat.min_self, Nat.min_eq_left (by rw [← hlen]; exact h2)]

end Go.V
/-! Words for ranges over functions. -/
namespace Go.V

def IsIt (h : Heap) (b : Nat) : Prop := ∃ m s sn c, h[b]? = some (.mapIter m s sn c)
def NoMap (h : Heap) (b : Nat) : Prop := (∀ es c, h[b]? ≠ some (.map es c)) ∧ ¬ IsIt h b

theorem LoopC.mk {lp : Loop} {h : Heap} {K : Nat → Nat → Heap → Prop}
    (k : ∀ D l h', D = h.size → l = h.size + 1 → h'.size = h.size + 2 → Ext0 h h' → h'[D]? = some (.deferred (some [])) → LAt h' l lp → K D l h') : LoopC lp h K := by
  rintro D l h' rfl rfl _ rfl
  refine k _ _ _ rfl rfl (by simp) ((push_ext _ _).trans (push_ext _ _)) ?_ ?_
  · rw [Array.getElem?_push, if_neg (by simp)]; simp
  · unfold LAt
    rw [Array.getElem?_push, if_pos (by simp)]

theorem lset {h : Heap} {l : Nat} {o o' : Obj} (hl : h[l]? = some o) : (h.setIfInBounds l o').size = h.size ∧ Ext (fun b => b = l) h (h.setIfInBounds l o') ∧ (h.setIfInBounds l o')[l]? = some o' :=
  ⟨by simp, set_ext h l o', by have := size_pos_of_getElem? hl; simp [this]⟩

theorem LBusy.mk {h : Heap} {l : Nat} {lp : Loop} {K : Heap → Prop} (ha : LAt h l lp) (k : ∀ h', h'.size = h.size → Ext (fun b => b = l) h h' → h'[l]? = some (lobj lp .busy) → K h') : LBusy h l lp K := by
  refine ⟨ha, ?_⟩
  rintro h' rfl
  obtain ⟨h1, h2, h3⟩ := lset (o' := lobj lp .busy) ha
  exact k _ h1 h2 h3
theorem LReady.mk {h : Heap} {l : Nat} {lp : Loop} {K : Heap → Prop} (ha : h[l]? = some (lobj lp .busy)) (k : ∀ h', h'.size = h.size → Ext (fun b => b = l) h h' → LAt h' l lp → K h') : LReady h l lp K := by
  refine ⟨ha, ?_⟩
  rintro h' rfl
  obtain ⟨h1, h2, h3⟩ := lset (o' := lobj lp .ready) ha
  exact k _ h1 h2 h3
theorem LEnd.mk {h : Heap} {l : Nat} {lp : Loop} {K : Heap → Prop} (ha : LAt h l lp) (k : ∀ h', h'.size = h.size → Ext (fun b => b = l) h h' → K h') : LEnd h l lp K := by
  refine ⟨ha, ?_⟩
  rintro h' rfl
  obtain ⟨h1, h2, h3⟩ := lset (o' := lobj lp .exhausted) ha
  exact k _ h1 h2
theorem CollC.mk {h : Heap} {D : Nat} {K : Heap → Prop} (ha : h[D]? = some (.deferred (some []))) (k : ∀ h', h'.size = h.size → Ext (fun b => b = D) h h' → K h') : CollC h D K := by
  refine ⟨ha, ?_⟩
  rintro h' rfl
  obtain ⟨h1, h2, h3⟩ := lset (o' := .deferred none) ha
  exact k _ h1 h2

theorem LAt.lt {h : Heap} {l : Nat} {lp : Loop} (a : LAt h l lp) : l < h.size := size_pos_of_getElem? a
theorem LAt.ext {S : Nat → Prop} {h h' : Heap} {l : Nat} {lp : Loop} (a : LAt h l lp) (e : Ext S h h') (hs : ¬ S l) : LAt h' l lp := (e.same l a.lt hs).trans a
theorem LAt.noIt {h : Heap} {l : Nat} {lp : Loop} (a : LAt h l lp) : NoMap h l := ⟨fun es c e => (by rw [a] at e; cases e), fun ⟨_, _, _, _, e⟩ => by rw [a] at e; cases e⟩
theorem Blk.noIt {h : Heap} {b : Nat} {t : TypeId} {cs : List Lf} (k : Blk h b t cs) : NoMap h b := ⟨fun es c e => (by unfold Blk at k; rw [k] at e; cases e), fun ⟨_, _, _, _, e⟩ => by unfold Blk at k; rw [k] at e; cases e⟩
theorem Own.noIt {α : Type} {sz : Nat} {f : α → List Lf} {h : Heap} {s : Slc} {l : List α} (o : Own sz f h s l) {b off : Nat} (hs : s.a = some (b, off)) : NoMap h b := by
  rcases o.blk with ⟨hn, _⟩ | ⟨b', c, e, ha, hb, _⟩
  · rw [hn] at hs; cases hs
  · rw [ha] at hs; cases hs
    exact ⟨fun es c e => (by rw [hb] at e; cases e), fun ⟨_, _, _, _, e⟩ => by rw [hb] at e; cases e⟩

theorem MarkC.mk {h : Heap} {b off : Nat} {t : TypeId} {cs : List Lf} {a : Option (Nat × Nat)} (ha : a = some (b, off)) (k : Blk h b t cs) {K : Heap → Prop}
    (c : ∀ h', h'.size = h.size → Ext (fun i => i = b) h h' → (∀ o l, cellsAt h b o l → cellsAt h' b o l) → K h') : MarkC h a K := by
  subst ha
  have hb := size_pos_of_getElem? k
  refine ⟨_, _, k, ?_⟩
  rintro h' rfl
  refine c _ (by simp) (set_ext _ _ _) fun o l => ?_
  induction l generalizing o with
  | nil => exact fun _ => trivial
  | cons x l ih =>
    rintro ⟨⟨c', t', fz, hc, hx⟩, hr⟩
    rw [show h[b]? = _ from k] at hc
    cases hc
    exact ⟨⟨_, _, _, by rw [Array.getElem?_setIfInBounds_self, if_pos hb], hx⟩, ih _ hr⟩

end Go.V
/-! Words for copy, and for append of zeros. -/
namespace Go.V

theorem AppZ.grow {α : Type} {bytes : Nat} {f : α → List Lf} (hf : Sized 1 f) (hb0 : 0 < bytes) {e : TypeId} {zc : List Lf} {z : α} (hz : zc = f z) {h : Heap} {s : Slc} {l : List α} (o : Own 1 f h s l)
    {n : Int} {k : Nat} (hn : n = (k : Int)) (hbound : (l.length + k) * bytes ≤ 140737488355328) {K : Slc → Heap → Prop}
    (c : ∀ s' h', Own 1 f h' s' (l ++ List.replicate k z) → Grow s h s' h' → K s' h') : AppZ e zc 1 bytes s n h K := by
  subst hn hz
  have hlen := o.len
  have h1 : k * bytes ≤ (l.length + k) * bytes := Nat.mul_le_mul_right _ (by omega)
  have h2 : (l.length + k) * 1 ≤ (l.length + k) * bytes := Nat.mul_le_mul_left _ (by omega)
  have h3 : ((k : Int) * (bytes : Int)) = ((k * bytes : Nat) : Int) := by simp
  refine ⟨by omega, by omega, by rw [h3]; omega, by omega, ?_⟩
  refine AppV.grow hf hb0 (by simp [hf z]) o (m := List.replicate k z) (by simpa using hbound) (by simp) ?_ fun s' h' o' g => c s' h' o' g
  rw [flat_rep]; rfl

theorem CpyC.own {α : Type} {f : α → List Lf} (hf : Sized 1 f) {h : Heap} {s x : Slc} {l m : List α} (o : Own 1 f h s l) (a : Arr 1 f h x m) {i : Nat} (hi : i + m.length ≤ l.length) {K : Int → Heap → Prop}
    (k : ∀ n h', h'.size = h.size → Own 1 f h' s (l.take i ++ m ++ l.drop (i + m.length)) → Ext (fun b => ∃ off, s.a = some (b, off)) h h' → K n h') :
    CpyC 1 (s.sub 1 i s.len s.cap) x h K := by
  have hlen := o.len
  have hlec := o.lec
  have hxl := a.len
  have hvl : ((m.flatMap f).map Lf.val).length = m.length := by rw [List.length_map, flat_len hf]; omega
  have hmin : Nat.min x.len (s.sub 1 i s.len s.cap).len * 1 = x.len * 1 := by
    show Nat.min x.len (s.len - i) * 1 = _
    rw [show Nat.min x.len (s.len - i) = x.len from Nat.min_eq_left (by omega)]
  refine ⟨(m.flatMap f).map Lf.val, by rw [hmin]; exact a.src hf, vals_one _, ?_, ?_⟩
  · by_cases hm : m = []
    · exact .inl (by simp [hm])
    · exact .inr ⟨a.pl hm, Slc.plain_sub o.pl _ _ _ _⟩
  have stay : m = [] → l.take i ++ m ++ l.drop (i + m.length) = l := fun e => by subst e; simp
  have nilcase : (m.flatMap f).map Lf.val = [] → m = [] := fun e => List.length_eq_zero_iff.1 (by rw [← hvl, e]; rfl)
  rcases o.blk with ⟨ha, hc⟩ | ⟨b, cc, t, ha, hb, hsz, htk⟩
  · have hm : m = [] := List.length_eq_zero_iff.1 (by omega)
    have : (s.sub 1 i s.len s.cap).a = none := by
      unfold Slc.sub; simp only; split
      · exact ha
      · rw [ha]
    rw [this]
    exact k _ h rfl (by rw [stay hm]; exact o) (Ext.refl _ _)
  · have hoff : m ≠ [] → (s.sub 1 i s.len s.cap).a = some (b, i) := fun hm => by
      have := List.length_pos_iff.2 hm
      unfold Slc.sub; simp only
      rw [if_neg (by omega), ha]; simp
    have hoff' : ∃ off, (s.sub 1 i s.len s.cap).a = some (b, off) := by
      unfold Slc.sub; simp only; split
      · exact ⟨0, ha⟩
      · rw [ha]; exact ⟨_, rfl⟩
    obtain ⟨off, ho⟩ := hoff'
    rw [ho]
    refine ⟨fun e => k _ h rfl (by rw [stay (nilcase e)]; exact o) (Ext.refl _ _), fun hne => ?_⟩
    have hm : m ≠ [] := fun e => hne (by subst e; rfl)
    have : off = i := by have := hoff hm; rw [ho] at this; cases this; rfl
    subst this
    refine ⟨cc, t, (0, 0), hb, by rw [hvl]; omega, .inl (Nat.le_refl _), ?_⟩
    rintro h' rfl
    have hset : (l.take off ++ m ++ l.drop (off + m.length)).length = l.length := by simp; omega
    have hfl : ∀ (w : List α) (j : Nat), ((w.take j).flatMap f).map Lf.val = ((w.flatMap f).map Lf.val).take j := by
      intro w
      induction w with
      | nil => intro j; simp
      | cons y w ih =>
        intro j
        cases j with
        | zero => simp
        | succ j =>
          rw [List.take_succ_cons, List.flatMap_cons, List.flatMap_cons, List.map_append, List.map_append, ih]
          obtain ⟨z, hz⟩ : ∃ z, f y = [z] := List.length_eq_one_iff.1 (hf y)
          rw [hz]; simp
    have hfd : ∀ (w : List α) (j : Nat), ((w.drop j).flatMap f).map Lf.val = ((w.flatMap f).map Lf.val).drop j := by
      intro w
      induction w with
      | nil => intro j; simp
      | cons y w ih =>
        intro j
        cases j with
        | zero => simp
        | succ j =>
          rw [List.drop_succ_cons, List.flatMap_cons, List.map_append, ih]
          obtain ⟨z, hz⟩ : ∃ z, f y = [z] := List.length_eq_one_iff.1 (hf y)
          rw [hz]; simp
    refine k _ _ (by simp) ⟨by rw [hset]; exact hlen, hlec, .inr ⟨b, _, t, ha, by simp [size_pos_of_getElem? hb]; rfl, ?_, ?_⟩, o.pl⟩ ((set_ext h b _).mono fun i hi => ⟨0, by rw [show i = b from hi]; exact ha⟩)
    · rw [← Array.toArray_toList (xs := cc), wr_splice _ _ _ (by rw [hvl]; simp; omega)]
      simp only [List.size_toArray, List.length_append, List.length_take, List.length_drop, hvl, Array.length_toList, hsz]
      omega
    · rw [← Array.toArray_toList (xs := cc), wr_splice _ _ _ (by rw [hvl]; simp; omega)]
      rw [hset]
      simp only [hvl]
      rw [List.flatMap_append, List.flatMap_append, List.map_append, List.map_append, hfl, hfd, ← htk]
      rw [Nat.mul_one]
      rw [List.take_append, List.take_append]
      simp only [List.length_append, List.length_take, Array.length_toList, hvl]
      have hccs : cc.size = s.cap := by omega
      have m1 : min off cc.size = off := by omega
      have m2 : min off l.length = off := by omega
      simp only [List.take_take, m1, m2, List.append_assoc]
      rw [Nat.min_eq_right (by omega : off ≤ l.length), List.take_of_length_le (l := (m.flatMap f).map Lf.val) (by rw [hvl]; omega), List.drop_take]
      congr 3
      omega

end Go.V
