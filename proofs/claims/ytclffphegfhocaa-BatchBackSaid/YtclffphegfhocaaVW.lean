/- This text proves a part of the laws of seat Ytclffphegfhocaa, under no condition: VW. -/
import Derived.Test.YtclffphegfhocaaVV
import Derived.Laws.MakeOwn
set_option linter.unusedVariables false
set_option linter.unusedSimpArgs false
namespace Go.V
section
variable {P : Program} {st : St} {h : Heap} {a : Act} {W : World} {K : SV → St → Heap → Prop} {Qp : List PanicEntry → St → Heap → Prop}
  {dst : Option Tmp} {type : TypeId} {pos : String} {after : Array Edge} {guard : Option (Nat × Bool)}

theorem m_push (r : Rel st h a W) {o : Oper} {ob : Obj} {x : VV} (hr : (execOp a.eval o).run P W = .ok (.value x.val) (hp W (h.push ob))) (hv : K (.v x) st (h.push ob)) : PM P o st a W K Qp :=
  PM.value hr ⟨_, _, _, hv, rfl, r.push _, rfl, Ev.refl _, hp_out _ _⟩

theorem partsOf_cons {sz i j : Nat} {s : SV} {r : List (Nat × SV)} {cs : List Lf} (h : partsOf sz i ((j, s) :: r) = some cs) :
    ∃ x l, s = .v x ∧ j = i ∧ x.cells.length = sz ∧ partsOf sz (i + 1) r = some l ∧ cs = x.cells ++ l := by
  cases s with
  | v x =>
    simp only [partsOf] at h
    split at h
    · rename_i hb
      simp only [Bool.and_eq_true] at hb
      split at h
      · rename_i l hl
        exact ⟨x, l, rfl, (Nat.eq_of_beq_eq_true hb.1).symm, Nat.eq_of_beq_eq_true hb.2, hl, (Option.some.inj h).symm⟩
      · cases h
    · cases h
  | _ => cases h

/-- Values by the state's temporaries are the run's. -/
theorem parts_run {h : Heap} (r : Rel st h a W) (sz : Nat) : ∀ (ps : List (Nat × Operand)) (i : Nat) (cs : List Lf), partsOf sz i (ps.map fun p => (p.1, st.ev p.2)) = some cs →
    cs.length = ps.length * sz ∧ ∀ (pre post : List Value), pre.length = i * sz → ps.length * sz ≤ post.length →
      Instr.fill (fun j => some (j * sz, sz)) (pre ++ post).toArray (ps.map fun p => (p.1, a.eval p.2)) = some (pre ++ (cs.map Lf.val ++ post.drop (ps.length * sz))).toArray
  | [], i, cs, hp => by
    cases hp
    exact ⟨by simp, fun pre post _ _ => by simp [Instr.fill]⟩
  | (j, x) :: ps, i, cs, hp => by
    obtain ⟨y, l, hy, rfl, hsz, hl, rfl⟩ := partsOf_cons hp
    obtain ⟨hlen, ih⟩ := parts_run r sz ps (j + 1) l hl
    have hx := r.ev x
    rw [hy] at hx
    simp only [SVr] at hx
    refine ⟨by simp [hlen, hsz, Nat.add_mul]; omega, fun pre post hpre hpost => ?_⟩
    simp only [List.length_cons, Nat.add_mul, Nat.one_mul] at hpost
    have hc := VV.cells_val y
    have h1 : ¬ (y.val.cells.size ≠ sz) := by rw [hc]; simp [hsz]
    have h2 : ¬ (j * sz + y.val.cells.size > (pre ++ post).toArray.size) := by rw [hc]; simp [hsz, hpre]; omega
    have hf : (y.val.cells.zipIdx.foldl (fun cs (p : Value × Nat) => cs.setIfInBounds (j * sz + p.2) p.1) (pre ++ post).toArray) = ((pre ++ y.cells.map Lf.val) ++ post.drop sz).toArray := by
      rw [hc]
      have := foldl_wr (y.cells.map Lf.val) 0 (j * sz) (pre ++ post).toArray
      simp only [Nat.add_zero] at this
      rw [← Array.foldl_toList, Array.toList_zipIdx, this, wr_splice _ _ _ (by simp [hpre, hsz]; omega)]
      simp [← hpre, List.take_left', hsz, List.drop_append]
    simp only [List.map_cons, Instr.fill, hx]
    have hcond : (y.val.cells.size ≠ sz || decide (j * sz + y.val.cells.size > (pre ++ post).toArray.size)) = false := by simp only [h1, h2]; simp
    simp only [hcond, Bool.false_eq_true, if_false]
    rw [hf, ih _ _ (by simp [hpre, hsz, Nat.add_mul]) (by simp; omega)]
    simp [Nat.add_mul, Nat.add_comm]

theorem m_buildSlice (r : Rel st h a W) {pl : Plan} {t : TypeId} {n : Nat} {ps : Array (Nat × Operand)} (hv : vcM P pl ⟨dst, .buildSlice t n ps, type, pos, after, guard⟩ st h K Qp) :
    PM P ⟨dst, .buildSlice t n ps, type, pos, after, guard⟩ st a W K Qp := by
  simp only [vcM] at hv
  split at hv
  · rename_i e hu
    split at hv
    · rename_i hb
      simp only [Bool.and_eq_true] at hb
      obtain ⟨ty, hty⟩ := known_some hb.1.1
      have hle := Nat.le_of_ble_eq_true hb.1.2
      have hn := Nat.eq_of_beq_eq_true hb.2
      obtain ⟨cs, hcs, hv⟩ := opt_some hv
      obtain ⟨z, hz, hv⟩ := opt_some hv
      obtain ⟨i, hi, hiz, hszz, hzc⟩ := zeroOf_run hz
      rw [hty] at hi; cases hi
      have hsz : szOf P e = ty.size := by simp [szOf, hty]
      rw [hsz] at hle hcs
      obtain ⟨hlen, hfill⟩ := parts_run r ty.size ps.toList 0 cs hcs
      rw [hn] at hlen hfill
      have hv := hv _ _ rfl rfl
      refine m_push r (x := .lf (.slc ⟨some (h.size, 0), n, n⟩)) ?_ hv
      have hnle : ¬ (n * ty.size > 2 ^ 24) := by simpa using hle
      have hps : (ps.map fun p => (p.1, a.eval p.2)).toList = ps.toList.map fun p => (p.1, a.eval p.2) := by simp
      have key : ∀ zs : List Value, zs.length = n * ty.size → Instr.fill (fun i => some (i * ty.size, ty.size)) zs.toArray (ps.toList.map fun p => (p.1, a.eval p.2)) = some (cs.map Lf.val).toArray := by
        intro zs hzs
        have := hfill [] zs (by simp) (by omega)
        simp only [List.nil_append] at this
        rw [this, List.drop_of_length_le (by omega)]
        simp
      have hal := alloc_hp r.heap (.cells (cs.map Lf.val).toArray e)
      have hrun : (Instr.buildSlice t n (ps.map fun p => (p.1, a.eval p.2))).run P W = .ok (VV.lf (.slc ⟨some (h.size, 0), n, n⟩)).val (hp W (h.push (.cells (cs.map Lf.val).toArray e))) := by
        by_cases h0 : n * ty.size = 0
        · have hk := key [] (by simp [h0])
          simp only [Instr.buildSlice, Sem.run_bind, run_underlying hu, Result.andThen_ok, run_sz hty, hnle, if_false, h0, if_true, Sem.run_pure, hps]
          rw [if_neg (by decide)]
          simp only [pure_bind]
          rw [show ((Array.range 0).map (fun i => (#[] : Array Value)[i % (#[] : Array Value).size]!)) = ([] : List Value).toArray from by simp, hk]
          simp [newRow, r.heap, hal, VV.val, Lf.val, padr, Sem.run_pure]
        · have hk := key ((Array.range (n * ty.size)).map (fun i => z.val.cells[i % z.val.cells.size]!)).toList (by simp)
          rw [Array.toArray_toList] at hk
          simp only [Instr.buildSlice, Sem.run_bind, run_underlying hu, Result.andThen_ok, run_sz hty, hnle, if_false, h0, zeroValue, typeInfo, run_program, hty, hiz, Sem.run_pure, hps]
          rw [hk]
          simp [newRow, r.heap, hal, VV.val, Lf.val, padr, Sem.run_pure]
      simp only [execOp, Sem.run_bind]
      rw [show (ps.map fun x => match x with | (i, x) => (i, a.eval x)) = (ps.map fun p => (p.1, a.eval p.2)) from rfl, hrun]
      rfl
    · exact hv.elim
  · exact hv.elim

theorem m_makeSlice (r : Rel st h a W) {pl : Plan} {t : TypeId} {l c : Operand} (hv : vcM P pl ⟨dst, .makeSlice t l c, type, pos, after, guard⟩ st h K Qp) :
    PM P ⟨dst, .makeSlice t l c, type, pos, after, guard⟩ st a W K Qp := by
  simp only [vcM] at hv
  have hl := r.ev l
  have hc := r.ev c
  split at hv
  · rename_i e k n k' m hu hle hce
    obtain ⟨z, hz, hv⟩ := opt_some hv
    obtain ⟨i, hi, hiz, hszz, hzc⟩ := zeroOf_run hz
    obtain ⟨h0, h1, h2, h3, hv⟩ := hv
    rw [hle] at hl; rw [hce] at hc
    simp only [SVr, VV.val, Lf.val] at hl hc
    have hv := hv _ _ rfl rfl
    have hby : bytesOf P e = i.bytes := by simp [bytesOf, hi]
    rw [hby] at h3
    refine m_push r (x := .lf (.slc ⟨some (h.size, 0), n.toNat, m.toNat⟩)) ?_ hv
    have hrun := run_make (P := P) W t e i z.val hu hi hiz k k' n m h0 h1 h3 h2
    have e1 : madeCells z.val.cells (m.toNat * i.size) = Builtin.zeroCells (z.cells.map Lf.val).toArray m.toNat := by
      unfold Builtin.zeroCells madeCells
      rw [hzc, show i.size = (z.cells.map Lf.val).toArray.size by simp [hszz]]
    rw [e1, alloc_hp r.heap, r.heap] at hrun
    simp only [execOp, hl, hc, Sem.run_bind, hrun, Result.andThen_ok, Sem.run_pure]
    rfl
  · exact hv.elim

theorem m_convert (r : Rel st h a W) {pl : Plan} {src dt : TypeId} {x : Operand} (hv : vcM P pl ⟨dst, .convert src dt x, type, pos, after, guard⟩ st h K Qp) :
    PM P ⟨dst, .convert src dt x, type, pos, after, guard⟩ st a W K Qp := by
  simp only [vcM] at hv
  have hx := r.ev x
  split at hv
  · rename_i e s hs hd he
    rw [he] at hx
    simp only [SVr, VV.val, Lf.val] at hx
    split at hv
    · rename_i hu
      let cp := (Question.appendCap s.size 0 e).cut (W.tape W.drawn (.appendCap s.size 0 e))
      have hcut : s.size ≤ cp := by simp [cp, Question.cut]
      have hv := hv _ _ _ hcut rfl rfl
      let cells : Array Value := ((s.data.toList.map fun x => Value.int .u8 x.toNat) ++ List.replicate (cp - s.size) (Value.int .u8 0)).toArray
      have hcs : cells.size = cp := by simp [cells]; omega
      have hcells : (s.data.map fun b => Value.int .u8 b.toNat) ++ Array.replicate (cp - s.size) (Value.int .u8 0) = cells := by
        apply Array.ext'; simp [cells]
      let W' : World := { W with heap := h.push (.cells cells e (cp, cp + 1)), drawn := W.drawn + 1 }
      have hrun : (Conv.stringToBytes e s).run P W = .ok (.slice (some ⟨h.size, 0, none⟩) s.size cp) W' := by
        have hforced : (Question.appendCap s.size 0 e).forced = false := rfl
        have hsh : ({ W with heap := h.push (.cells cells e), drawn := W.drawn + 1 } : World).shape? h.size = some (e, cp) := by
          simp [World.shape?, hcs]
        have hfr : ({ W with heap := h.push (.cells cells e), drawn := W.drawn + 1 } : World).freeze ⟨h.size, cp, none⟩ 1 = W' := by
          simp only [World.freeze, Nat.one_ne_zero, if_false, W']
          congr 1
          apply Array.ext_getElem?
          intro j
          rw [Array.getElem?_modify]
          by_cases hj : h.size = j
          · subst hj; simp
          · have hj' : ¬ j = h.size := fun x => hj x.symm
            simp [Array.getElem?_push, hj, hj']
        simp only [Conv.stringToBytes, Sem.run_bind, run_choose, hforced, Bool.false_eq_true, if_false, Result.andThen_ok, newRow, run_newObj, Sem.run_pure, markStringish, run_shape]
        rw [show (Question.appendCap s.size 0 e).cut (W.tape W.drawn (.appendCap s.size 0 e)) = cp from rfl, hcells, r.heap]
        simp only [hsh, Sem.run_bind, run_freeze, hfr, Result.andThen_ok, Sem.run_pure]
      refine PM.value (v := (VV.lf (.slc ⟨some (h.size, 0), s.size, cp⟩)).val) (W' := W') ?_ ⟨_, _, _, hv, rfl, ?_, rfl, Ev.refl _, ⟨rfl, rfl, rfl⟩⟩
      · simp only [execOp, hx, convert, run_underlying hs, run_underlying hd, run_underlying hu, Sem.run_bind, Result.andThen_ok, hrun, Sem.run_pure]
        rfl
      · have r' := r.push (.cells cells e (cp, cp + 1))
        exact ⟨rfl, r'.ds, r'.len, r'.slot, r'.loc, r'.apart⟩
    · exact hv.elim
  · exact hv.elim

theorem vals_load {W : World} : ∀ {l : List Value} {b off : Nat}, valsAt W.heap b off l → ∀ j v, l[j]? = some v → W.cell? ((⟨b, off, none⟩ : Addr).add j) = some v
  | [], _, _, _, j, v, hj => by simp at hj
  | x :: l, b, off, hc, j, v, hj => by
    obtain ⟨⟨c, e, fz, hb, hx⟩, hr⟩ := hc
    cases j with
    | zero =>
      simp at hj
      subst hj
      simp [Addr.add, World.cell?, hb, hx]
    | succ j =>
      have := vals_load hr j v (by simpa using hj)
      rw [← this]
      simp only [Addr.add]
      by_cases h0 : j = 0
      · subst h0; simp
      · simp [h0, Nat.add_assoc, Nat.add_comm 1 j]

/-- A slice's first cells are loaded. -/
theorem run_first {W : World} {p : Option (Nat × Nat)} {size n l c : Nat} {vs : List Value} (hs : srcAt W.heap p (n * size) vs) :
    (Builtin.firstCells size n (.slice (padr p) l c)).run P W = .ok vs.toArray W := by
  obtain ⟨hl, hm⟩ := hs
  match p, hm with
  | none, hm => subst hm; simp [padr, Builtin.firstCells]
  | some (b, off), hm =>
    have := run_loadCells_list (P := P) W ⟨b, off, none⟩ vs (vals_load hm)
    rw [hl] at this
    simp [padr, Builtin.firstCells, this]

theorem srcAt_hp {h : Heap} {W : World} (e : W.heap = h) {p : Option (Nat × Nat)} {n : Nat} {vs : List Value} (hs : srcAt h p n vs) : srcAt W.heap p n vs := by rw [e]; exact hs

theorem PMn.of (r : Rel st h a W) {o : Oper} {x : VV} {W' : World} (hv : K (.v x) st W'.heap) (hr : Rel st W'.heap a W') (ho : Out W W') : PMn st a o W K (a.put o.dst x.val) W' :=
  ⟨_, _, _, hv, rfl, hr, rfl, Ev.refl _, ho⟩

/-- append, of whatever source. -/
theorem run_appV (r : Rel st h a W) {t u ty e : TypeId} {i : TypeInfo} {z : VV} (ht : P.underlying t = some (.slice e)) (hi : P.info? e = some i) (hiz : i.zero = some z.val)
    (hzc : z.val.cells = (z.cells.map Lf.val).toArray) {du : TypeDesc} (hu : P.underlying u = some du) (hd : (∃ e', du = .slice e') ∨ du = .string) {s : Slc} {n : Nat} {x : Value} {news : List Value}
    (hlen : ∀ W', (Builtin.lenOf x).run P W' = .ok n W') (hfirst : ∀ W', W'.heap = h → (Builtin.firstCells i.size n x).run P W' = .ok news.toArray W')
    {K' : Slc → Heap → Prop} (hv : AppV e (z.cells.map Lf.val) i.size i.bytes s n news h K') :
    ∃ s' W', (Builtin.append_ #[t, u] ty #[.slice (padr s.a) s.len s.cap, x]).run P W = .ok (Lf.slc s').val W' ∧ K' s' W'.heap ∧ Out W W' := by
  obtain ⟨h1, hroom, hgrow⟩ := hv
  have hzr : ∀ c : Nat, Builtin.zeroCells z.val.cells c = Builtin.zeroCells (z.cells.map Lf.val).toArray c := fun c => by rw [hzc]
  have hbase : ∀ {p : Option (Nat × Nat)} {vs : List Value}, srcAt h p (s.len * i.size) vs → (Builtin.firstCells i.size s.len (.slice (padr p) s.len s.cap)).run P W = .ok vs.toArray W := fun hs => run_first (srcAt_hp r.heap hs)
  rcases hd with ⟨e', rfl⟩ | rfl
  all_goals
    by_cases hle : s.len + n ≤ s.cap
    · have hroom := hroom hle
      unfold Builtin.append_
      simp only [List.getElem?_toArray, List.getElem?_cons_zero, List.getElem?_cons_succ, Sem.run_bind, run_underlying ht, run_underlying hu, run_sz hi, Result.andThen_ok, Sem.run_pure, Bool.false_eq_true, if_false, hlen, hle, if_true, Bool.not_false, hfirst W r.heap]
      cases hsa : s.a with
      | none =>
        rw [hsa] at hroom
        refine ⟨⟨none, s.len + n, s.cap⟩, W, ?_, by rw [r.heap]; exact hroom, Out.refl _⟩
        simp [padr, Lf.val]
      | some p =>
        obtain ⟨b, off⟩ := p
        rw [hsa] at hroom
        obtain ⟨he, hne⟩ := hroom
        by_cases hnews : news = []
        · refine ⟨⟨some (b, off), s.len + n, s.cap⟩, W, ?_, by rw [r.heap]; exact he hnews, Out.refl _⟩
          subst hnews
          simp [padr, Lf.val, storeCells]
        · obtain ⟨c, e2, fz, hb, hfit, hf, hk⟩ := hne hnews
          have hst := run_storeCells_wr (P := P) b (off + s.len * i.size) e2 fz news 0 c W (by rw [r.heap]; exact hb) (by simpa using hfit) (by simpa using hf) h1
          simp only [Nat.add_zero, r.heap] at hst
          refine ⟨⟨some (b, off), s.len + n, s.cap⟩, hp W (h.setIfInBounds b (.cells (wr c (off + s.len * i.size) news) e2 fz)), ?_, hk _ rfl, hp_out W _⟩
          simp only [padr, add_add, Sem.run_bind, hst, Result.andThen_ok, Sem.run_pure, Lf.val]
    · obtain ⟨hb0, hcapb, olds, holds, hk⟩ := hgrow (by omega)
      have hn1 : ¬ (((s.len + n : Nat) : Int) > IntKind.i64.max ∧ (False ∨ i.bytes = 0)) := fun hh => by rcases hh.2 with h' | h'; exact h'; omega
      have hn2 : ¬ (Builtin.nextslicecap (s.len + n) s.cap * i.bytes > 2 ^ 48) := by simpa using hcapb
      let cp := (Question.appendCap (s.len + n) s.cap e).cut (W.tape W.drawn (.appendCap (s.len + n) s.cap e))
      have hcp : s.len + n ≤ cp := by simp [cp, Question.cut]
      have hk := hk cp _ _ hcp rfl rfl
      let W2 : World := { heap := h, tape := W.tape, drawn := W.drawn + 1, os := W.os, output := W.output }
      have hbase2 : (Builtin.firstCells i.size s.len (.slice (padr s.a) s.len s.cap)).run P W2 = .ok olds.toArray W2 := run_first (W := W2) holds
      have hfirst2 := hfirst W2 rfl
      have hforced : (Question.appendCap (s.len + n) s.cap e).forced = false := rfl
      refine ⟨⟨some (h.size, 0), s.len + n, cp⟩, hp W2 (h.push (.cells (olds.toArray ++ news.toArray ++ Builtin.zeroCells (z.cells.map Lf.val).toArray (cp - (s.len + n))) e)), ?_, hk, ⟨rfl, rfl, rfl⟩⟩
      unfold Builtin.append_
      simp only [List.getElem?_toArray, List.getElem?_cons_zero, List.getElem?_cons_succ, Sem.run_bind, run_underlying ht, run_underlying hu, run_sz hi, Result.andThen_ok, Sem.run_pure, Bool.false_eq_true, if_false, hlen, hle, Bool.not_false, typeInfo, run_program, hi, hn1, hn2, run_choose, hforced, run_askRoom]
      rw [show (Question.appendCap (s.len + n) s.cap e).cut (W.tape W.drawn (.appendCap (s.len + n) s.cap e)) = cp from rfl]
      have hbase3 := hbase2
      have hal : W2.alloc (.cells (olds.toArray ++ news.toArray ++ Builtin.zeroCells (z.cells.map Lf.val).toArray (cp - (s.len + n))) e) = hp W2 (h.push (.cells (olds.toArray ++ news.toArray ++ Builtin.zeroCells (z.cells.map Lf.val).toArray (cp - (s.len + n))) e)) := alloc_hp (W := W2) rfl _
      simp only [r.heap]
      rw [hbase3]
      simp only [Result.andThen_ok, if_true]
      rw [hfirst2]
      simp only [Result.andThen_ok, zeroValue, typeInfo, Sem.run_bind, run_program, hi, hiz, Sem.run_pure, hzr, newRow, run_newObj]
      rfl

theorem str_first {P : Program} (sz : Nat) (s : ByteArray) (W' : World) : (Builtin.firstCells sz s.size (.string s)).run P W' = .ok (s.data.toList.map fun c => Value.int .u8 c.toNat).toArray W' := by
  have : s.extract 0 s.size = s := by simp
  simp only [Builtin.firstCells, this, Sem.run_pure]
  congr 1
  apply Array.ext'
  simp

theorem callee_some {o : Operand} {f : FuncId} {l m : List VV} (h : callee st o = some (f, l, m)) : o = .func f ∧ l = [] ∧ m = [] := by
  cases o <;> simp [callee] at h
  obtain ⟨rfl, rfl, rfl⟩ := h
  exact ⟨rfl, rfl, rfl⟩

theorem vvs_run {h : Heap} (r : Rel st h a W) : ∀ (l : List Operand) (vs : List VV), vvs (l.map st.ev) = some vs → l.map a.eval = vs.map VV.val
  | [], vs, hv => by cases hv; rfl
  | x :: l, vs, hv => by
    have hx := r.ev x
    simp only [List.map_cons] at hv
    cases hs : st.ev x with
    | v y =>
      rw [hs] at hv hx
      simp only [vvs] at hv
      split at hv
      · rename_i m hm
        cases hv
        simp only [SVr] at hx
        simp [hx, vvs_run r l m hm]
      · cases hv
    | _ => rw [hs] at hv; cases hv

theorem app_lam : ∀ (ts : List LT) {R : Type} (g : List Lf → R) (l : List Lf) (K : R → Prop), app ts (lam ts g) l K → K (g l)
  | [], _, g, [], K, h => h
  | t :: ts, _, g, x :: l, K, h => by
    simp only [app, lam] at h
    split at h
    · rename_i d hd
      have := app_lam ts _ l K h
      rw [LT.get_mk hd] at this
      exact this
    · exact h.elim
  | [], _, _, _ :: _, _, h => h.elim
  | _ :: _, _, _, [], _, h => h.elim

theorem ret_sv (vs : List VV) : SVr st (retSV vs) (rets vs) := by
  match vs with
  | [x] => rfl
  | [] => rfl
  | _ :: _ :: _ => rfl

theorem m_call (hng : ∀ (f : Nat) (fn : Func), P.funcs[f]? = some fn → (fn.name == "runtime.NumGoroutine") = false) (r : Rel st h a W) {pl : Plan} {c : Go.Call} (hv : vcM P pl ⟨dst, .call c, type, pos, after, guard⟩ st h K Qp) :
    PM P ⟨dst, .call c, type, pos, after, guard⟩ st a W K Qp := by
  obtain ⟨cal, args, tys⟩ := c
  simp only [vcM, vcMCall] at hv
  split at hv
  · rename_i hc
    split at hv
    · rename_i x y t u ha ht
      obtain rfl : args = #[x, y] := Array.toList_inj.1 ha
      obtain rfl : tys = #[t, u] := Array.toList_inj.1 ht
      have hx := r.ev x
      have hy := r.ev y
      unfold vcAppend at hv
      split at hv
      · rename_i e e' s s' hut huu hxe hye
        obtain ⟨z, hz, hv⟩ := opt_some hv
        obtain ⟨i, hi, hiz, hszz, hzc⟩ := zeroOf_run hz
        have hsz : szOf P e = i.size := by simp [szOf, hi]
        have hby : bytesOf P e = i.bytes := by simp [bytesOf, hi]
        rw [hsz, hby] at hv
        obtain ⟨news, hnews, hv⟩ := hv
        rw [hxe] at hx; rw [hye] at hy
        simp only [SVr, VV.val, Lf.val] at hx hy
        obtain ⟨s2, W', hrun, hk, ho⟩ := run_appV (ty := type) r hut hi hiz hzc huu (.inl ⟨_, rfl⟩) (x := .slice (padr s'.a) s'.len s'.cap) (fun W' => rfl) (fun W' hW' => run_first (srcAt_hp hW' hnews)) hv
        obtain ⟨hkeep, hk⟩ := keepC_iff hk
        refine PM.value (v := (VV.lf (.slc s2)).val) (W' := W') ?_ (PMn.of r hk (r.keep hkeep) ho)
        simp [execOp, resolve, invoke, builtin, hx, hy, hrun, VV.val]
      · rename_i e s s' hut huu hxe hye
        split at hv
        · rename_i z hu8 hz
          obtain ⟨i, hi, hiz, hszz, hzc⟩ := zeroOf_run hz
          have hsz : szOf P e = i.size := by simp [szOf, hi]
          have hby : bytesOf P e = i.bytes := by simp [bytesOf, hi]
          rw [hsz, hby] at hv
          rw [hxe] at hx; rw [hye] at hy
          simp only [SVr, VV.val, Lf.val] at hx hy
          obtain ⟨s2, W', hrun, hk, ho⟩ := run_appV (ty := type) r hut hi hiz hzc huu (.inr rfl) (x := .string s') (fun W' => rfl) (fun W' hW' => str_first _ _ _) hv
          obtain ⟨hkeep, hk⟩ := keepC_iff hk
          refine PM.value (v := (VV.lf (.slc s2)).val) (W' := W') ?_ (PMn.of r hk (r.keep hkeep) ho)
          simp [execOp, resolve, invoke, builtin, hx, hy, hrun, VV.val]
        · exact hv.elim
      · exact hv.elim
    · exact hv.elim
  · rename_i fo
    obtain ⟨⟨f, first, capt⟩, hf, hv⟩ := opt_some hv
    obtain ⟨rfl, rfl, rfl⟩ := callee_some hf
    obtain ⟨fn, hfn, hv⟩ := opt_some hv
    have hfn : P.funcs[f]? = some fn := hfn
    split at hv
    · rename_i body hbody
      obtain ⟨vs, hvs, hv⟩ := opt_some hv
      obtain ⟨vts, hvts, hv⟩ := opt_some hv
      have hargs := vvs_run r _ _ hvs
      simp only [List.nil_append, List.append_nil] at hv
      have hcall := hv W r.heap
      have hn := hng f fn hfn
      have harr : args.map a.eval = (vs.map VV.val).toArray := by
        apply Array.ext'; simpa using hargs
      have hbn : fn.body.isNone = false := by rw [hbody]; rfl
      unfold PM Oper.wp
      have hexec : (execOp a.eval ⟨dst, .call ⟨.value (.func f), args, tys⟩, type, pos, after, guard⟩).run P W = .ok (.enter f (vs.map VV.val).toArray) W := by
        have hne : ¬ fn.name = "runtime.NumGoroutine" := by simpa using hn
        simp [execOp, resolve, Act.eval, Deferred.ofValue, invoke, callFunc, hfn, hne, hbody, harr]
      rw [hexec]
      refine Calls.mono hcall fun e W' ⟨ho, hex⟩ => ?_
      obtain ⟨l, hl, he, hR⟩ := ExL_elim hex
      subst he
      have hR := app_lam _ _ _ _ hR
      obtain ⟨hkeep, hk⟩ := keepC_iff hR
      exact ⟨_, _, _, hk, rfl, r.keep hkeep, ret_sv _, Ev.refl _, ho⟩
    · exact hv.elim
  · exact hv.elim

theorem m_panic (r : Rel st h a W) {pl : Plan} {x : Operand} (hv : vcM P pl ⟨dst, .panic x, type, pos, after, guard⟩ st h K Qp) :
    PM P ⟨dst, .panic x, type, pos, after, guard⟩ st a W K Qp := by
  simp only [vcM] at hv
  have hx := r.ev x
  split at hv
  · rename_i t v he
    rw [he] at hx
    simp only [SVr, VV.val, Lf.val, oneV, Value.oneCell'] at hx
    unfold PM Oper.wp
    have hexec : (execOp a.eval ⟨dst, .panic x, type, pos, after, guard⟩).run P W = .halt (.panic (.iface t v)) W := by
      simp [execOp, hx, Instr.panic]
    rw [hexec]
    refine ⟨_, _, rfl, by rw [r.heap]; exact hv, by rw [r.heap]; exact r, Ev.refl _, rfl, Out.refl _⟩
  · exact hv.elim

theorem vcM_sound (hng : ∀ (f : Nat) (fn : Func), P.funcs[f]? = some fn → (fn.name == "runtime.NumGoroutine") = false) (r : Rel st h a W) {pl : Plan} {o : Oper} (hv : vcM P pl o st h K Qp) : PM P o st a W K Qp := by
  obtain ⟨dst, op, type, pos, after, guard⟩ := o
  cases op
  case alloc => exact m_alloc r hv
  case box => exact m_box r hv
  case store => exact m_store r hv
  case buildSlice => exact m_buildSlice r hv
  case makeSlice => exact m_makeSlice r hv
  case convert => exact m_convert r hv
  case call => exact m_call hng r hv
  case panic => exact m_panic r hv
  all_goals exact hv.elim

end
end Go.V
