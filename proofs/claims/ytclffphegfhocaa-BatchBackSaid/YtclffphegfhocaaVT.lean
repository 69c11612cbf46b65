/- This text proves a part of the laws of seat Ytclffphegfhocaa, under no condition: VT. -/
import Derived.Test.YtclffphegfhocaaVS
set_option linter.unusedVariables false
set_option linter.unusedSimpArgs false
namespace Go.V

/-- An operation yields a value in every world in which a condition holds, and leaves it as it is. -/
def YS (P : Program) (o : Oper) (st : St) (h : Heap) (a : Act) (K : SV → Cond → Prop) : Prop :=
  ∃ v s c, K s c ∧ SVr st s v ∧ c.holds h ∧ (∀ id l, c = .loc id l → st.loc id = some l) ∧ ∀ W', c.holds W'.heap → (execOp a.eval o).run P W' = .ok (.value v) W'

theorem YS.tt {P : Program} {o : Oper} {st : St} {h : Heap} {a : Act} {K : SV → Cond → Prop} {s : SV} (v : Value) (hk : K s .tt) (hs : SVr st s v)
    (hr : ∀ W', (execOp a.eval o).run P W' = .ok (.value v) W') : YS P o st h a K :=
  ⟨v, s, .tt, hk, hs, trivial, fun _ _ e => (by cases e), fun W' _ => hr W'⟩

theorem Br_elim {b : Bool} {X Y : Prop} (h : Br b X Y) : (b = true ∧ X) ∨ (b = false ∧ Y) := by
  cases b
  · exact .inr ⟨rfl, h⟩
  · exact .inl ⟨rfl, h⟩

theorem ExL_elim : ∀ {ts : List LT} {K : List Lf → Prop}, ExL ts K → ∃ l, l.length = ts.length ∧ K l
  | [], K, h => ⟨[], rfl, h⟩
  | t :: ts, K, h => by
    obtain ⟨x, h⟩ := h
    obtain ⟨l, hl, hk⟩ := ExL_elim h
    exact ⟨t.mk x :: l, by simp [hl], hk⟩

theorem NilC_elim {p : Option (Nat × Nat)} {K : Nat → Nat → Prop} (h : NilC p K) : ∃ b off, p = some (b, off) ∧ K b off := by
  match p, h with
  | some (b, off), h => exact ⟨b, off, rfl, h⟩

theorem fieldOff_run {P : Program} {s : TypeId} {f fo : Nat} (h : fieldOff P s f = some fo) (a : Addr) (W : World) :
    (Instr.fieldAt s (.pointer (some a)) f).run P W = .ok (.pointer (some (a.add fo))) W := by
  unfold fieldOff at h
  split at h
  · rename_i fs hu
    split at h
    · rename_i fl hf
      split at h
      · rename_i ty hi
        split at h
        · simp at h
        · rename_i n hn
          simp at h; subst h
          have hz : ¬ ty.size = 0 := by omega
          simp [Instr.fieldAt, run_underlying hu, hf, Instr.sureAddr, fieldPlace, run_sz hi, hz]
      · simp at h
    · simp at h
  · simp at h

theorem add_add (b off n : Nat) : (⟨b, off, none⟩ : Addr).add n = ⟨b, off + n, none⟩ := by
  unfold Addr.add
  split
  · rename_i h; simp [h]
  · rfl

theorem svL_elim {l : List Lf} {off n : Nat} {cs : List Lf} (h : svL l off n = some cs) : off + n ≤ l.length ∧ cs = (l.drop off).take n := by
  unfold svL at h
  cases hb : Nat.ble (off + n) l.length with
  | true => rw [hb] at h; exact ⟨Nat.le_of_ble_eq_true hb, (Option.some.inj h).symm⟩
  | false => rw [hb] at h; cases h

theorem loc_cellsAt {h : Heap} {l : Loc} (hl : h[l.b]? = some l.obj) : ∀ (n off : Nat), off + n ≤ l.cs.length → cellsAt h l.b off ((l.cs.drop off).take n)
  | 0, off, _ => trivial
  | n + 1, off, hle => by
    have hlt : off < l.cs.length := by omega
    rw [List.drop_eq_getElem_cons hlt, List.take_succ_cons]
    have hx : (l.cs.map Lf.val).toArray[off]? = some l.cs[off].val := by simp [hlt]
    exact ⟨⟨_, _, _, hl, hx⟩, loc_cellsAt hl n (off + 1) (by omega)⟩

section
variable {P : Program} {st : St} {h : Heap} {a : Act} {W : World} {K : SV → Cond → Prop} {dst : Option Tmp} {type : TypeId} {pos : String} {after : Array Edge} {guard : Option (Nat × Bool)}

theorem s_move (r : Rel st h a W) {x : Operand} (hv : K (st.ev x) .tt) : YS P ⟨dst, .move x, type, pos, after, guard⟩ st h a K :=
  .tt _ hv (r.ev x) fun _ => rfl
theorem s_assign (r : Rel st h a W) {x : Operand} (hv : K (st.ev x) .tt) : YS P ⟨dst, .assign x, type, pos, after, guard⟩ st h a K :=
  .tt _ hv (r.ev x) fun _ => rfl

theorem s_pick (r : Rel st h a W) {c x y : Operand} (hv : vcS P ⟨dst, .pick c x y, type, pos, after, guard⟩ st h K) : YS P ⟨dst, .pick c x y, type, pos, after, guard⟩ st h a K := by
  simp only [vcS] at hv
  split at hv
  · rename_i bb hc
    have hc' := r.ev c
    rw [hc] at hc'
    simp only [SVr, VV.val, Lf.val] at hc'
    rcases Br_elim hv with ⟨hb, hv⟩ | ⟨hb, hv⟩
    · exact .tt _ hv (r.ev x) fun _ => by simp [execOp, hc', asBool, hb]
    · exact .tt _ hv (r.ev y) fun _ => by simp [execOp, hc', asBool, hb]
  · exact hv.elim

theorem s_nilCheck (r : Rel st h a W) {x : Operand} (hv : vcS P ⟨dst, .nilCheck x, type, pos, after, guard⟩ st h K) : YS P ⟨dst, .nilCheck x, type, pos, after, guard⟩ st h a K := by
  simp only [vcS] at hv
  have hx := r.ev x
  split at hv
  · rename_i i off he
    obtain ⟨l, hl, hv⟩ := opt_some hv
    rw [he] at hx
    have hx' := hx.2 l hl
    exact .tt _ hv hx fun _ => by simp [execOp, hx']
  · rename_i p he
    obtain ⟨b, off, rfl, hv⟩ := NilC_elim hv
    rw [he] at hx
    simp only [SVr, VV.val, Lf.val, padr] at hx
    exact .tt (.pointer (some ⟨b, off, none⟩)) hv rfl fun _ => by simp [execOp, hx]
  · exact hv.elim

theorem s_fieldAddr (r : Rel st h a W) {s : TypeId} {x : Operand} {f : Nat} (hv : vcS P ⟨dst, .fieldAddr s x f, type, pos, after, guard⟩ st h K) : YS P ⟨dst, .fieldAddr s x f, type, pos, after, guard⟩ st h a K := by
  simp only [vcS] at hv
  obtain ⟨fo, hf, hv⟩ := opt_some hv
  have hx := r.ev x
  split at hv
  · rename_i i off he
    obtain ⟨l, hl, hv⟩ := opt_some hv
    rw [he] at hx
    have hx' := hx.2 l hl
    refine .tt (.pointer (some ⟨l.b, off + fo, none⟩)) hv ⟨hx.1, fun l' hl' => ?_⟩ fun _ => by simp [execOp, hx', fieldOff_run hf, add_add]
    rw [hl] at hl'; cases hl'; rfl
  · rename_i b off he
    rw [he] at hx
    simp only [SVr, VV.val, Lf.val, padr] at hx
    exact .tt (.pointer (some ⟨b, off + fo, none⟩)) hv rfl fun _ => by simp [execOp, hx, fieldOff_run hf, add_add]
  · exact hv.elim

theorem s_load (r : Rel st h a W) {t : TypeId} {x : Operand} (hv : vcS P ⟨dst, .load t x, type, pos, after, guard⟩ st h K) : YS P ⟨dst, .load t x, type, pos, after, guard⟩ st h a K := by
  simp only [vcS] at hv
  obtain ⟨vt, ht, hv⟩ := opt_some hv
  have hx := r.ev x
  split at hv
  · rename_i i off he
    obtain ⟨l, hl, hv⟩ := opt_some hv
    obtain ⟨cs, hcs, hv⟩ := opt_some hv
    rw [he] at hx
    have hx' := hx.2 l hl
    obtain ⟨hle, rfl⟩ := svL_elim hcs
    refine ⟨_, _, _, hv, rfl, r.loc _ _ hl, fun id l' e => (by cases e; exact hl), fun W' hW' => ?_⟩
    have hlen : (((l.cs.drop off).take vt.lts.length)).length = vt.lts.length := by simp; omega
    simp [execOp, hx', Instr.loadAt, Instr.sureAddr, run_loadVar ht hlen (loc_cellsAt hW' _ _ hle)]
  · rename_i b off he
    obtain ⟨l, hlen, hc, hv⟩ := ExL_elim hv
    rw [he] at hx
    simp only [SVr, VV.val, Lf.val, padr] at hx
    refine ⟨_, _, _, hv, rfl, hc, fun id l' e => (by cases e), fun W' hW' => ?_⟩
    simp [execOp, hx, Instr.loadAt, Instr.sureAddr, run_loadVar ht hlen hW']
  · exact hv.elim

theorem kb {k k' : IntKind} (h : Nat.beq (kcode k) (kcode k') = true) : k = k' := kcode_inj h

theorem s_field (r : Rel st h a W) {t : TypeId} {x : Operand} {f : Nat} (hv : vcS P ⟨dst, .field t x f, type, pos, after, guard⟩ st h K) : YS P ⟨dst, .field t x f, type, pos, after, guard⟩ st h a K := by
  simp only [vcS] at hv
  have hx := r.ev x
  split at hv
  · rename_i l he
    obtain ⟨⟨off, vt⟩, hf, hv⟩ := opt_some hv
    obtain ⟨cs, hcs, hv⟩ := opt_some hv
    rw [he] at hx
    simp only [SVr, VV.val] at hx
    obtain ⟨hle, rfl⟩ := svL_elim hcs
    unfold fieldVT at hf
    split at hf
    · rename_i fs hu
      split at hf
      · rename_i fl hfl
        split at hf
        · rename_i vt' hvt
          simp at hf
          obtain ⟨rfl, rfl⟩ := hf
          refine .tt _ hv rfl fun _ => ?_
          cases vt' with
          | one y =>
            obtain ⟨i, hi, hs, ha⟩ := vt_one hvt
            simp only [VT.lts, List.length_cons, List.length_nil] at hle
            have hlt : fl.offset < l.length := by omega
            have e1 : (l.drop fl.offset).take 1 = [l[fl.offset]] := by rw [List.drop_eq_getElem_cons hlt]; rfl
            simp only [VT.lts, List.length_cons, List.length_nil, Nat.zero_add, e1]
            simp [execOp, hx, Instr.field, run_underlying hu, hfl, asAgg, part, run_isAgg ha, hlt, VT.put, VV.val]
          | agg ts =>
            obtain ⟨i, hi, hs, ha⟩ := vt_agg hvt
            simp [execOp, hx, Instr.field, run_underlying hu, hfl, asAgg, part, run_isAgg ha, run_sz hi, hs, VT.put, VV.val, VT.lts, List.map_drop, List.map_take]
        · simp at hf
      · simp at hf
    · simp at hf
  · exact hv.elim

theorem s_indexAddr (r : Rel st h a W) {t : TypeId} {x i : Operand} (hv : vcS P ⟨dst, .indexAddr t x i, type, pos, after, guard⟩ st h K) : YS P ⟨dst, .indexAddr t x i, type, pos, after, guard⟩ st h a K := by
  simp only [vcS] at hv
  have hx := r.ev x
  have hi := r.ev i
  split at hv
  · rename_i s k n e he hie hu
    split at hv
    · rename_i hkn
      obtain ⟨h0, h1, hv⟩ := hv
      obtain ⟨b, off, hs, hv⟩ := NilC_elim hv
      rw [he] at hx; rw [hie] at hi
      simp only [SVr, VV.val, Lf.val, hs, padr] at hx hi
      have hinfo : ∃ ty, P.info? e = some ty := by
        unfold known at hkn
        cases hh : P.info? e with
        | none => rw [hh] at hkn; simp at hkn
        | some ty => exact ⟨ty, rfl⟩
      obtain ⟨ty, hty⟩ := hinfo
      have hsz : szOf P e = ty.size := by simp [szOf, hty]
      refine .tt (.pointer (some ⟨b, off + n.toNat * szOf P e, none⟩)) hv rfl fun _ => ?_
      simp [execOp, hx, hi, Instr.indexAt, asIntOf, run_underlying hu, h0, h1, run_sz hty, add_add, hsz]
    · exact hv.elim
  · exact hv.elim

theorem s_index (r : Rel st h a W) {t : TypeId} {x i : Operand} (hv : vcS P ⟨dst, .index t x i, type, pos, after, guard⟩ st h K) : YS P ⟨dst, .index t x i, type, pos, after, guard⟩ st h a K := by
  simp only [vcS] at hv
  have hx := r.ev x
  have hi := r.ev i
  split at hv
  · rename_i s k n he hie hu
    obtain ⟨h0, h1, hv⟩ := hv
    rw [he] at hx; rw [hie] at hi
    simp only [SVr, VV.val, Lf.val] at hx hi
    have hlt : n.toNat < s.size := by omega
    refine .tt _ hv rfl fun _ => ?_
    have hg : s[n.toNat]? = some s[n.toNat] := by simp [hlt]
    have hb : bt s n = (s[n.toNat].toNat : Int) := by
      simp [bt, List.getD, hlt]
      rfl
    simp [execOp, hx, hi, Instr.index, asIntOf, run_underlying hu, h0, hg, VV.val, Lf.val, hb]
  · exact hv.elim

theorem s_extract (r : Rel st h a W) {x : Operand} {i : Nat} (hv : vcS P ⟨dst, .extract x i, type, pos, after, guard⟩ st h K) : YS P ⟨dst, .extract x i, type, pos, after, guard⟩ st h a K := by
  simp only [vcS] at hv
  have hx := r.ev x
  split at hv
  · rename_i l he
    obtain ⟨y, hy, hv⟩ := opt_some hv
    rw [he] at hx
    simp only [SVr] at hx
    refine .tt _ hv rfl fun _ => ?_
    simp [execOp, hx, Instr.extract, hy]
  · exact hv.elim

theorem s_unOp (r : Rel st h a W) {op : UnOp} {t : TypeId} {x : Operand} (hv : vcS P ⟨dst, .unOp op t x, type, pos, after, guard⟩ st h K) : YS P ⟨dst, .unOp op t x, type, pos, after, guard⟩ st h a K := by
  simp only [vcS] at hv
  have hx := r.ev x
  split at hv
  all_goals first
    | exact hv.elim
    | (rename_i he
       rw [he] at hx
       simp only [SVr, VV.val, Lf.val] at hx
       exact .tt _ hv rfl fun _ => by simp [execOp, hx, Op.unary, Op.intArith, Op.intBits, VV.val, Lf.val, bitop])

theorem s_makeInterface (r : Rel st h a W) {t : TypeId} {x : Operand} (hv : vcS P ⟨dst, .makeInterface t x, type, pos, after, guard⟩ st h K) : YS P ⟨dst, .makeInterface t x, type, pos, after, guard⟩ st h a K := by
  simp only [vcS] at hv
  have hx := r.ev x
  split at hv
  · exact hv.elim
  · rename_i d y hno hu he
    rw [he] at hx
    simp only [SVr] at hx
    refine .tt _ hv rfl fun _ => ?_
    cases d <;> first
      | (exfalso; exact hno _ rfl)
      | simp [execOp, hx, Instr.makeInterface, run_underlying hu, VV.val, Lf.val, oneV, Value.oneCell']
  · exact hv.elim

def OptR (st : St) : Option SV → Option Value → Prop
  | none, none => True
  | some s, some v => SVr st s v
  | _, _ => False

theorem run_bound {x : Option SV} {dflt most : Nat} {K : Nat → Prop} (hb : bound x dflt most K) {v : Option Value} (hx : OptR st x v) (c : BoundsCode) :
    ∃ n, K n ∧ (x = none → n = dflt) ∧ ∀ v', v = some v' → ∀ W', (Instr.sliceBound v' most c).run P W' = .ok n W' := by
  match x, v, hx with
  | none, none, _ => exact ⟨dflt, hb, fun _ => rfl, fun _ e => by cases e⟩
  | some s, some v', hx =>
    unfold bound at hb
    split at hb
    · rename_i e; cases e
    · rename_i k i e
      cases e
      obtain ⟨h0, h1, hk⟩ := hb
      simp only [OptR, SVr, VV.val, Lf.val] at hx
      refine ⟨_, hk, fun e => (by cases e), fun v'' e W' => ?_⟩
      cases e
      subst hx
      simp [Instr.sliceBound, asIntOf, h0, h1]
    · exact hb.elim

theorem optr (r : Rel st h a W) (x : Option Operand) : OptR st (x.map st.ev) (x.map a.eval) := by
  cases x with
  | none => trivial
  | some y => exact r.ev y

theorem known_some {e : TypeId} (h : known P e = true) : ∃ ty, P.info? e = some ty := by
  unfold known at h
  cases hh : P.info? e with
  | none => rw [hh] at h; simp at h
  | some ty => exact ⟨ty, rfl⟩

theorem s_slice (r : Rel st h a W) {t : TypeId} {x : Operand} {lo hi mx : Option Operand} (hv : vcS P ⟨dst, .slice t x lo hi mx, type, pos, after, guard⟩ st h K) : YS P ⟨dst, .slice t x lo hi mx, type, pos, after, guard⟩ st h a K := by
  simp only [vcS] at hv
  have hx := r.ev x
  split at hv
  · rename_i s e he hu
    split at hv
    · rename_i hkn
      obtain ⟨ty, hty⟩ := known_some hkn
      have hsz : szOf P e = ty.size := by simp [szOf, hty]
      rw [he] at hx
      simp only [SVr, VV.val, Lf.val] at hx
      obtain ⟨m, hv, hmn, hmr⟩ := run_bound (P := P) (st := st) hv (optr r mx) .slice3Acap
      cases mx with
      | none =>
        have hm : m = s.cap := hmn rfl
        obtain ⟨hh, hv, hhn, hhr⟩ := run_bound (P := P) (st := st) hv (optr r hi) .sliceAcap
        obtain ⟨l, hv, hln, hlr⟩ := run_bound (P := P) (st := st) hv (optr r lo) .sliceB
        subst hm
        have hv : K (SV.v (VV.lf (Lf.slc (s.sub (szOf P e) l hh s.cap)))) Cond.tt := hv
        refine .tt _ hv rfl fun W' => ?_
        have e1 : (Value.slice (if s.cap = l then padr s.a else (padr s.a).map (·.add (l * ty.size))) (hh - l) (s.cap - l)) = (VV.lf (Lf.slc (s.sub (szOf P e) l hh s.cap))).val := by
          simp only [VV.val, Lf.val, Slc.sub, hsz]
          split
          · rfl
          · cases s.a with
            | none => rfl
            | some p => obtain ⟨b, o⟩ := p; simp [padr, add_add]
        rw [← e1]
        cases hi <;> cases lo
        · have h1 : hh = s.len := hhn rfl
          have h2 : l = 0 := hln rfl
          subst h1; subst h2
          simp [execOp, hx, Instr.sliceAt, Instr.slice, run_underlying hu, Instr.sliceBounds, run_sz hty]
        · have h1 : hh = s.len := hhn rfl
          have h2 := hlr _ rfl W'
          subst h1
          simp [execOp, hx, Instr.sliceAt, Instr.slice, run_underlying hu, Instr.sliceBounds, run_sz hty, h2]
        · have h1 := hhr _ rfl W'
          have h2 : l = 0 := hln rfl
          subst h2
          simp [execOp, hx, Instr.sliceAt, Instr.slice, run_underlying hu, Instr.sliceBounds, run_sz hty, h1]
        · have h1 := hhr _ rfl W'
          have h2 := hlr _ rfl W'
          simp [execOp, hx, Instr.sliceAt, Instr.slice, run_underlying hu, Instr.sliceBounds, run_sz hty, h1, h2]
      | some mx' =>
        have hmr' := hmr _ rfl
        obtain ⟨hh, hv, hhn, hhr⟩ := run_bound (P := P) (st := st) hv (optr r hi) .slice3B
        obtain ⟨l, hv, hln, hlr⟩ := run_bound (P := P) (st := st) hv (optr r lo) .slice3C
        cases hi with
        | none => exact hv.elim
        | some hi' =>
        have hv : K (SV.v (VV.lf (Lf.slc (s.sub (szOf P e) l hh m)))) Cond.tt := hv
        refine .tt _ hv rfl fun W' => ?_
        have e1 : (Value.slice (if m = l then padr s.a else (padr s.a).map (·.add (l * ty.size))) (hh - l) (m - l)) = (VV.lf (Lf.slc (s.sub (szOf P e) l hh m))).val := by
          simp only [VV.val, Lf.val, Slc.sub, hsz]
          split
          · rfl
          · cases s.a with
            | none => rfl
            | some p => obtain ⟨b, o⟩ := p; simp [padr, add_add]
        rw [← e1]
        have h1 := hhr _ rfl W'
        have h0 := hmr' W'
        cases lo
        · have h2 : l = 0 := hln rfl
          subst h2
          simp [execOp, hx, Instr.sliceAt, Instr.slice, run_underlying hu, Instr.sliceBounds, run_sz hty, h0, h1]
        · have h2 := hlr _ rfl W'
          simp [execOp, hx, Instr.sliceAt, Instr.slice, run_underlying hu, Instr.sliceBounds, run_sz hty, h0, h1, h2]
    · exact hv.elim
  · rename_i s he hu
    rw [he] at hx
    simp only [SVr, VV.val, Lf.val] at hx
    cases mx with
    | some _ => exact hv.elim
    | none =>
      obtain ⟨hh, hv, hhn, hhr⟩ := run_bound (P := P) (st := st) hv (optr r hi) .sliceAlen
      obtain ⟨l, hv, hln, hlr⟩ := run_bound (P := P) (st := st) hv (optr r lo) .sliceB
      refine .tt _ hv rfl fun W' => ?_
      cases hi <;> cases lo
      · have h1 : hh = s.size := hhn rfl
        have h2 : l = 0 := hln rfl
        subst h1; subst h2
        simp [execOp, hx, Instr.sliceAt, Instr.slice, run_underlying hu, Instr.sliceBounds, VV.val, Lf.val]
      · have h1 : hh = s.size := hhn rfl
        have h2 := hlr _ rfl W'
        subst h1
        simp [execOp, hx, Instr.sliceAt, Instr.slice, run_underlying hu, Instr.sliceBounds, VV.val, Lf.val, h2]
      · have h1 := hhr _ rfl W'
        have h2 : l = 0 := hln rfl
        subst h2
        simp [execOp, hx, Instr.sliceAt, Instr.slice, run_underlying hu, Instr.sliceBounds, VV.val, Lf.val, h1]
      · have h1 := hhr _ rfl W'
        have h2 := hlr _ rfl W'
        simp [execOp, hx, Instr.sliceAt, Instr.slice, run_underlying hu, Instr.sliceBounds, VV.val, Lf.val, h1, h2]
  · exact hv.elim

end

end Go.V
