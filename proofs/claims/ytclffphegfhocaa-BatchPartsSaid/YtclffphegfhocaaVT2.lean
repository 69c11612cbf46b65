/- This text proves a part of the laws of seat Ytclffphegfhocaa, under no condition: VT2. -/
import Derived.Test.YtclffphegfhocaaVT
set_option linter.unusedVariables false
set_option linter.unusedSimpArgs false
namespace Go.V
section
variable {P : Program}

theorem zeroOf_run {e : TypeId} {z : VV} (hz : zeroOf P e = some z) : ∃ i, P.info? e = some i ∧ i.zero = some z.val ∧ i.size = z.cells.length ∧ z.val.cells = (z.cells.map Lf.val).toArray := by
  unfold zeroOf at hz
  split at hz
  · rename_i i hi
    split at hz
    · rename_i cs hc
      split at hz
      · rename_i hb
        simp only [Bool.and_eq_true] at hb
        cases hz
        have hm := allOne_map hb.1
        refine ⟨i, hi, ?_, ?_, rfl⟩
        · rw [hc]; simp only [VV.val, hm]
        · rw [Nat.eq_of_beq_eq_true hb.2]; simp [VV.cells]
      · cases hz
    · rename_i x hno hx
      split at hz
      · rename_i hb
        simp only [Bool.and_eq_true] at hb
        cases hz
        have hm := Lf.ofVal_val hb.1
        refine ⟨i, hi, ?_, ?_, ?_⟩
        · rw [hx]; simp only [VV.val, hm]
        · rw [Nat.eq_of_beq_eq_true hb.2]; rfl
        · simp only [VV.val, VV.cells, hm, List.map_cons, List.map_nil]
          cases x <;> first | rfl | (exact absurd rfl (hno _)) | (cases hb.1)
      · cases hz
    · cases hz
  · cases hz

theorem VV.cells_val (z : VV) : z.val.cells = (z.cells.map Lf.val).toArray := by
  cases z with
  | lf x =>
    have := Lf.val_one x
    simp only [VV.val, VV.cells, List.map_cons, List.map_nil]
    cases hx : x.val <;> first | rfl | (rw [hx] at this; cases this)
  | agg l => rfl

theorem splice_some {cs xs l : List Lf} {off : Nat} (h : splice cs off xs = some l) : off + xs.length ≤ cs.length ∧ l = cs.take off ++ (xs ++ cs.drop (off + xs.length)) := by
  unfold splice at h
  cases hb : Nat.ble (off + xs.length) cs.length with
  | true => rw [hb] at h; exact ⟨Nat.le_of_ble_eq_true hb, (Option.some.inj h).symm⟩
  | false => rw [hb] at h; cases h

theorem wr_splice : ∀ (vs : List Value) (c : List Value) (off : Nat), off + vs.length ≤ c.length → wr c.toArray off vs = (c.take off ++ (vs ++ c.drop (off + vs.length))).toArray
  | [], c, off, _ => by simp [wr]
  | v :: vs, c, off, hl => by
    simp only [List.length_cons] at hl
    have ih := wr_splice vs (c.set off v) (off + 1) (by simp; omega)
    simp only [wr, List.setIfInBounds_toArray, ih]
    congr 1
    have e1 : (c.set off v).take (off + 1) = c.take off ++ [v] := by
      rw [List.take_succ_eq_append_getElem (by simp; omega)]
      simp [List.take_set_of_le]
    have e2 : (c.set off v).drop (off + 1 + vs.length) = c.drop (off + (vs.length + 1)) := by
      rw [List.drop_set_of_lt (by omega)]
      congr 1; omega
    rw [e1, e2]
    simp

theorem foldl_wr : ∀ (vs : List Value) (k off : Nat) (c : Array Value),
    (vs.zipIdx k).foldl (fun cs (p : Value × Nat) => cs.setIfInBounds (off + p.2) p.1) c = wr c (off + k) vs
  | [], k, off, c => rfl
  | v :: vs, k, off, c => by
    simp only [List.zipIdx_cons, List.foldl_cons, wr]
    rw [foldl_wr vs (k + 1) off]
    rfl


theorem vtOf_run {t : TypeId} {vt : VT} (h : vtOf P t = some vt) : ∃ i, P.info? t = some i ∧ i.size = vt.lts.length := by
  cases vt with
  | one x => obtain ⟨i, hi, hs, _⟩ := vt_one h; exact ⟨i, hi, hs⟩
  | agg ts => obtain ⟨i, hi, hs, _⟩ := vt_agg h; exact ⟨i, hi, hs⟩

theorem mapM_places {fs : List Field} (h : fs.all (fun f => known P f.type) = true) (W' : World) :
    (fs.mapM (fun f => do pure (f.offset, ← sizeOf f.type) : Field → Sem (Nat × Nat))).run P W' = .ok (fs.map fun f => (f.offset, szOf P f.type)) W' := by
  induction fs with
  | nil => simp
  | cons f fs ih =>
    simp only [List.all_cons, Bool.and_eq_true] at h
    obtain ⟨ty, hty⟩ := known_some h.1
    have hsz : szOf P f.type = ty.size := by simp [szOf, hty]
    simp only [List.mapM_cons, Sem.run_bind, run_sz hty, Result.andThen_ok, Sem.run_pure, ih h.2, List.map_cons, hsz]

theorem build_fill {st : St} {h : Heap} {a : Act} {W : World} (r : Rel st h a W) {t : TypeId} {fs : Array Field} (hu : P.underlying t = some (.struct fs)) :
    ∀ (ps : List (Nat × Operand)) (cs out : List Lf), buildCells P t (ps.map fun p => (p.1, st.ev p.2)) cs = some out →
      Instr.fill (fun i => ((fs.toList.map fun f => (f.offset, szOf P f.type)).toArray)[i]?) (cs.map Lf.val).toArray (ps.map fun p => (p.1, a.eval p.2)) = some (out.map Lf.val).toArray
  | [], cs, out, hb => by cases hb; simp [Instr.fill]
  | (i, x) :: ps, cs, out, hb => by
    simp only [List.map_cons] at hb
    have hx := r.ev x
    cases hs : st.ev x with
    | v y =>
      rw [hs] at hb hx
      simp only [buildCells] at hb
      split at hb
      · rename_i off vt hf
        split at hb
        · rename_i cs' hlen hsp
          have hlen := Nat.eq_of_beq_eq_true hlen
          obtain ⟨hle, hcs'⟩ := splice_some hsp
          simp only [SVr] at hx
          unfold fieldVT at hf
          rw [hu] at hf
          simp only at hf
          split at hf
          · rename_i fl hfl
            split at hf
            · rename_i vt' hvt
              simp only [Option.some.injEq, Prod.mk.injEq] at hf
              obtain ⟨rfl, rfl⟩ := hf
              obtain ⟨ty, hty, hsz⟩ := vtOf_run hvt
              have hszo : szOf P fl.type = vt'.lts.length := by simp [szOf, hty, hsz]
              have hc := VV.cells_val y
              have hplace : ((fs.toList.map fun f => (f.offset, szOf P f.type)).toArray)[i]? = some (fl.offset, vt'.lts.length) := by
                simp [hfl, hszo]
              have hcond : (y.val.cells.size ≠ vt'.lts.length || decide (fl.offset + y.val.cells.size > (cs.map Lf.val).toArray.size)) = false := by
                rw [hc]; simp [hlen]; omega
              have hfold : (y.val.cells.zipIdx.foldl (fun cs (p : Value × Nat) => cs.setIfInBounds (fl.offset + p.2) p.1) (cs.map Lf.val).toArray) = (cs'.map Lf.val).toArray := by
                rw [hc]
                have := foldl_wr (y.cells.map Lf.val) 0 fl.offset (cs.map Lf.val).toArray
                simp only [Nat.add_zero] at this
                rw [← Array.foldl_toList, Array.toList_zipIdx, this, wr_splice _ _ _ (by simp; omega), hcs']
                simp [List.map_take, List.map_drop]
              simp only [List.map_cons, Instr.fill, hplace, hx, hcond, Bool.false_eq_true, if_false]
              rw [hfold]
              exact build_fill r hu ps cs' out hb
            · cases hf
          · cases hf
        · cases hb
      · cases hb
    | _ => rw [hs] at hb; cases hb

variable {st : St} {h : Heap} {a : Act} {W : World} {K : SV → Cond → Prop} {dst : Option Tmp} {type : TypeId} {pos : String} {after : Array Edge} {guard : Option (Nat × Bool)}

theorem s_build (r : Rel st h a W) {t : TypeId} {ps : Array (Nat × Operand)} (hv : vcS P ⟨dst, .build t ps, type, pos, after, guard⟩ st h K) : YS P ⟨dst, .build t ps, type, pos, after, guard⟩ st h a K := by
  simp only [vcS] at hv
  split at hv
  · rename_i hok
    obtain ⟨z, hz, hv⟩ := opt_some hv
    obtain ⟨cs, hcs, hv⟩ := opt_some hv
    obtain ⟨i, hi, hiz, hsz, hzc⟩ := zeroOf_run hz
    unfold structOk at hok
    split at hok
    · rename_i fs hu
      refine .tt _ hv rfl fun W' => ?_
      have hfill := build_fill r hu ps.toList z.cells cs hcs
      have hpl := mapM_places (P := P) hok W'
      have hpl' : (fs.mapM (fun f => do pure (f.offset, ← sizeOf f.type) : Field → Sem (Nat × Nat))).run P W' = .ok (fs.toList.map fun f => (f.offset, szOf P f.type)).toArray W' := by
        rw [← Array.toArray_toList (xs := fs), List.mapM_toArray]
        simp only [Sem.run_map, hpl, Result.andThen_ok]
      have hps : (ps.map fun p => (p.1, a.eval p.2)).toList = ps.toList.map fun p => (p.1, a.eval p.2) := by simp
      have hrun : (Instr.build t (ps.map fun p => (p.1, a.eval p.2))).run P W' = .ok (VV.agg cs).val W' := by
        simp only [Instr.build, Sem.run_bind, zeroValue, typeInfo, run_program, Result.andThen_ok, hi, hiz, Sem.run_pure, run_underlying hu, hpl', hps, hzc]
        rw [hfill]
        rfl
      simp only [execOp, Sem.run_bind]
      rw [show (ps.map fun x => match x with | (i, x) => (i, a.eval x)) = (ps.map fun p => (p.1, a.eval p.2)) from rfl, hrun]
      rfl
    · cases hok
  · exact hv.elim

end
end Go.V
