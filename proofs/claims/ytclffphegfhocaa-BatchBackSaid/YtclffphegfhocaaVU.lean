/- This text proves a part of the laws of seat Ytclffphegfhocaa, under no condition: VU. -/
import Derived.Test.YtclffphegfhocaaVT2
import Derived.WalkSpells
import Derived.Laws.StructEq
import Derived.Laws.BytesString
set_option linter.unusedVariables false
set_option linter.unusedSimpArgs false
namespace Go.V
section
variable {P : Program} {st : St} {h : Heap} {a : Act} {W : World} {K : SV → Cond → Prop} {dst : Option Tmp} {type : TypeId} {pos : String} {after : Array Edge} {guard : Option (Nat × Bool)}

theorem intBin_run {op : BinOp} {k : IntKind} {x y : Int} {K : Lf → Prop} (hv : intBin op k x y K) (t : TypeId) :
    ∃ r : Lf, K r ∧ ∀ W', (binOp op t (.int k x) (.int k y)).run P W' = .ok r.val W' := by
  cases op <;> simp only [intBin] at hv
  case quo =>
    · obtain ⟨h0, hv⟩ := hv; exact ⟨_, hv, fun W' => by simp [binOp, Op.intDiv, h0, Lf.val]⟩
  case rem =>
    · obtain ⟨h0, hv⟩ := hv; exact ⟨_, hv, fun W' => by simp [binOp, Op.intDiv, h0, Lf.val]⟩
  case shl =>
    · obtain ⟨h0, hv⟩ := hv
      have h0 : ¬ y < 0 := by omega
      exact ⟨_, hv, fun W' => by simp [binOp, Op.shift, h0, Lf.val, shiftL]⟩
  case shr =>
    · obtain ⟨h0, hv⟩ := hv
      have h0 : ¬ y < 0 := by omega
      exact ⟨_, hv, fun W' => by simp [binOp, Op.shift, h0, Lf.val, shiftR]⟩
  all_goals exact ⟨_, hv, fun W' => by simp [binOp, Op.intArith, Op.intBits, Op.intCmp, Lf.val, bitop]⟩

theorem shift_run {op : BinOp} (hs : isShift op = true) {k k' : IntKind} {x y : Int} {K : Lf → Prop} (hv : intBin op k x y K) (t : TypeId) :
    ∃ r : Lf, K r ∧ ∀ W', (binOp op t (.int k x) (.int k' y)).run P W' = .ok r.val W' := by
  cases op <;> first
    | (cases hs; done)
    | (simp only [intBin] at hv
       obtain ⟨h0, hv⟩ := hv
       have h0 : ¬ y < 0 := by omega
       exact ⟨_, hv, fun W' => by simp [binOp, Op.shift, h0, Lf.val, shiftL, shiftR]⟩)

theorem strBin_run {op : BinOp} {x y : ByteArray} {K : Lf → Prop} (hv : strBin op x y K) (t : TypeId) :
    ∃ r : Lf, K r ∧ ∀ W', (binOp op t (.string x) (.string y)).run P W' = .ok r.val W' := by
  cases op <;> simp only [strBin] at hv
  case add =>
    obtain ⟨hle, hv⟩ := hv
    refine ⟨_, hv, fun W' => ?_⟩
    have hm : ¬ (((x.size + y.size : Nat) : Int) > IntKind.i64.max) := by simp only [IntKind.max, IntKind.signed, IntKind.bits, if_true]; omega
    have hm' := hm
    simp only [Int.natCast_add] at hm'
    simp only [binOp, Op.stringOp, if_neg hm, Sem.run_pure, Lf.val]
  all_goals first
    | exact hv.elim
    | exact ⟨_, hv, fun W' => by simp [binOp, Op.stringOp, Lf.val, strEq, strLt, beq_toListBytes]⟩

theorem eqlTest_run {op : BinOp} {b : Bool} {K : Lf → Prop} (hv : eqlTest op b K) {t : TypeId} {x y : Value}
    (he : ∀ W', (Op.equal t x y).run P W' = .ok b W') (h1 : binOp .eql t x y = (do pure (.bool (← Op.equal t x y)))) (h2 : binOp .neq t x y = (do pure (.bool (!(← Op.equal t x y))))) :
    ∃ r : Lf, K r ∧ ∀ W', (binOp op t x y).run P W' = .ok r.val W' := by
  cases op <;> simp only [eqlTest] at hv
  case eql => exact ⟨_, hv, fun W' => by rw [h1]; simp [he, Lf.val]⟩
  case neq => exact ⟨_, hv, fun W' => by rw [h2]; simp [he, Lf.val]⟩
  all_goals exact hv.elim

theorem flatOf_cons {n : Nat} {f : Field} {fs : List Field} {ks : List LT} (h : flatOf P n (f :: fs) = some ks) :
    f.name ≠ "_" ∧ f.offset = n ∧ aggK P f.type = some false ∧ ∃ ks', flatOf P (n + 1) fs = some ks' ∧
      ((∃ k, P.underlying f.type = some (.int k) ∧ ks = .int k :: ks') ∨ (P.underlying f.type = some .string ∧ ks = .str :: ks') ∨ (P.underlying f.type = some .bool ∧ ks = .bool :: ks')) := by
  simp only [flatOf] at h
  split at h
  · rename_i hc
    simp only [Bool.and_eq_true] at hc
    refine ⟨by simpa using hc.1, Nat.eq_of_beq_eq_true hc.2, ?_⟩
    split at h
    · rename_i k l hu hl
      refine ⟨by simp [aggK, hu], l, hl, .inl ⟨k, hu, (Option.some.inj h).symm⟩⟩
    · rename_i l hu hl
      exact ⟨by simp [aggK, hu], l, hl, .inr (.inl ⟨hu, (Option.some.inj h).symm⟩)⟩
    · rename_i l hu hl
      exact ⟨by simp [aggK, hu], l, hl, .inr (.inr ⟨hu, (Option.some.inj h).symm⟩)⟩
    · cases h
  · cases h

theorem lfEq_run (d : Nat) : ∀ (fs : List Field) (n : Nat) (xs ys l m : List Lf) (ks : List LT) (K : Bool → Prop), flatOf P n fs = some ks → lfEq ks l m K →
    (∀ j y, l[j]? = some y → xs[n + j]? = some y) → (∀ j y, m[j]? = some y → ys[n + j]? = some y) →
    ∃ b, K b ∧ ∀ W', (Op.eqFields (d + 1) (xs.map Lf.val).toArray (ys.map Lf.val).toArray fs).run P W' = .ok b W'
  | [], n, xs, ys, l, m, ks, K, hf, hv, hx, hy => by
    cases hf
    match l, m, hv with
    | [], [], hv => exact ⟨true, hv, fun _ => by simp [Op.eqFields]⟩
  | f :: fs, n, xs, ys, l, m, ks, K, hf, hv, hx, hy => by
    obtain ⟨hname, hoff, hagg, ks', hrest, hkind⟩ := flatOf_cons hf
    have step : ∀ (x y : Lf) (l' m' : List Lf) (b : Bool) (K' : Bool → Prop), l = x :: l' → m = y :: m' → (∀ W', (Op.equalIn (d + 1) f.type x.val y.val).run P W' = .ok b W') →
        lfEq ks' l' m' K' → (∀ r, K' r → K (b && r)) →
        ∃ b, K b ∧ ∀ W', (Op.eqFields (d + 1) (xs.map Lf.val).toArray (ys.map Lf.val).toArray (f :: fs)).run P W' = .ok b W' := by
      intro x y l' m' b K' e1 e2 he hv' hK
      subst e1; subst e2
      obtain ⟨r, hr, hrun⟩ := lfEq_run d fs (n + 1) xs ys l' m' ks' K' hrest hv' (fun j z hz => by have := hx (j + 1) z (by simpa using hz); rwa [show n + (j + 1) = n + 1 + j by omega] at this)
        (fun j z hz => by have := hy (j + 1) z (by simpa using hz); rwa [show n + (j + 1) = n + 1 + j by omega] at this)
      have hx0 : xs[f.offset]? = some x := by rw [hoff]; simpa using hx 0 x rfl
      have hy0 : ys[f.offset]? = some y := by rw [hoff]; simpa using hy 0 y rfl
      refine ⟨b && r, hK r hr, fun W' => ?_⟩
      cases b <;> simp [Op.eqFields, hname, part, run_isAgg hagg, hx0, hy0, he, hrun]
    rcases hkind with ⟨k0, hu, rfl⟩ | ⟨hu, rfl⟩ | ⟨hu, rfl⟩
    · match l, m, hv with
      | .int k x :: l', .int k' y :: m', hv =>
        simp only [lfEq] at hv
        split at hv
        · rename_i hk
          have hk := kcode_inj hk
          subst hk
          exact step (.int k x) (.int k y) l' m' (x == y) (fun r => K ((x == y) && r)) rfl rfl (fun W' => run_equalIn_int W' d _ k k0 x y hu) hv (fun _ h => h)
        · exact hv.elim
    · match l, m, hv with
      | .str x :: l', .str y :: m', hv =>
        exact step (.str x) (.str y) l' m' (x == y) (fun r => K ((x == y) && r)) rfl rfl (fun W' => by rw [beq_toListBytes]; exact run_equalIn_string W' d _ x y hu) hv (fun _ h => h)
    · match l, m, hv with
      | .bool x :: l', .bool y :: m', hv =>
        exact step (.bool x) (.bool y) l' m' (x == y) (fun r => K ((x == y) && r)) rfl rfl (fun W' => run_equalIn_bool' W' d _ x y hu) hv (fun _ h => h)

theorem eq_slc (d : Nat) {t e : TypeId} (hu : P.underlying t = some (.slice e)) (n : Option (Nat × Nat)) (l c l' c' : Nat) (W' : World) :
    (Op.equalIn (d + 1) t (.slice (padr n) l c) (.slice none l' c')).run P W' = .ok n.isNone W' := by
  cases n with
  | none => simp [Op.equalIn, run_underlying hu, padr]
  | some p => obtain ⟨b, o⟩ := p; simp [Op.equalIn, run_underlying hu, padr]

theorem eq_map (d : Nat) {t k e : TypeId} (hu : P.underlying t = some (.map k e)) (n : Option Nat) (W' : World) :
    (Op.equalIn (d + 1) t (.map n) (.map none)).run P W' = .ok n.isNone W' := by
  cases n <;> simp [Op.equalIn, run_underlying hu]

theorem eq_ptr (d : Nat) {t e : TypeId} (hu : P.underlying t = some (.pointer e)) (n : Option (Nat × Nat)) (W' : World) :
    (Op.equalIn (d + 1) t (.pointer (padr n)) (.pointer none)).run P W' = .ok n.isNone W' := by
  cases n with
  | none => simp [Op.equalIn, run_underlying hu, padr]
  | some p => obtain ⟨b, o⟩ := p; simp [Op.equalIn, run_underlying hu, padr]

theorem bin_run {op : BinOp} {t : TypeId} {x y : SV} {K : Lf → Prop} (hv : bin P op t x y K) {vx vy : Value} (hx : SVr st x vx) (hy : SVr st y vy) (ox oy : Operand) :
    ∃ r : Lf, K r ∧ ∀ W', (do eqGuard op t ox oy vx vy; binOp op t vx vy : Sem Value).run P W' = .ok r.val W' := by
  unfold bin at hv
  split at hv
  · rename_i k n k' m
    simp only [SVr, VV.val, Lf.val] at hx hy
    subst hx; subst hy
    have hg : ∀ (o : BinOp) (W' : World), (eqGuard o t ox oy (.int k n) (.int k' m)).run P W' = .ok () W' := fun o W' => by unfold eqGuard; split <;> rfl
    split at hv
    · rename_i hs
      obtain ⟨r, hr, hrun⟩ := shift_run (P := P) hs (k' := k') hv t
      exact ⟨r, hr, fun W' => by rw [Sem.run_bind, hg]; exact hrun W'⟩
    · split at hv
      · rename_i hk
        have hk := kcode_inj hk
        subst hk
        obtain ⟨r, hr, hrun⟩ := intBin_run (P := P) hv t
        exact ⟨r, hr, fun W' => by rw [Sem.run_bind, hg]; exact hrun W'⟩
      · exact hv.elim
  · rename_i n m
    simp only [SVr, VV.val, Lf.val] at hx hy
    subst hx; subst hy
    have hg : ∀ (o : BinOp) (W' : World), (eqGuard o t ox oy (.string n) (.string m)).run P W' = .ok () W' := fun o W' => by unfold eqGuard; split <;> rfl
    obtain ⟨r, hr, hrun⟩ := strBin_run (P := P) hv t
    exact ⟨r, hr, fun W' => by rw [Sem.run_bind, hg]; exact hrun W'⟩
  · rename_i n m
    simp only [SVr, VV.val, Lf.val] at hx hy
    subst hx; subst hy
    have hg : ∀ (o : BinOp) (W' : World), (eqGuard o t ox oy (.bool n) (.bool m)).run P W' = .ok () W' := fun o W' => by unfold eqGuard; split <;> rfl
    split at hv
    · rename_i hu
      obtain ⟨r, hr, hrun⟩ := eqlTest_run (P := P) hv (t := t) (x := .bool n) (y := .bool m) (fun W' => run_equalIn_bool' W' _ t n m hu) rfl rfl
      exact ⟨r, hr, fun W' => by rw [Sem.run_bind, hg]; exact hrun W'⟩
    · exact hv.elim
  · rename_i n m
    simp only [SVr, VV.val, Lf.val] at hx hy
    subst hx; subst hy
    have hg : ∀ (o : BinOp) (W' : World), (eqGuard o t ox oy (.slice (padr n.a) n.len n.cap) (.slice (padr m.a) m.len m.cap)).run P W' = .ok () W' := fun o W' => by unfold eqGuard; split <;> rfl
    split at hv
    · rename_i e hu hm
      have he : ∀ W', (Op.equal t (.slice (padr n.a) n.len n.cap) (.slice (padr m.a) m.len m.cap)).run P W' = .ok n.a.isNone W' := by
        intro W'
        rw [hm]
        exact eq_slc 9999 hu n.a _ _ _ _ W'
      obtain ⟨r, hr, hrun⟩ := eqlTest_run (P := P) hv he rfl rfl
      exact ⟨r, hr, fun W' => by rw [Sem.run_bind, hg]; exact hrun W'⟩
    · exact hv.elim
  · rename_i n
    simp only [SVr, VV.val, Lf.val] at hx hy
    subst hx; subst hy
    have hg : ∀ (o : BinOp) (W' : World), (eqGuard o t ox oy (.map n) (.map none)).run P W' = .ok () W' := fun o W' => by unfold eqGuard; split <;> rfl
    split at hv
    · rename_i k e hu
      have he : ∀ W', (Op.equal t (.map n) (.map none)).run P W' = .ok n.isNone W' := fun W' => eq_map 9999 hu n W'
      obtain ⟨r, hr, hrun⟩ := eqlTest_run (P := P) hv he rfl rfl
      exact ⟨r, hr, fun W' => by rw [Sem.run_bind, hg]; exact hrun W'⟩
    · exact hv.elim
  · rename_i n
    simp only [SVr, VV.val, Lf.val] at hx hy
    subst hx; subst hy
    have hg : ∀ (o : BinOp) (W' : World), (eqGuard o t ox oy (.pointer (padr n)) (.pointer (padr none))).run P W' = .ok () W' := fun o W' => by unfold eqGuard; split <;> rfl
    split at hv
    · rename_i e hu
      have he : ∀ W', (Op.equal t (.pointer (padr n)) (.pointer (padr none))).run P W' = .ok n.isNone W' := fun W' => by
        exact eq_ptr 9999 hu n W'
      obtain ⟨r, hr, hrun⟩ := eqlTest_run (P := P) hv he (by cases n <;> rfl) (by cases n <;> rfl)
      exact ⟨r, hr, fun W' => by rw [Sem.run_bind, hg]; exact hrun W'⟩
    · exact hv.elim
  · rename_i l m
    simp only [SVr, VV.val] at hx hy
    subst hx; subst hy
    split at hv
    · rename_i ks hks
      unfold flatStruct at hks
      split at hks
      · rename_i fs hu
        split at hks
        · rename_i hst hge
          obtain ⟨b, hb, hrun⟩ := lfEq_run (P := P) 9998 fs.toList 0 l m l m ks _ hks hv (fun j y hj => by simpa using hj) (fun j y hj => by simpa using hj)
          have hfo : P.fieldsOf t = fs := by simp [Program.fieldsOf, hu]
          have he : ∀ W', (Op.equal t (.agg (l.map Lf.val).toArray) (.agg (m.map Lf.val).toArray)).run P W' = .ok b W' := by
            intro W'
            unfold Op.equal Op.maxDepth
            rw [run_equalIn_struct W' 9999 t _ _ (by rw [hfo]; exact hu) hst, hfo]
            exact hrun W'
          have hg : ∀ (o : BinOp) (W' : World), (eqGuard o t ox oy (.agg (l.map Lf.val).toArray) (.agg (m.map Lf.val).toArray)).run P W' = .ok () W' := fun o W' => by
            cases o <;> simp [eqGuard, hge]
          obtain ⟨r, hr, hrun2⟩ := eqlTest_run (P := P) hb he rfl rfl
          exact ⟨r, hr, fun W' => by rw [Sem.run_bind, hg]; exact hrun2 W'⟩
        · cases hks
      · cases hks
    · exact hv.elim
  · exact hv.elim

theorem s_binOp (r : Rel st h a W) {op : BinOp} {t yt : TypeId} {x y : Operand} (hv : vcS P ⟨dst, .binOp op t x y yt, type, pos, after, guard⟩ st h K) : YS P ⟨dst, .binOp op t x y yt, type, pos, after, guard⟩ st h a K := by
  simp only [vcS] at hv
  obtain ⟨z, hz, hrun⟩ := bin_run (P := P) (st := st) hv (r.ev x) (r.ev y) x y
  refine .tt _ hz rfl fun W' => ?_
  simp only [execOp]
  rw [Sem.run_bind, hrun]
  rfl

theorem s_convert (r : Rel st h a W) {src dt : TypeId} {x : Operand} (hv : vcS P ⟨dst, .convert src dt x, type, pos, after, guard⟩ st h K) : YS P ⟨dst, .convert src dt x, type, pos, after, guard⟩ st h a K := by
  simp only [vcS] at hv
  have hx := r.ev x
  split at hv
  · rename_i d0 k k' n hs hd he
    rw [he] at hx
    simp only [SVr, VV.val, Lf.val] at hx
    refine .tt _ hv rfl fun _ => ?_
    simp [execOp, hx, convert, run_underlying hs, run_underlying hd, Conv.intToInt, VV.val, Lf.val]
  · rename_i d0 s hs hd he
    rw [he] at hx
    simp only [SVr, VV.val, Lf.val] at hx
    refine .tt _ hv rfl fun _ => ?_
    simp [execOp, hx, convert, run_underlying hs, run_underlying hd, VV.val, Lf.val]
  · rename_i e s hs hd he
    rw [he] at hx
    simp only [SVr, VV.val, Lf.val] at hx
    split at hv
    · rename_i hu
      obtain ⟨z, ⟨hz, hb⟩, hv⟩ := hv
      have hfold : ∀ (l : List UInt8) (acc : ByteArray), (l.map fun c => ((c.toNat : Nat) : Int)).foldl (fun r n => r.push (UInt8.ofNat n.toNat)) acc = ⟨acc.data ++ l.toArray⟩ := by
        intro l
        induction l with
        | nil => intro acc; simp
        | cons c l ih =>
          intro acc
          simp only [List.map_cons, List.foldl_cons, ih]
          simp [ByteArray.push]
      have hmap : (z.data.toList.map fun c => (Lf.int .u8 c.toNat)).map Lf.val = (z.data.toList.map fun c => ((c.toNat : Nat) : Int)).map (Value.int .u8) := by
        simp [List.map_map, Function.comp_def, Lf.val]
      cases hsa : s.a with
      | none =>
        rw [hsa] at hv hx
        rcases hb with h0 | ⟨b, off, hsome, _⟩
        · have hz0 : z = ByteArray.empty := by
            rw [h0] at hz
            simpa using hz
          refine .tt _ hv rfl fun _ => ?_
          subst hz0
          simp [execOp, hx, convert, run_underlying hs, run_underlying hd, run_underlying hu, padr, Conv.bytesToString, VV.val, Lf.val]
        · rw [hsa] at hsome; cases hsome
      | some p =>
        obtain ⟨b, off⟩ := p
        rw [hsa] at hv hx
        have hb' : cellsAt h b off (z.data.toList.map fun c => .int .u8 c.toNat) := by
          rcases hb with h0 | ⟨b', off', hsome, hc⟩
          · have : z.data.toList = [] := by
              rw [h0] at hz
              exact List.length_eq_zero_iff.1 (by simpa using hz)
            rw [this]; trivial
          · rw [hsa] at hsome; cases hsome; exact hc
        refine ⟨_, _, _, hv, rfl, hb', fun id l' e => (by cases e), fun W' hW' => ?_⟩
        have hl := run_loadCells_list (P := P) W' ⟨b, off, none⟩ _ (cell_of_at rfl hW')
        rw [hmap] at hl
        have hlen : ((z.data.toList.map fun c => ((c.toNat : Nat) : Int)).map (Value.int .u8)).length = s.len := by simpa using hz
        rw [hlen] at hl
        have h2 := run_bytesToString (P := P) W' ⟨b, off, none⟩ s.len s.cap _ hl
        rw [hfold] at h2
        simp [execOp, hx, run_convert_bytes_string _ _ _ _ _ _ _ hs hu hd, padr, VV.val, Lf.val]
        rw [h2]
        simp
    · exact hv.elim
  · exact hv.elim

theorem s_call (r : Rel st h a W) {c : Go.Call} (hv : vcS P ⟨dst, .call c, type, pos, after, guard⟩ st h K) : YS P ⟨dst, .call c, type, pos, after, guard⟩ st h a K := by
  obtain ⟨cal, args, tys⟩ := c
  simp only [vcS, vcSCall] at hv
  split at hv
  · rename_i x t ha ht
    have hx := r.ev x
    obtain rfl : args = #[x] := Array.toList_inj.1 ha
    obtain rfl : tys = #[t] := Array.toList_inj.1 ht
    split at hv
    · rename_i s hu he
      rw [he] at hx
      simp only [SVr, VV.val, Lf.val] at hx
      exact .tt _ hv rfl fun _ => by simp [execOp, resolve, invoke, builtin, Builtin.len_, hx, run_underlying hu, goInt, VV.val, Lf.val]
    · rename_i s hu he
      rw [he] at hx
      simp only [SVr, VV.val, Lf.val] at hx
      exact .tt _ hv rfl fun _ => by simp [execOp, resolve, invoke, builtin, Builtin.len_, hx, run_underlying hu, goInt, VV.val, Lf.val]
    · exact hv.elim
  · rename_i x t ha ht
    have hx := r.ev x
    obtain rfl : args = #[x] := Array.toList_inj.1 ha
    obtain rfl : tys = #[t] := Array.toList_inj.1 ht
    split at hv
    · rename_i s hu he
      rw [he] at hx
      simp only [SVr, VV.val, Lf.val] at hx
      exact .tt _ hv rfl fun _ => by simp [execOp, resolve, invoke, builtin, Builtin.cap_, hx, run_underlying hu, goInt, VV.val, Lf.val]
    · exact hv.elim
  · rename_i x y ha
    have hx := r.ev x
    have hy := r.ev y
    obtain rfl : args = #[x, y] := Array.toList_inj.1 ha
    split at hv
    · rename_i k n k' m he he'
      rw [he] at hx; rw [he'] at hy
      simp only [SVr, VV.val, Lf.val] at hx hy
      exact .tt _ hv rfl fun _ => by simp [execOp, resolve, invoke, builtin, Builtin.max_, Builtin.max2, hx, hy, VV.val, Lf.val]
    · exact hv.elim
  · rename_i x y ha
    have hx := r.ev x
    have hy := r.ev y
    obtain rfl : args = #[x, y] := Array.toList_inj.1 ha
    split at hv
    · rename_i k n k' m he he'
      rw [he] at hx; rw [he'] at hy
      simp only [SVr, VV.val, Lf.val] at hx hy
      exact .tt _ hv rfl fun _ => by simp [execOp, resolve, invoke, builtin, Builtin.min_, Builtin.min2, hx, hy, VV.val, Lf.val]
    · exact hv.elim
  · exact hv.elim

theorem vcS_sound {o : Oper} (r : Rel st h a W) (hv : vcS P o st h K) : YS P o st h a K := by
  obtain ⟨dst, op, type, pos, after, guard⟩ := o
  cases op
  case move => exact s_move r hv
  case assign => exact s_assign r hv
  case pick => exact s_pick r hv
  case nilCheck => exact s_nilCheck r hv
  case fieldAddr => exact s_fieldAddr r hv
  case field => exact s_field r hv
  case indexAddr => exact s_indexAddr r hv
  case index => exact s_index r hv
  case load => exact s_load r hv
  case binOp => exact s_binOp r hv
  case unOp => exact s_unOp r hv
  case convert => exact s_convert r hv
  case extract => exact s_extract r hv
  case slice => exact s_slice r hv
  case makeInterface => exact s_makeInterface r hv
  case call => exact s_call r hv
  case build => exact s_build r hv
  all_goals exact hv.elim

end
end Go.V
