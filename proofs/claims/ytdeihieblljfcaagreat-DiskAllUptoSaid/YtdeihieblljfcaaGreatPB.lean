/- This text proves a part of the laws of seat YtdeihieblljfcaaGreat, under no condition: VU VV VV2 VW VX VY. -/
import Derived.Test.YtdeihieblljfcaaGreatPA
import Derived.WalkSpells
import Derived.Laws.StructEq
import Derived.Laws.BytesString
import Derived.Maps.RangeRun
import Derived.Laws.MakeOwn
set_option linter.unusedVariables false
set_option linter.unusedSimpArgs false
namespace Go.V
section
variable {P : Program} {st : St} {h : Heap} {a : Act} {W : World} {K : SV → Cond → Prop} {dst : Option Tmp} {type : TypeId} {pos : String} {after : Array Edge} {guard : Option (Nat × Bool)}

theorem intBin_run {op : BinOp} {k : IntKind} {x y : Int} {K : Lf → Prop} (hv : intBin op k x y K) (t : TypeId) :
    ∃ r : Lf, K r ∧ ∀ W', (binOp op t (.int k x) (.int k y)).run P W' = .ok r.val W' := by
  cases op <;> simp only [intBin] at hv
  case quo =>
    · obtain ⟨h0, hv⟩ := hv; exact ⟨_, hv, fun W' => by simp [binOp, Op.intDiv, h0, Lf.val]⟩
  case rem =>
    · obtain ⟨h0, hv⟩ := hv; exact ⟨_, hv, fun W' => by simp [binOp, Op.intDiv, h0, Lf.val]⟩
  case shl =>
    · obtain ⟨h0, hv⟩ := hv
      have h0 : ¬ y < 0 := by omega
      exact ⟨_, hv, fun W' => by simp [binOp, Op.shift, h0, Lf.val, shiftL]⟩
  case shr =>
    · obtain ⟨h0, hv⟩ := hv
      have h0 : ¬ y < 0 := by omega
      exact ⟨_, hv, fun W' => by simp [binOp, Op.shift, h0, Lf.val, shiftR]⟩
  all_goals exact ⟨_, hv, fun W' => by simp [binOp, Op.intArith, Op.intBits, Op.intCmp, Lf.val, bitop]⟩

theorem shift_run {op : BinOp} (hs : isShift op = true) {k k' : IntKind} {x y : Int} {K : Lf → Prop} (hv : intBin op k x y K) (t : TypeId) :
    ∃ r : Lf, K r ∧ ∀ W', (binOp op t (.int k x) (.int k' y)).run P W' = .ok r.val W' := by
  cases op <;> first
    | (cases hs; done)
    | (simp only [intBin] at hv
       obtain ⟨h0, hv⟩ := hv
       have h0 : ¬ y < 0 := by omega
       exact ⟨_, hv, fun W' => by simp [binOp, Op.shift, h0, Lf.val, shiftL, shiftR]⟩)

theorem strBin_run {op : BinOp} {x y : ByteArray} {K : Lf → Prop} (hv : strBin op x y K) (t : TypeId) :
    ∃ r : Lf, K r ∧ ∀ W', (binOp op t (.string x) (.string y)).run P W' = .ok r.val W' := by
  cases op <;> simp only [strBin] at hv
  case add =>
    obtain ⟨hle, hv⟩ := hv
    refine ⟨_, hv, fun W' => ?_⟩
    have hm : ¬ (((x.size + y.size : Nat) : Int) > IntKind.i64.max) := by simp only [IntKind.max, IntKind.signed, IntKind.bits, if_true]; omega
    have hm' := hm
    simp only [Int.natCast_add] at hm'
    simp only [binOp, Op.stringOp, if_neg hm, Sem.run_pure, Lf.val]
  all_goals first
    | exact hv.elim
    | exact ⟨_, hv, fun W' => by simp [binOp, Op.stringOp, Lf.val, strEq, strLt, beq_toListBytes]⟩

theorem eqlTest_run {op : BinOp} {b : Bool} {K : Lf → Prop} (hv : eqlTest op b K) {t : TypeId} {x y : Value}
    (he : ∀ W', (Op.equal t x y).run P W' = .ok b W') (h1 : binOp .eql t x y = (do pure (.bool (← Op.equal t x y)))) (h2 : binOp .neq t x y = (do pure (.bool (!(← Op.equal t x y))))) :
    ∃ r : Lf, K r ∧ ∀ W', (binOp op t x y).run P W' = .ok r.val W' := by
  cases op <;> simp only [eqlTest] at hv
  case eql => exact ⟨_, hv, fun W' => by rw [h1]; simp [he, Lf.val]⟩
  case neq => exact ⟨_, hv, fun W' => by rw [h2]; simp [he, Lf.val]⟩
  all_goals exact hv.elim

theorem flatOf_cons {n : Nat} {f : Field} {fs : List Field} {ks : List LT} (h : flatOf P n (f :: fs) = some ks) :
    f.name ≠ "_" ∧ f.offset = n ∧ aggK P f.type = some false ∧ ∃ ks', flatOf P (n + 1) fs = some ks' ∧
      ((∃ k, P.underlying f.type = some (.int k) ∧ ks = .int k :: ks') ∨ (P.underlying f.type = some .string ∧ ks = .str :: ks') ∨ (P.underlying f.type = some .bool ∧ ks = .bool :: ks')) := by
  simp only [flatOf] at h
  split at h
  · rename_i hc
    simp only [Bool.and_eq_true] at hc
    refine ⟨by simpa using hc.1, Nat.eq_of_beq_eq_true hc.2, ?_⟩
    split at h
    · rename_i k l hu hl
      refine ⟨by simp [aggK, hu], l, hl, .inl ⟨k, hu, (Option.some.inj h).symm⟩⟩
    · rename_i l hu hl
      exact ⟨by simp [aggK, hu], l, hl, .inr (.inl ⟨hu, (Option.some.inj h).symm⟩)⟩
    · rename_i l hu hl
      exact ⟨by simp [aggK, hu], l, hl, .inr (.inr ⟨hu, (Option.some.inj h).symm⟩)⟩
    · cases h
  · cases h

theorem lfEq_run (d : Nat) : ∀ (fs : List Field) (n : Nat) (xs ys l m : List Lf) (ks : List LT) (K : Bool → Prop), flatOf P n fs = some ks → lfEq ks l m K →
    (∀ j y, l[j]? = some y → xs[n + j]? = some y) → (∀ j y, m[j]? = some y → ys[n + j]? = some y) →
    ∃ b, K b ∧ ∀ W', (Op.eqFields (d + 1) (xs.map Lf.val).toArray (ys.map Lf.val).toArray fs).run P W' = .ok b W'
  | [], n, xs, ys, l, m, ks, K, hf, hv, hx, hy => by
    cases hf
    match l, m, hv with
    | [], [], hv => exact ⟨true, hv, fun _ => by simp [Op.eqFields]⟩
  | f :: fs, n, xs, ys, l, m, ks, K, hf, hv, hx, hy => by
    obtain ⟨hname, hoff, hagg, ks', hrest, hkind⟩ := flatOf_cons hf
    have step : ∀ (x y : Lf) (l' m' : List Lf) (b : Bool) (K' : Bool → Prop), l = x :: l' → m = y :: m' → (∀ W', (Op.equalIn (d + 1) f.type x.val y.val).run P W' = .ok b W') →
        lfEq ks' l' m' K' → (∀ r, K' r → K (b && r)) →
        ∃ b, K b ∧ ∀ W', (Op.eqFields (d + 1) (xs.map Lf.val).toArray (ys.map Lf.val).toArray (f :: fs)).run P W' = .ok b W' := by
      intro x y l' m' b K' e1 e2 he hv' hK
      subst e1; subst e2
      obtain ⟨r, hr, hrun⟩ := lfEq_run d fs (n + 1) xs ys l' m' ks' K' hrest hv' (fun j z hz => by have := hx (j + 1) z (by simpa using hz); rwa [show n + (j + 1) = n + 1 + j by omega] at this)
        (fun j z hz => by have := hy (j + 1) z (by simpa using hz); rwa [show n + (j + 1) = n + 1 + j by omega] at this)
      have hx0 : xs[f.offset]? = some x := by rw [hoff]; simpa using hx 0 x rfl
      have hy0 : ys[f.offset]? = some y := by rw [hoff]; simpa using hy 0 y rfl
      refine ⟨b && r, hK r hr, fun W' => ?_⟩
      cases b <;> simp [Op.eqFields, hname, part, run_isAgg hagg, hx0, hy0, he, hrun]
    rcases hkind with ⟨k0, hu, rfl⟩ | ⟨hu, rfl⟩ | ⟨hu, rfl⟩
    · match l, m, hv with
      | .int k x :: l', .int k' y :: m', hv =>
        simp only [lfEq] at hv
        split at hv
        · rename_i hk
          have hk := kcode_inj hk
          subst hk
          exact step (.int k x) (.int k y) l' m' (x == y) (fun r => K ((x == y) && r)) rfl rfl (fun W' => run_equalIn_int W' d _ k k0 x y hu) hv (fun _ h => h)
        · exact hv.elim
    · match l, m, hv with
      | .str x :: l', .str y :: m', hv =>
        exact step (.str x) (.str y) l' m' (x == y) (fun r => K ((x == y) && r)) rfl rfl (fun W' => by rw [beq_toListBytes]; exact run_equalIn_string W' d _ x y hu) hv (fun _ h => h)
    · match l, m, hv with
      | .bool x :: l', .bool y :: m', hv =>
        exact step (.bool x) (.bool y) l' m' (x == y) (fun r => K ((x == y) && r)) rfl rfl (fun W' => run_equalIn_bool' W' d _ x y hu) hv (fun _ h => h)

theorem eq_slc (d : Nat) {t e : TypeId} (hu : P.underlying t = some (.slice e)) (n : Slc) (l c l' c' : Nat) (W' : World) :
    (Op.equalIn (d + 1) t (.slice (sadr n) l c) (.slice none l' c')).run P W' = .ok n.a.isNone W' := by
  cases hn : n.a with
  | none => rw [sadr_none hn]; simp [Op.equalIn, run_underlying hu]
  | some p => obtain ⟨b, o⟩ := p; rw [sadr_some hn rfl]; simp [Op.equalIn, run_underlying hu]

theorem eq_map (d : Nat) {t k e : TypeId} (hu : P.underlying t = some (.map k e)) (n : Option Nat) (W' : World) :
    (Op.equalIn (d + 1) t (.map n) (.map none)).run P W' = .ok n.isNone W' := by
  cases n <;> simp [Op.equalIn, run_underlying hu]

theorem eq_ptr (d : Nat) {t e : TypeId} (hu : P.underlying t = some (.pointer e)) (n : Option (Nat × Nat)) (W' : World) :
    (Op.equalIn (d + 1) t (.pointer (padr n)) (.pointer none)).run P W' = .ok n.isNone W' := by
  cases n with
  | none => simp [Op.equalIn, run_underlying hu, padr]
  | some p => obtain ⟨b, o⟩ := p; simp [Op.equalIn, run_underlying hu, padr]

theorem eq_iface (d : Nat) {t : TypeId} {ms : Array (String × TypeId)} (hu : P.underlying t = some (.interface ms)) (u : TypeId) (v : Value) (W' : World) :
    (Op.equalIn (d + 1) t (.iface u v) .nilIface).run P W' = .ok false W' := by
  simp [Op.equalIn, run_underlying hu]
theorem eq_nilI (d : Nat) {t : TypeId} {ms : Array (String × TypeId)} (hu : P.underlying t = some (.interface ms)) (W' : World) :
    (Op.equalIn (d + 1) t .nilIface .nilIface).run P W' = .ok true W' := by
  simp [Op.equalIn, run_underlying hu]
theorem guard_nil (d : Nat) {t : TypeId} {ms : Array (String × TypeId)} (hu : P.underlying t = some (.interface ms)) (hm : ms.isEmpty = true) (W' : World) :
    (Op.eqGuardIn (d + 1) t .nilIface .nilIface).run P W' = .ok false W' := by
  simp [Op.eqGuardIn, run_underlying hu, hm]

theorem bin_run {op : BinOp} {t : TypeId} {x y : SV} {K : Lf → Prop} (hv : bin P op t x y K) {vx vy : Value} (hx : SVr st x vx) (hy : SVr st y vy) (ox oy : Operand) :
    ∃ r : Lf, K r ∧ ∀ W', (do eqGuard op t ox oy vx vy; binOp op t vx vy : Sem Value).run P W' = .ok r.val W' := by
  unfold bin at hv
  split at hv
  · rename_i k n k' m
    simp only [SVr, VV.val, Lf.val] at hx hy
    subst hx; subst hy
    have hg : ∀ (o : BinOp) (W' : World), (eqGuard o t ox oy (.int k n) (.int k' m)).run P W' = .ok () W' := fun o W' => by unfold eqGuard; split <;> rfl
    split at hv
    · rename_i hs
      obtain ⟨r, hr, hrun⟩ := shift_run (P := P) hs (k' := k') hv t
      exact ⟨r, hr, fun W' => by rw [Sem.run_bind, hg]; exact hrun W'⟩
    · split at hv
      · rename_i hk
        have hk := kcode_inj hk
        subst hk
        obtain ⟨r, hr, hrun⟩ := intBin_run (P := P) hv t
        exact ⟨r, hr, fun W' => by rw [Sem.run_bind, hg]; exact hrun W'⟩
      · exact hv.elim
  · rename_i n m
    simp only [SVr, VV.val, Lf.val] at hx hy
    subst hx; subst hy
    have hg : ∀ (o : BinOp) (W' : World), (eqGuard o t ox oy (.string n) (.string m)).run P W' = .ok () W' := fun o W' => by unfold eqGuard; split <;> rfl
    obtain ⟨r, hr, hrun⟩ := strBin_run (P := P) hv t
    exact ⟨r, hr, fun W' => by rw [Sem.run_bind, hg]; exact hrun W'⟩
  · rename_i n m
    simp only [SVr, VV.val, Lf.val] at hx hy
    subst hx; subst hy
    have hg : ∀ (o : BinOp) (W' : World), (eqGuard o t ox oy (.bool n) (.bool m)).run P W' = .ok () W' := fun o W' => by unfold eqGuard; split <;> rfl
    split at hv
    · rename_i hu
      obtain ⟨r, hr, hrun⟩ := eqlTest_run (P := P) hv (t := t) (x := .bool n) (y := .bool m) (fun W' => run_equalIn_bool' W' _ t n m hu) rfl rfl
      exact ⟨r, hr, fun W' => by rw [Sem.run_bind, hg]; exact hrun W'⟩
    · exact hv.elim
  · rename_i n m
    simp only [SVr, VV.val, Lf.val] at hx hy
    subst hx; subst hy
    have hg : ∀ (o : BinOp) (W' : World), (eqGuard o t ox oy (.slice (sadr n) n.len n.cap) (.slice (sadr m) m.len m.cap)).run P W' = .ok () W' := fun o W' => by unfold eqGuard; split <;> rfl
    split at hv
    · rename_i e hu hm
      have he : ∀ W', (Op.equal t (.slice (sadr n) n.len n.cap) (.slice (sadr m) m.len m.cap)).run P W' = .ok n.a.isNone W' := by
        intro W'
        rw [sadr_none hm]
        exact eq_slc 9999 hu n _ _ _ _ W'
      obtain ⟨r, hr, hrun⟩ := eqlTest_run (P := P) hv he rfl rfl
      exact ⟨r, hr, fun W' => by rw [Sem.run_bind, hg]; exact hrun W'⟩
    · exact hv.elim
  · rename_i n
    simp only [SVr, VV.val, Lf.val] at hx hy
    subst hx; subst hy
    have hg : ∀ (o : BinOp) (W' : World), (eqGuard o t ox oy (.map n) (.map none)).run P W' = .ok () W' := fun o W' => by unfold eqGuard; split <;> rfl
    split at hv
    · rename_i k e hu
      have he : ∀ W', (Op.equal t (.map n) (.map none)).run P W' = .ok n.isNone W' := fun W' => eq_map 9999 hu n W'
      obtain ⟨r, hr, hrun⟩ := eqlTest_run (P := P) hv he rfl rfl
      exact ⟨r, hr, fun W' => by rw [Sem.run_bind, hg]; exact hrun W'⟩
    · exact hv.elim
  · rename_i n
    simp only [SVr, VV.val, Lf.val] at hx hy
    subst hx; subst hy
    have hg : ∀ (o : BinOp) (W' : World), (eqGuard o t ox oy (.pointer (padr n)) (.pointer (padr none))).run P W' = .ok () W' := fun o W' => by unfold eqGuard; split <;> rfl
    split at hv
    · rename_i e hu
      have he : ∀ W', (Op.equal t (.pointer (padr n)) (.pointer (padr none))).run P W' = .ok n.isNone W' := fun W' => by
        exact eq_ptr 9999 hu n W'
      obtain ⟨r, hr, hrun⟩ := eqlTest_run (P := P) hv he (by cases n <;> rfl) (by cases n <;> rfl)
      exact ⟨r, hr, fun W' => by rw [Sem.run_bind, hg]; exact hrun W'⟩
    · exact hv.elim
  · rename_i u v
    have hx : vx = .iface u v := hx
    have hy : vy = .nilIface := hy
    subst hx; subst hy
    have hg : ∀ (o : BinOp) (W' : World), (eqGuard o t ox oy (.iface u v) .nilIface).run P W' = .ok () W' := fun o W' => by unfold eqGuard; split <;> rfl
    split at hv
    · rename_i ms hu
      have he : ∀ W', (Op.equal t (.iface u v) .nilIface).run P W' = .ok false W' := fun W' => eq_iface 9999 hu u v W'
      obtain ⟨r, hr, hrun⟩ := eqlTest_run (P := P) hv he rfl rfl
      exact ⟨r, hr, fun W' => by rw [Sem.run_bind, hg]; exact hrun W'⟩
    · exact hv.elim
  · have hx : vx = .nilIface := hx
    have hy : vy = .nilIface := hy
    subst hx; subst hy
    split at hv
    · rename_i ms hu
      split at hv
      · rename_i hem
        have hg : ∀ (o : BinOp) (W' : World), (eqGuard o t ox oy .nilIface .nilIface).run P W' = .ok () W' := fun o W' => by
          have hI : (Op.eqGuardIn Op.maxDepth t .nilIface .nilIface).run P W' = .ok false W' := guard_nil 9999 hu hem W'
          unfold eqGuard
          cases o <;> simp [hI] <;> (cases ox <;> cases oy <;> simp [hI])
        have he : ∀ W', (Op.equal t .nilIface .nilIface).run P W' = .ok true W' := fun W' => eq_nilI 9999 hu W'
        obtain ⟨r, hr, hrun⟩ := eqlTest_run (P := P) hv he rfl rfl
        exact ⟨r, hr, fun W' => by rw [Sem.run_bind, hg]; exact hrun W'⟩
      · exact hv.elim
    · exact hv.elim
  · rename_i l m
    simp only [SVr, VV.val] at hx hy
    subst hx; subst hy
    split at hv
    · rename_i ks hks
      unfold flatStruct at hks
      split at hks
      · rename_i fs hu
        split at hks
        · rename_i hst hge
          obtain ⟨b, hb, hrun⟩ := lfEq_run (P := P) 9998 fs.toList 0 l m l m ks _ hks hv (fun j y hj => by simpa using hj) (fun j y hj => by simpa using hj)
          have hfo : P.fieldsOf t = fs := by simp [Program.fieldsOf, hu]
          have he : ∀ W', (Op.equal t (.agg (l.map Lf.val).toArray) (.agg (m.map Lf.val).toArray)).run P W' = .ok b W' := by
            intro W'
            unfold Op.equal Op.maxDepth
            rw [run_equalIn_struct W' 9999 t _ _ (by rw [hfo]; exact hu) hst, hfo]
            exact hrun W'
          have hg : ∀ (o : BinOp) (W' : World), (eqGuard o t ox oy (.agg (l.map Lf.val).toArray) (.agg (m.map Lf.val).toArray)).run P W' = .ok () W' := fun o W' => by
            cases o <;> simp [eqGuard, hge]
          obtain ⟨r, hr, hrun2⟩ := eqlTest_run (P := P) hb he rfl rfl
          exact ⟨r, hr, fun W' => by rw [Sem.run_bind, hg]; exact hrun2 W'⟩
        · cases hks
      · cases hks
    · exact hv.elim
  · exact hv.elim

theorem s_typeAssert (r : Rel st h a W) {x : Operand} {xt want : TypeId} {ok : Bool} (hv : vcS P ⟨dst, .typeAssert x xt want ok, type, pos, after, guard⟩ st h K) : YS P ⟨dst, .typeAssert x xt want ok, type, pos, after, guard⟩ st h a K := by
  simp only [vcS] at hv
  have hx := r.ev x
  split at hv
  · exact hv.elim
  · rename_i du hne hu
    have fails : ∀ (vx : Value), a.eval x = vx → (vx = .nilIface ∨ ∃ t v, vx = .iface t v ∧ t ≠ want) → ok = true → (opt (zeroOf P want) fun z => K (.tup [z, .lf (.bool false)]) .tt) →
        YS P ⟨dst, .typeAssert x xt want ok, type, pos, after, guard⟩ st h a K := by
      intro vx hev hcase hok hv'
      clear hv
      obtain ⟨z, hz, hv'⟩ := opt_some hv'
      obtain ⟨i, hi, hiz, _, _⟩ := zeroOf_run hz
      subst hok
      refine .tt (.tuple #[z.val, .bool false]) hv' (by simp [SVr, VV.val, Lf.val]) fun W' => ?_
      rcases hcase with rfl | ⟨t, v, rfl, hne'⟩
      · cases du <;> first | exact absurd rfl (hne _) | simp [execOp, hev, Instr.typeAssert, run_underlying hu, zeroValue, typeInfo, run_program, hi, hiz]
      · cases du <;> first | exact absurd rfl (hne _) | simp [execOp, hev, Instr.typeAssert, run_underlying hu, hne', zeroValue, typeInfo, run_program, hi, hiz]
    split at hv
    · rename_i t v he
      rw [he] at hx
      have hx : a.eval x = .iface t v := hx
      split at hv
      · rename_i ht
        have ht := Nat.eq_of_beq_eq_true ht
        subst ht
        obtain ⟨hone, hv⟩ : v.oneCell' = true ∧ _ := by
          unfold okIf at hv
          split at hv
          · rename_i h1; exact ⟨h1, hv⟩
          · exact hv.elim
        cases ok with
        | true =>
          refine .tt (.tuple #[v, .bool true]) hv (by show Value.tuple #[v, .bool true] = Value.tuple (([VV.lf (Lf.ofVal v), VV.lf (Lf.bool true)]).map VV.val).toArray; simp only [List.map_cons, List.map_nil, VV.val, Lf.ofVal_val hone]; rfl) fun W' => ?_
          cases du <;> first | exact absurd rfl (hne _) | simp [execOp, hx, Instr.typeAssert, run_underlying hu]
        | false =>
          refine .tt v hv (by show v = (Lf.ofVal v).val; rw [Lf.ofVal_val hone]) fun W' => ?_
          cases du <;> first | exact absurd rfl (hne _) | simp [execOp, hx, Instr.typeAssert, run_underlying hu]
      · rename_i ht
        have ht : t ≠ want := fun e => by subst e; simp at ht
        split at hv
        · exact fails _ hx (.inr ⟨t, v, rfl, ht⟩) rfl hv
        · exact hv.elim
    · rename_i he
      rw [he] at hx
      have hx : a.eval x = .nilIface := hx
      split at hv
      · exact fails _ hx (.inl rfl) rfl hv
      · exact hv.elim
    · exact hv.elim
  · exact hv.elim

theorem eq_iface' (d : Nat) {t : TypeId} {ms : Array (String × TypeId)} (hu : P.underlying t = some (.interface ms)) (u : TypeId) (v : Value) (W' : World) :
    (Op.equalIn (d + 1) t .nilIface (.iface u v)).run P W' = .ok false W' := by
  simp [Op.equalIn, run_underlying hu]
theorem eq_ifne (d : Nat) {t : TypeId} {ms : Array (String × TypeId)} (hu : P.underlying t = some (.interface ms)) {u u' : TypeId} (hne : u ≠ u') (v v' : Value) (W' : World) :
    (Op.equalIn (d + 1) t (.iface u v) (.iface u' v')).run P W' = .ok false W' := by
  simp [Op.equalIn, run_underlying hu, hne]
theorem eq_ifint (d : Nat) {t : TypeId} {ms : Array (String × TypeId)} (hu : P.underlying t = some (.interface ms)) {u : TypeId} {i : TypeInfo} (hi : P.info? u = some i) (hc : i.comparable = true) {k0 : IntKind} (hk : P.underlying u = some (.int k0)) (k : IntKind) (m n : Int) (W' : World) :
    (Op.equalIn (d + 1 + 1) t (.iface u (.int k m)) (.iface u (.int k n))).run P W' = .ok (m == n) W' := by
  have hq : (Op.equalIn (d + 1) u (.int k m) (.int k n)).run P W' = .ok (m == n) W' := run_equalIn_int W' d _ k k0 m n hk
  have ht : (typeInfo u).run P W' = .ok i W' := by simp [typeInfo, hi]
  generalize hE : Op.equalIn (d + 1) u (.int k m) (.int k n) = E at hq
  simp [Op.equalIn.eq_def (d + 1 + 1), run_underlying hu, ht, hc, hE, hq]
theorem ifEq_run {t : TypeId} {ms : Array (String × TypeId)} (hu : P.underlying t = some (.interface ms)) {a b : Value} {r : Bool} (x y : Operand) (h : IfEq P a b (isConst y || ms.isEmpty) r) {vx vy : Value} (hx : SVr st (.v (.lf (.raw a))) vx) (hy : SVr st (.v (.lf (.raw b))) vy) :
    (∀ (o : BinOp) (W' : World), (eqGuard o t x y vx vy).run P W' = .ok () W') ∧ (∀ W', (Op.equal t vx vy).run P W' = .ok r W') ∧
    binOp .eql t vx vy = (do pure (.bool ((← Op.equal t vx vy)))) ∧ binOp .neq t vx vy = (do pure (.bool (!(← Op.equal t vx vy)))) := by
  simp only [SVr, VV.val, Lf.val] at hx hy
  unfold IfEq at h
  split at h
  · have hx : vx = .nilIface := hx
    have hy : vy = .nilIface := hy
    subst hx; subst hy
    obtain ⟨h, hr⟩ := h
    subst hr
    refine ⟨fun o W' => ?_, fun W' => eq_nilI 9999 hu W', rfl, rfl⟩
    cases hm : ms.isEmpty with
    | true =>
      have hI : (Op.eqGuardIn Op.maxDepth t .nilIface .nilIface).run P W' = .ok false W' := guard_nil 9999 hu hm W'
      unfold eqGuard
      cases o <;> simp [hI] <;> (cases x <;> cases y <;> simp [hI])
    | false =>
      rw [hm, Bool.or_false] at h
      unfold isConst at h
      split at h
      · cases o <;> cases x <;> rfl
      · cases h
  · have hx : vx = .nilIface := hx
    have hy : vy = _ := hy
    subst hx; subst hy; subst h
    exact ⟨fun o W' => by cases o <;> rfl, fun W' => eq_iface' 9999 hu _ _ W', rfl, rfl⟩
  · have hx : vx = _ := hx
    have hy : vy = .nilIface := hy
    subst hx; subst hy; subst h
    exact ⟨fun o W' => by cases o <;> rfl, fun W' => eq_iface 9999 hu _ _ W', rfl, rfl⟩
  · rename_i tx u ty v
    have hx : vx = .iface tx u := hx
    have hy : vy = .iface ty v := hy
    subst hx; subst hy
    refine ⟨fun o W' => by cases o <;> rfl, fun W' => ?_, rfl, rfl⟩
    rcases h with ⟨hne, hr⟩ | ⟨he, ⟨i, hi, hc⟩, k0, k, m, n, hk, hm, hn, hr⟩
    · subst hr
      exact eq_ifne 9999 hu hne _ _ W'
    · subst he; subst hm; subst hn; subst hr
      exact eq_ifint 9998 hu hi hc hk k m n W'
  · exact h.elim

theorem s_binOp (r : Rel st h a W) {op : BinOp} {t yt : TypeId} {x y : Operand} (hv : vcS P ⟨dst, .binOp op t x y yt, type, pos, after, guard⟩ st h K) : YS P ⟨dst, .binOp op t x y yt, type, pos, after, guard⟩ st h a K := by
  simp only [vcS, vcBin] at hv
  have hx := r.ev x
  have hy := r.ev y
  have plain : (bin P op t (st.ev x) (st.ev y) fun r => K (.v (.lf r)) .tt) → YS P ⟨dst, .binOp op t x y yt, type, pos, after, guard⟩ st h a K := fun hv => by
    obtain ⟨z, hz, hrun⟩ := bin_run (P := P) (st := st) hv hx hy x y
    refine .tt _ hz rfl fun W' => ?_
    simp only [execOp]
    rw [Sem.run_bind, hrun]
    rfl
  split at hv
  · rename_i p q he he'
    rw [he] at hx; rw [he'] at hy
    split at hv
    · rename_i ms hu
      obtain ⟨b, hb, hv⟩ := hv
      obtain ⟨hg, hq, hf⟩ := ifEq_run (P := P) (t := t) hu x y hb hx hy
      unfold eqlTest at hv
      split at hv
      · refine .tt _ hv rfl fun W' => ?_
        simp only [execOp]
        rw [Sem.run_bind, Sem.run_bind, hg, Result.andThen_ok, hf.1]
        simp [hq W', VV.val, Lf.val]
      · refine .tt _ hv rfl fun W' => ?_
        simp only [execOp]
        rw [Sem.run_bind, Sem.run_bind, hg, Result.andThen_ok, hf.2]
        simp [hq W', VV.val, Lf.val]
      · exact hv.elim
    · exact hv.elim
  split at hv
  · exact plain hv
  · split at hv
    · rename_i p q he he'
      split at hv
      · rename_i e hu
        split at hv
        · exact hv.elim
        · rename_i n hn
          obtain ⟨hp, hv⟩ := hv
          rw [he] at hx; rw [he'] at hy
          simp only [SVr, VV.val, Lf.val] at hx hy
          have hs : szOf P e ≠ 0 := by rw [hn]; exact Nat.succ_ne_zero n
          have hg : ∀ (o : BinOp) (W' : World), (eqGuard o t x y (.pointer (padr p)) (.pointer (padr q))).run P W' = .ok () W' := fun o W' => by unfold eqGuard; split <;> rfl
          have key : ∀ W' : World, PEq W'.heap p q → (Op.equal t (.pointer (padr p)) (.pointer (padr q))).run P W' = .ok (ptrEq p q) W' := fun W' h' => eq_ptr2 hu hs h'
          unfold eqlTest at hv
          split at hv
          · refine ⟨_, _, _, hv, rfl, hp, fun _ _ e => (by cases e), fun W' hW' => ?_⟩
            have := key W' hW'
            simp only [execOp, hx, hy]
            rw [Sem.run_bind, Sem.run_bind, hg]
            have hb : binOp .eql t (.pointer (padr p)) (.pointer (padr q)) = (do pure (.bool ((← Op.equal t (.pointer (padr p)) (.pointer (padr q)))))) := by cases p <;> cases q <;> rfl
            rw [Result.andThen_ok, hb]
            simp [this, VV.val, Lf.val]
          · refine ⟨_, _, _, hv, rfl, hp, fun _ _ e => (by cases e), fun W' hW' => ?_⟩
            have := key W' hW'
            simp only [execOp, hx, hy]
            rw [Sem.run_bind, Sem.run_bind, hg]
            have hb : binOp .neq t (.pointer (padr p)) (.pointer (padr q)) = (do pure (.bool (!(← Op.equal t (.pointer (padr p)) (.pointer (padr q)))))) := by cases p <;> cases q <;> rfl
            rw [Result.andThen_ok, hb]
            simp [this, VV.val, Lf.val]
          · exact hv.elim
      · exact hv.elim
    · exact plain hv

theorem s_convert (r : Rel st h a W) {src dt : TypeId} {x : Operand} (hv : vcS P ⟨dst, .convert src dt x, type, pos, after, guard⟩ st h K) : YS P ⟨dst, .convert src dt x, type, pos, after, guard⟩ st h a K := by
  simp only [vcS] at hv
  have hx := r.ev x
  split at hv
  · rename_i d0 k k' n hs hd he
    rw [he] at hx
    simp only [SVr, VV.val, Lf.val] at hx
    refine .tt _ hv rfl fun _ => ?_
    simp [execOp, hx, convert, run_underlying hs, run_underlying hd, Conv.intToInt, VV.val, Lf.val]
  · rename_i d0 s hs hd he
    rw [he] at hx
    simp only [SVr, VV.val, Lf.val] at hx
    refine .tt _ hv rfl fun _ => ?_
    simp [execOp, hx, convert, run_underlying hs, run_underlying hd, VV.val, Lf.val]
  · rename_i e s hs hd he
    rw [he] at hx
    simp only [SVr, VV.val, Lf.val] at hx
    split at hv
    · rename_i hu
      obtain ⟨z, ⟨hz, hb⟩, hv⟩ := hv
      have hfold : ∀ (l : List UInt8) (acc : ByteArray), (l.map fun c => ((c.toNat : Nat) : Int)).foldl (fun r n => r.push (UInt8.ofNat n.toNat)) acc = ⟨acc.data ++ l.toArray⟩ := by
        intro l
        induction l with
        | nil => intro acc; simp
        | cons c l ih =>
          intro acc
          simp only [List.map_cons, List.foldl_cons, ih]
          simp [ByteArray.push]
      have hmap : (z.data.toList.map fun c => (Lf.int .u8 c.toNat)).map Lf.val = (z.data.toList.map fun c => ((c.toNat : Nat) : Int)).map (Value.int .u8) := by
        simp [List.map_map, Function.comp_def, Lf.val]
      cases hsa : s.a with
      | none =>
        rw [hsa] at hv
        rw [sadr_none hsa] at hx
        rcases hb with h0 | ⟨b, off, hsome, _⟩
        · have hz0 : z = ByteArray.empty := by
            rw [h0] at hz
            simpa using hz
          refine .tt _ hv rfl fun _ => ?_
          subst hz0
          simp [execOp, hx, convert, run_underlying hs, run_underlying hd, run_underlying hu, padr, Conv.bytesToString, VV.val, Lf.val]
        · rw [hsa] at hsome; cases hsome
      | some p =>
        obtain ⟨b, off⟩ := p
        rw [hsa] at hv
        rw [sadr_some hsa rfl] at hx
        have hb' : cellsAt h b off (z.data.toList.map fun c => .int .u8 c.toNat) := by
          rcases hb with h0 | ⟨b', off', hsome, _, hc⟩
          · have : z.data.toList = [] := by
              rw [h0] at hz
              exact List.length_eq_zero_iff.1 (by simpa using hz)
            rw [this]; trivial
          · rw [hsa] at hsome; cases hsome; exact hc
        have hl0 : ∀ W' : World, cellsAt W'.heap b off (z.data.toList.map fun c => .int .u8 c.toNat) → ∀ i v, ((z.data.toList.map fun c => (Lf.int .u8 c.toNat)).map Lf.val)[i]? = some v → W'.cell? ((⟨b, off, @Sp.v s.sp⟩ : Addr).add i) = some v := by
          intro W' hW'
          rcases hb with h0 | ⟨b', off', hsome, hp, hc⟩
          · have : z.data.toList = [] := by
              rw [h0] at hz
              exact List.length_eq_zero_iff.1 (by simpa using hz)
            rw [this]; intro i v hi; simp at hi
          · rw [show @Sp.v s.sp = none from hp]
            exact cell_of_at rfl hW'
        refine ⟨_, _, _, hv, rfl, hb', fun id l' e => (by cases e), fun W' hW' => ?_⟩
        have hl := run_loadCells_list (P := P) W' ⟨b, off, @Sp.v s.sp⟩ _ (hl0 W' hW')
        rw [hmap] at hl
        have hlen : ((z.data.toList.map fun c => ((c.toNat : Nat) : Int)).map (Value.int .u8)).length = s.len := by simpa using hz
        rw [hlen] at hl
        have h2 := run_bytesToString (P := P) W' ⟨b, off, @Sp.v s.sp⟩ s.len s.cap _ hl
        rw [hfold] at h2
        simp [execOp, hx, run_convert_bytes_string _ _ _ _ _ _ _ hs hu hd, padr, VV.val, Lf.val]
        rw [h2]
        simp
    · exact hv.elim
  · exact hv.elim

theorem s_call (r : Rel st h a W) {c : Go.Call} (hv : vcS P ⟨dst, .call c, type, pos, after, guard⟩ st h K) : YS P ⟨dst, .call c, type, pos, after, guard⟩ st h a K := by
  obtain ⟨cal, args, tys⟩ := c
  simp only [vcS, vcSCall] at hv
  split at hv
  · rename_i x t ha ht
    have hx := r.ev x
    obtain rfl : args = #[x] := Array.toList_inj.1 ha
    obtain rfl : tys = #[t] := Array.toList_inj.1 ht
    split at hv
    · rename_i s hu he
      rw [he] at hx
      simp only [SVr, VV.val, Lf.val] at hx
      exact .tt _ hv rfl fun _ => by simp [execOp, resolve, invoke, builtin, Builtin.len_, hx, run_underlying hu, goInt, VV.val, Lf.val]
    · rename_i s hu he
      rw [he] at hx
      simp only [SVr, VV.val, Lf.val] at hx
      exact .tt _ hv rfl fun _ => by simp [execOp, resolve, invoke, builtin, Builtin.len_, hx, run_underlying hu, goInt, VV.val, Lf.val]
    · rename_i k e m hu he
      rw [he] at hx
      simp only [SVr, VV.val, Lf.val] at hx
      obtain ⟨n, hn, hv⟩ := hv
      refine ⟨_, _, _, hv, rfl, hn, fun _ _ e => (by cases e), fun W' hW' => ?_⟩
      cases m with
      | none =>
        have : n = 0 := hW'
        subst this
        simp [execOp, resolve, invoke, builtin, Builtin.len_, hx, run_underlying hu, goInt, VV.val, Lf.val]
      | some r' =>
        obtain ⟨es, clock, hr, rfl⟩ := hW'
        have hg := MapKept.run_getObj_map (P := P) hr
        simp [execOp, resolve, invoke, builtin, Builtin.len_, hx, run_underlying hu, goInt, VV.val, Lf.val, hg]
    · exact hv.elim
  · rename_i x t ha ht
    have hx := r.ev x
    obtain rfl : args = #[x] := Array.toList_inj.1 ha
    obtain rfl : tys = #[t] := Array.toList_inj.1 ht
    split at hv
    · rename_i s hu he
      rw [he] at hx
      simp only [SVr, VV.val, Lf.val] at hx
      exact .tt _ hv rfl fun _ => by simp [execOp, resolve, invoke, builtin, Builtin.cap_, hx, run_underlying hu, goInt, VV.val, Lf.val]
    · exact hv.elim
  · rename_i x y ha
    have hx := r.ev x
    have hy := r.ev y
    obtain rfl : args = #[x, y] := Array.toList_inj.1 ha
    split at hv
    · rename_i k n k' m he he'
      rw [he] at hx; rw [he'] at hy
      simp only [SVr, VV.val, Lf.val] at hx hy
      exact .tt _ hv rfl fun _ => by simp [execOp, resolve, invoke, builtin, Builtin.max_, Builtin.max2, hx, hy, VV.val, Lf.val]
    · exact hv.elim
  · rename_i x y ha
    have hx := r.ev x
    have hy := r.ev y
    obtain rfl : args = #[x, y] := Array.toList_inj.1 ha
    split at hv
    · rename_i k n k' m he he'
      rw [he] at hx; rw [he'] at hy
      simp only [SVr, VV.val, Lf.val] at hx hy
      exact .tt _ hv rfl fun _ => by simp [execOp, resolve, invoke, builtin, Builtin.min_, Builtin.min2, hx, hy, VV.val, Lf.val]
    · exact hv.elim
  · exact hv.elim

theorem vcS_sound {o : Oper} (r : Rel st h a W) (hv : vcS P o st h K) : YS P o st h a K := by
  obtain ⟨dst, op, type, pos, after, guard⟩ := o
  cases op
  case move => exact s_move r hv
  case assign => exact s_assign r hv
  case pick => exact s_pick r hv
  case nilCheck => exact s_nilCheck r hv
  case fieldAddr => exact s_fieldAddr r hv
  case field => exact s_field r hv
  case indexAddr => exact s_indexAddr r hv
  case typeAssert => exact s_typeAssert r hv
  case index => exact s_index r hv
  case load => exact s_load r hv
  case binOp => exact s_binOp r hv
  case unOp => exact s_unOp r hv
  case convert => exact s_convert r hv
  case extract => exact s_extract r hv
  case slice => exact s_slice r hv
  case makeInterface => exact s_makeInterface r hv
  case call => exact s_call r hv
  case build => exact s_build r hv
  case lookup => exact s_lookup r hv
  case makeFunc => exact s_makeFunc r hv
  all_goals exact hv.elim

end
end Go.V
namespace Go.V

structure Ev (st st' : St) : Prop where
  some : ∀ i l, st.loc i = some l → ∀ l', st'.loc i = some l' → l'.b = l.b ∧ l'.t = l.t ∧ l.ver ≤ l'.ver ∧ (l'.ver = l.ver → l' = l)
  ds : ∃ l, st'.ds = l ++ st.ds
  none : ∀ i, i < st.ls.length → st.loc i = none → st'.loc i = none
  len : st.ls.length ≤ st'.ls.length

theorem St.loc_lt {st : St} {i : Nat} {l : Loc} (h : st.loc i = some l) : i < st.ls.length := by
  unfold St.loc at h
  rcases Nat.lt_or_ge i st.ls.length with h' | h'
  · exact h'
  · rw [List.getElem?_eq_none h'] at h; cases h

theorem Ev.refl (st : St) : Ev st st := ⟨fun i l h l' h' => by rw [h] at h'; cases h'; exact ⟨rfl, rfl, Nat.le_refl _, fun _ => rfl⟩, ⟨[], rfl⟩, fun _ _ h => h, Nat.le_refl _⟩

theorem Ev.trans {a b c : St} (h : Ev a b) (k : Ev b c) : Ev a c := by
  refine ⟨fun i l hl l'' hl'' => ?_, (by obtain ⟨l1, h1⟩ := h.ds; obtain ⟨l2, h2⟩ := k.ds; exact ⟨l2 ++ l1, by rw [h2, h1, List.append_assoc]⟩), fun i hi hn => k.none i (Nat.lt_of_lt_of_le hi h.len) (h.none i hi hn), Nat.le_trans h.len k.len⟩
  cases hb : b.loc i with
  | none =>
    have := k.none i (Nat.lt_of_lt_of_le (St.loc_lt hl) h.len) hb
    rw [this] at hl''; cases hl''
  | some l' =>
    obtain ⟨e1, t1, v1, s1⟩ := h.some i l hl l' hb
    obtain ⟨e2, t2, v2, s2⟩ := k.some i l' hb l'' hl''
    refine ⟨e2.trans e1, t2.trans t1, Nat.le_trans v1 v2, fun e => ?_⟩
    have : l'.ver = l.ver := by omega
    rw [s2 (by omega), s1 this]

theorem Ev.of_ls {a b : St} (h : b.ls = a.ls) (hd : b.ds = a.ds := by rfl) : Ev a b := by
  have : ∀ i, b.loc i = a.loc i := fun i => by simp [St.loc, h]
  refine ⟨fun i l hl l' hl' => ?_, ⟨[], hd⟩, fun i _ hn => by rw [this]; exact hn, by rw [h]; exact Nat.le_refl _⟩
  rw [this, hl] at hl'; cases hl'; exact ⟨rfl, rfl, Nat.le_refl _, fun _ => rfl⟩

def PMn0 (st : St) (a : Act) (o : Oper) (W : World) (K : SV → St → Heap → Prop) (a' : Act) (W' : World) : Prop :=
  ∃ s st' v, K s st' W'.heap ∧ a' = a.put o.dst v ∧ Rel st' W'.heap a W' ∧ SVr st' s v ∧ Ev st st' ∧ Out W W'
def PMn (st : St) (a : Act) (o : Oper) (W : World) (K : SV → St → Heap → Prop) (a' : Act) (W' : World) : Prop :=
  PMn0 st a o W K a' W' ∨ ∃ ds st', K .unk st' W'.heap ∧ a' = ({ a with defers := ds } : Act).put o.dst undef ∧ Rel st' W'.heap { a with defers := ds } W' ∧ Ev st st' ∧ Out W W'
def PMp (st : St) (a : Act) (W : World) (Qp : List PanicEntry → St → Heap → Prop) (e : Exit) (a' : Act) (W' : World) : Prop :=
  ∃ c st', e = .panic c ∧ Qp c st' W'.heap ∧ Rel st' W'.heap a' W' ∧ Ev st st' ∧ a' = a ∧ Out W W'

def PM (P : Program) (o : Oper) (st : St) (a : Act) (W : World) (K : SV → St → Heap → Prop) (Qp : List PanicEntry → St → Heap → Prop) : Prop :=
  ∀ ro, (isDefer o = true → ro = none) → o.wpIn (FR ro) 0 P a W (PMn st a o W K) (PMp st a W Qp)

section
variable {P : Program} {st : St} {h : Heap} {a : Act} {W : World} {K : SV → St → Heap → Prop} {Qp : List PanicEntry → St → Heap → Prop}
  {dst : Option Tmp} {type : TypeId} {pos : String} {after : Array Edge} {guard : Option (Nat × Bool)}

theorem PM.value {o : Oper} {v : Value} {W' : World} (hr : (execOp a.eval o).run P W = .ok (.value v) W') (hn : PMn0 st a o W K (a.put o.dst v) W') : PM P o st a W K Qp := by
  exact fun ro _ => wpIn_of_run hr (fun _ _ e => by cases e) (.inl hn)

theorem PM.skip {o : Oper} {W' : World} (hr : (execOp a.eval o).run P W = .ok .skip W') (hn : PMn0 st a o W K (a.put o.dst undef) W') : PM P o st a W K Qp := by
  exact fun ro _ => wpIn_of_run hr (fun _ _ e => by cases e) (.inl hn)

def hp (W : World) (h : Heap) : World := { W with heap := h }
theorem hp_out (W : World) (h : Heap) : Out W (hp W h) := ⟨rfl, rfl, rfl⟩

theorem size_pos_of_getElem? {h : Heap} {i : Nat} {o : Obj} (e : h[i]? = some o) : i < h.size := by
  rcases Nat.lt_or_ge i h.size with h' | h'
  · exact h'
  · rw [Array.getElem?_eq_none h'] at e; cases e

theorem alloc_hp {h : Heap} {W : World} (e : W.heap = h) (o : Obj) : W.alloc o = hp W (h.push o) := by subst e; rfl

theorem set_self {h : Heap} {b : Nat} {o : Obj} (e : h[b]? = some o) : h.setIfInBounds b o = h := by
  obtain ⟨hlt, he⟩ := Array.getElem?_eq_some_iff.1 e
  apply Array.ext_getElem?
  intro j
  by_cases hj : b = j
  · subst hj; simp [hlt, he]
  · simp [Array.getElem?_setIfInBounds_ne hj]

theorem setCell_hp {W : World} {b o : Nat} {c : Array Value} {e : TypeId} {fz : Nat × Nat} (hb : W.heap[b]? = some (.cells c e fz)) (v : Value) :
    W.setCell ⟨b, o, none⟩ v = hp W (W.heap.setIfInBounds b (.cells (c.setIfInBounds o v) e fz)) := by
  obtain ⟨hlt, he⟩ := Array.getElem?_eq_some_iff.1 hb
  unfold World.setCell hp
  congr 1
  apply Array.ext_getElem?
  intro j
  by_cases hj : b = j
  · subst hj
    rw [Array.getElem?_modify, if_pos rfl, hb]
    simp [hlt]
  · rw [Array.getElem?_modify, if_neg hj, Array.getElem?_setIfInBounds_ne hj]

theorem Rel.push (r : Rel st h a W) (o : Obj) : Rel st (h.push o) a (hp W (h.push o)) := by
  refine ⟨rfl, r.ds, r.len, r.slot, fun i l hl => ?_, r.apart⟩
  have := r.loc i l hl
  rw [Array.getElem?_push, if_neg (by have := size_pos_of_getElem? this; omega)]
  exact this

theorem loc_append {st : St} {x : Option Loc} {i : Nat} : ({ st with ls := st.ls ++ [x] } : St).loc i = if i = st.ls.length then x else st.loc i := by
  unfold St.loc
  simp only [List.getElem?_append]
  by_cases h1 : i < st.ls.length
  · simp [h1, Nat.ne_of_lt h1]
  · simp only [h1, if_false]
    by_cases h2 : i = st.ls.length
    · subst h2; simp
    · have h3 : 1 ≤ i - st.ls.length := by omega
      rw [if_neg h2, List.getElem?_eq_none (by simpa using h3), List.getElem?_eq_none (by omega)]

theorem Rel.track (r : Rel st h a W) (t : TypeId) (cs : List Lf) :
    Rel { st with ls := st.ls ++ [some ⟨h.size, t, cs, 0⟩] } (hnew h t cs) a (hp W (hnew h t cs)) := by
  have r' := r.push (.cells (cs.map Lf.val).toArray t (0, 0))
  refine ⟨rfl, r.ds, r.len, fun i => ?_, fun i l hl => ?_, fun i j l m hl hm hb => ?_⟩
  · have hs := r.slot i
    show SVr _ (st.get i) _
    cases hg : st.get i with
    | loc id off =>
      rw [hg] at hs
      refine ⟨by simp; have := hs.1; omega, fun l hl => ?_⟩
      rw [loc_append, if_neg (by have := hs.1; omega)] at hl
      exact hs.2 l hl
    | _ => rw [hg] at hs; exact hs
  · rw [loc_append] at hl
    split at hl
    · cases hl; simp [hnew, Loc.obj]
    · exact r'.loc i l hl
  · rw [loc_append] at hl hm
    split at hl <;> split at hm
    · rename_i e1 e2; rw [e1, e2]
    · cases hl
      have := size_pos_of_getElem? (r.loc _ _ hm)
      simp at hb; omega
    · cases hm
      have := size_pos_of_getElem? (r.loc _ _ hl)
      simp at hb; omega
    · exact r.apart i j l m hl hm hb

theorem m_new (r : Rel st h a W) {o : Oper} {e : TypeId} {cs : List Lf} (hr : (execOp a.eval o).run P W = .ok (.value (.pointer (some ⟨h.size, 0, none⟩))) (hp W (hnew h e cs)))
    {tr : Bool} (hv : New e cs h fun b h' => match tr with
      | true => K (.loc st.ls.length 0) { st with ls := st.ls ++ [some ⟨b, e, cs, 0⟩] } h'
      | false => K (.v (.lf (.ptr (some (b, 0))))) st h') : PM P o st a W K Qp := by
  have hv := hv _ _ rfl rfl
  refine PM.value hr ?_
  cases tr with
  | true =>
    have r' := r.track e cs
    refine ⟨_, _, _, hv, rfl, r', ⟨by simp, fun l hl => ?_⟩, ?_, hp_out _ _⟩
    · rw [loc_append, if_pos rfl] at hl; cases hl; rfl
    · refine ⟨fun i l hl l' hl' => ?_, ⟨[], rfl⟩, fun i hi hn => ?_, by simp⟩
      · rw [loc_append, if_neg (by have := St.loc_lt hl; omega), hl] at hl'
        cases hl'; exact ⟨rfl, rfl, Nat.le_refl _, fun _ => rfl⟩
      · rw [loc_append, if_neg (by omega)]; exact hn
  | false => exact ⟨_, _, _, hv, rfl, r.push _, rfl, Ev.refl _, hp_out _ _⟩

theorem m_alloc (r : Rel st h a W) {pl : Plan} {e : TypeId} (hv : vcM P pl ⟨dst, .alloc e, type, pos, after, guard⟩ st h K Qp) : PM P ⟨dst, .alloc e, type, pos, after, guard⟩ st a W K Qp := by
  simp only [vcM] at hv
  obtain ⟨z, hz, hv⟩ := opt_some hv
  obtain ⟨i, hi, hiz, hsz, hcs⟩ := zeroOf_run hz
  refine m_new r ?_ hv
  simp [execOp, Instr.alloc, zeroValue, typeInfo, hi, hiz, newVar, newRow, hcs, hnew, alloc_hp r.heap, r.heap]

theorem m_box (r : Rel st h a W) {pl : Plan} {e : TypeId} {x : Operand} (hv : vcM P pl ⟨dst, .box e x, type, pos, after, guard⟩ st h K Qp) : PM P ⟨dst, .box e x, type, pos, after, guard⟩ st a W K Qp := by
  simp only [vcM] at hv
  have hx := r.ev x
  split at hv
  · rename_i z he
    rw [he] at hx
    simp only [SVr] at hx
    refine m_new r ?_ hv
    simp [execOp, Instr.box, newVar, newRow, hx, VV.cells_val, hnew, alloc_hp r.heap, r.heap]
  · exact hv.elim

theorem fz_not {fz : Nat × Nat} {off n j : Nat} (h : fzOk fz off n) (h1 : off ≤ j) (h2 : j < off + n) : (fz.1 ≤ j && j < fz.2) = false := by
  unfold fzOk at h
  simp only [Bool.and_eq_false_iff, decide_eq_false_iff_not]
  omega

theorem run_storeCells_wr (b off : Nat) (e : TypeId) (fz : Nat × Nat) : ∀ (vs : List Value) (i : Nat) (c : Array Value) (W : World), W.heap[b]? = some (.cells c e fz) →
    off + i + vs.length ≤ c.size → fzOk fz (off + i) vs.length → (∀ v ∈ vs, v.oneCell' = true) →
    (storeCells ⟨b, off, none⟩ vs i).run P W = .ok () (hp W (W.heap.setIfInBounds b (.cells (wr c (off + i) vs) e fz)))
  | [], i, c, W, hb, _, _, _ => by
    have this := set_self hb
    simp [storeCells, wr, this, hp]
  | v :: vs, i, c, W, hb, hl, hf, h1 => by
    simp only [List.length_cons] at hl hf
    have hi : off + i < c.size := by omega
    have hfz : (fz.1 ≤ off + i && off + i < fz.2) = false := fz_not hf (Nat.le_refl _) (by omega)
    have hst : (store ((⟨b, off, none⟩ : Addr).add i) v).run P W = .ok () (hp W (W.heap.setIfInBounds b (.cells (c.setIfInBounds (off + i) v) e fz))) := by
      rw [add_add, run_store P W _ v _ (h1 v (by simp))]
      have hc : W.cell? ⟨b, off + i, none⟩ = some c[off + i] := by simp [World.cell?, hb, hi]
      have hfr : W.frozen? ⟨b, off + i, none⟩ = false := by
        simp only [World.frozen?, hb]
        obtain ⟨lo, hi'⟩ := fz
        exact hfz
      simp only [hc, hfr, Bool.false_eq_true, if_false, setCell_hp hb]
    have hb' : (hp W (W.heap.setIfInBounds b (.cells (c.setIfInBounds (off + i) v) e fz))).heap[b]? = some (.cells (c.setIfInBounds (off + i) v) e fz) := by
      simp [hp, size_pos_of_getElem? hb]
    have hf' : fzOk fz (off + (i + 1)) vs.length := by unfold fzOk at *; omega
    have ih := run_storeCells_wr b off e fz vs (i + 1) (c.setIfInBounds (off + i) v) _ hb' (by simp; omega) hf' (fun x hx => h1 x (by simp [hx]))
    simp only [storeCells, Sem.run_bind, hst, Result.andThen_ok, ih]
    simp only [wr, hp, Array.setIfInBounds_setIfInBounds]
    rfl

theorem keep_loc {h h' : Heap} : ∀ {ls : List (Option Loc)} {i : Nat} {l : Loc}, keepB h h' (locBs ls) → ls[i]? = some (some l) → h'[l.b]? = h[l.b]?
  | [], i, l, hk, hl => by simp at hl
  | none :: ls, i, l, hk, hl => by
    cases i with
    | zero => simp at hl
    | succ i => exact keep_loc (ls := ls) hk (by simpa using hl)
  | some m :: ls, i, l, hk, hl => by
    cases i with
    | zero => simp at hl; subst hl; exact hk.1
    | succ i => exact keep_loc (ls := ls) hk.2 (by simpa using hl)

theorem St.loc_get {st : St} {i : Nat} {l : Loc} (h : st.loc i = some l) : st.ls[i]? = some (some l) := by
  unfold St.loc at h
  split at h
  · rename_i o ho; rw [ho, h]
  · cases h

theorem Rel.keep (r : Rel st h a W) {W' : World} (hk : keepB h W'.heap (locBs st.ls)) : Rel st W'.heap a W' :=
  ⟨rfl, r.ds, r.len, r.slot, fun i l hl => by rw [keep_loc hk (St.loc_get hl)]; exact r.loc i l hl, r.apart⟩

theorem keepC_iff {h h' : Heap} {l : List Nat} {X : Prop} (hk : keepC h h' l X) : keepB h h' l ∧ X := by
  unfold keepC at hk
  split at hk
  · exact ⟨trivial, hk⟩
  · exact hk

theorem m_store (r : Rel st h a W) {pl : Plan} {t : TypeId} {ad x : Operand} (hv : vcM P pl ⟨dst, .store t ad x, type, pos, after, guard⟩ st h K Qp) : PM P ⟨dst, .store t ad x, type, pos, after, guard⟩ st a W K Qp := by
  simp only [vcM] at hv
  have hx := r.ev x
  have ha := r.ev ad
  split at hv
  · rename_i z he
    rw [he] at hx
    simp only [SVr] at hx
    split at hv
    · rename_i hb
      simp only [Bool.and_eq_true] at hb
      obtain ⟨ty, hty⟩ := known_some hb.1
      have hsz : z.cells.length = ty.size := by have := Nat.eq_of_beq_eq_true hb.2; simpa [szOf, hty] using this
      have hcells : z.val.cells = (z.cells.map Lf.val).toArray := VV.cells_val z
      have run : ∀ b off c e fz, a.eval ad = .pointer (some ⟨b, off, none⟩) → W.heap[b]? = some (.cells c e fz) → off + z.cells.length ≤ c.size → fzOk fz off z.cells.length →
          (execOp a.eval ⟨dst, .store t ad x, type, pos, after, guard⟩).run P W = .ok .skip (hp W (W.heap.setIfInBounds b (.cells (wr c off (z.cells.map Lf.val)) e fz))) := by
        intro b off c e fz h1 h2 h3 h4
        have hst := run_storeCells_wr (P := P) b off e fz (z.cells.map Lf.val) 0 c W h2 (by simpa using h3) (by simpa using h4) (fun v hv => by
          obtain ⟨y, _, rfl⟩ := List.mem_map.1 hv; exact Lf.val_one y)
        simp only [Nat.add_zero] at hst
        have hs2 : ¬ (z.val.cells.size ≠ ty.size) := by rw [hcells]; simp [hsz]
        simp only [execOp, h1, hx, Instr.storeAt, Instr.sureAddr, storeVar, Sem.run_bind, run_sz hty, Result.andThen_ok, Sem.run_pure, pure_bind]
        rw [if_neg hs2]
        simp only [hcells, hst, Result.andThen_ok, Sem.run_pure, Sem.run_bind]
      split at hv
      · rename_i i off hl
        obtain ⟨l, hll, hv⟩ := opt_some hv
        obtain ⟨cs, hcs, hv⟩ := opt_some hv
        obtain ⟨hle, hcs⟩ := splice_some hcs
        have hv := hv _ rfl
        rw [hl] at ha
        have ha' := ha.2 l hll
        have hblk := r.loc i l hll
        have hrun := run l.b off _ _ _ ha' (by rw [r.heap]; exact hblk) (by simpa using hle) (by unfold fzOk; omega)
        have hw : wr (l.cs.map Lf.val).toArray off (z.cells.map Lf.val) = (cs.map Lf.val).toArray := by
          rw [wr_splice _ _ _ (by simpa using hle), hcs]
          simp [List.map_take, List.map_drop]
        rw [hw, r.heap] at hrun
        refine PM.skip hrun ⟨_, _, _, hv, rfl, ?_, trivial, ?_, hp_out _ _⟩
        · have hil := St.loc_lt hll
          have hloc : ∀ j, ({ st with ls := st.ls.set i (some ⟨l.b, l.t, cs, l.ver + 1⟩) } : St).loc j = if j = i then some ⟨l.b, l.t, cs, l.ver + 1⟩ else st.loc j := by
            intro j
            unfold St.loc
            simp only [List.getElem?_set]
            by_cases e : i = j
            · subst e; simp [hil]
            · have e' : ¬ j = i := fun x => e x.symm
              simp [e, e']
          refine ⟨rfl, r.ds, r.len, fun j => ?_, fun j m hm => ?_, fun j k m n hm hn hb => ?_⟩
          · have hs := r.slot j
            show SVr _ (st.get j) _
            cases hg : st.get j with
            | loc id off' =>
              rw [hg] at hs
              refine ⟨by simpa using hs.1, fun m hm => ?_⟩
              rw [hloc] at hm
              split at hm
              · rename_i e; subst e; cases hm; exact hs.2 l hll
              · exact hs.2 m hm
            | _ => rw [hg] at hs; exact hs
          · rw [hloc] at hm
            show (h.setIfInBounds l.b _)[m.b]? = _
            split at hm
            · cases hm; simp [Loc.obj, size_pos_of_getElem? hblk]
            · rename_i e
              have hne : ¬ l.b = m.b := fun eb => e (r.apart j i m l hm hll eb.symm)
              rw [Array.getElem?_setIfInBounds_ne hne]
              exact r.loc j m hm
          · rw [hloc] at hm hn
            split at hm <;> split at hn
            · rename_i e1 e2; rw [e1, e2]
            · rename_i e1 e2; cases hm; exact e1.trans (r.apart i k l n hll hn hb)
            · rename_i e1 e2; cases hn; exact (r.apart j i m l hm hll hb).trans e2.symm
            · exact r.apart j k m n hm hn hb
        · have hil := St.loc_lt hll
          refine ⟨fun j m hm m' hm' => ?_, ⟨[], rfl⟩, fun j hj hn => ?_, by simp⟩
          · unfold St.loc at hm'
            simp only [List.getElem?_set] at hm'
            by_cases e : i = j
            · subst e
              rw [hll] at hm; cases hm
              simp [hil] at hm'
              subst hm'
              exact ⟨rfl, rfl, by simp, fun e => by simp at e⟩
            · have : st.loc j = some m' := by unfold St.loc; simpa [e] using hm'
              rw [hm] at this; cases this
              exact ⟨rfl, rfl, Nat.le_refl _, fun _ => rfl⟩
          · have e : ¬ i = j := fun e => by subst e; rw [hll] at hn; cases hn
            unfold St.loc at hn ⊢
            simpa [e] using hn
      · rename_i b off hl
        obtain ⟨c, e, fz, hb2, hle, hf, hv⟩ := hv
        have hv := hv _ rfl
        rw [hl] at ha
        simp only [SVr, VV.val, Lf.val, padr] at ha
        simp only [List.length_map] at hle hf
        have hrun := run b off c e fz ha (by rw [r.heap]; exact hb2) hle hf
        obtain ⟨hk, hv⟩ := keepC_iff hv
        rw [r.heap] at hrun
        exact PM.skip hrun ⟨_, _, _, hv, rfl, r.keep (W' := hp W _) hk, trivial, Ev.refl _, hp_out _ _⟩
      · exact hv.elim
    · exact hv.elim
  · exact hv.elim

end
end Go.V
/-! Maps changed, and gone through. -/
namespace Go.V
section
variable {P : Program} {st : St} {h : Heap} {a : Act} {W : World}

theorem Rel.setObj (r : Rel st h a W) {b : Nat} {o : Obj} (hne : ∀ l : Loc, h[b]? ≠ some l.obj) : Rel st (h.setIfInBounds b o) a (hp W (h.setIfInBounds b o)) :=
  ⟨rfl, r.ds, r.len, r.slot, fun i l hl => by
    have h1 := r.loc i l hl
    have hb : b ≠ l.b := fun e => hne l (e ▸ h1)
    rw [Array.getElem?_setIfInBounds_ne hb]; exact h1, r.apart⟩

theorem Rel.setMap (r : Rel st h a W) {b : Nat} {es : Array MapEntry} {c : Nat} {o : Obj} (hb : h[b]? = some (.map es c)) : Rel st (h.setIfInBounds b o) a (hp W (h.setIfInBounds b o)) :=
  r.setObj fun l e => by rw [hb] at e; cases e

theorem mlook_some {kt : LT} {k : kt.den} : ∀ {es : List (ME kt)} {n i : Nat} {e : ME kt}, mlook kt k es n = some (i, e) → n ≤ i ∧ es[i - n]? = some e ∧ keq kt k e.key = true
  | [], n, i, e, h => by cases h
  | x :: es, n, i, e, h => by
    simp only [mlook] at h
    split at h
    · rename_i hk
      simp only [Option.some.injEq, Prod.mk.injEq] at h
      obtain ⟨rfl, rfl⟩ := h
      exact ⟨Nat.le_refl _, by simp, hk⟩
    · obtain ⟨h1, h2, h3⟩ := mlook_some h
      refine ⟨by omega, ?_, h3⟩
      rw [show i - n = (i - (n + 1)) + 1 by omega]; simpa using h2

theorem sameBits_key {kt : LT} (hk : KeyLT kt) (k : kt.den) : Instr.sameBits 10000 (kt.mk k).val (kt.mk k).val = true := by
  cases kt with
  | int q => simp [LT.mk, Lf.val, Instr.sameBits]
  | bool => simp [LT.mk, Lf.val, Instr.sameBits]
  | str => simp [LT.mk, Lf.val, Instr.sameBits, MapKept.bytes_beq]
  | ptr => simp [LT.mk, Lf.val, Instr.sameBits]
  | _ => exact hk.elim

theorem modify_map {kt : LT} {vt : VT} {es : List (ME kt)} {i : Nat} {e y : ME kt} {f : MapEntry → MapEntry} (he : es[i]? = some e) (hf : f (ME.obj vt e) = ME.obj vt y) :
    (es.map (ME.obj vt)).toArray.modify i f = ((es.set i y).map (ME.obj vt)).toArray := by
  apply Array.ext'
  rw [Array.toList_modify]
  apply List.ext_getElem?
  intro j
  rw [List.getElem?_modify]
  by_cases hj : i = j
  · subst hj
    have hlt : i < es.length := by
      rcases Nat.lt_or_ge i es.length with h' | h'
      · exact h'
      · rw [List.getElem?_eq_none h'] at he; cases he
    have hei : es[i] = e := by simpa [hlt] using he
    simp [hf, hlt, hei]
  · simp [hj, List.getElem?_set]

theorem erase_map {kt : LT} {vt : VT} {es : List (ME kt)} {i : Nat} {e : ME kt} (he : es[i]? = some e) : (es.map (ME.obj vt)).toArray.eraseIdxIfInBounds i = ((es.eraseIdx i).map (ME.obj vt)).toArray := by
  have hlt : i < es.length := by
    rcases Nat.lt_or_ge i es.length with h' | h'
    · exact h'
    · rw [List.getElem?_eq_none h'] at he; cases he
  unfold Array.eraseIdxIfInBounds
  rw [dif_pos (by simpa using hlt)]
  apply Array.ext'
  have key : ∀ (l : List (ME kt)) (j : Nat), (l.map (ME.obj vt)).eraseIdx j = (l.eraseIdx j).map (ME.obj vt) := by
    intro l
    induction l with
    | nil => intro j; rfl
    | cons x l ih =>
      intro j
      cases j with
      | zero => rfl
      | succ j => simp [ih]
  simp [key]

theorem vvIs_put {vt : VT} {v : VV} (h : vvIs vt v = true) : vt.put v.cells = v := by
  cases vt <;> cases v <;> simp_all [vvIs, VT.put, VV.cells]

theorem okIf_elim {b : Bool} {X : Prop} (h : okIf b X) : b = true ∧ X := by
  cases b
  · exact h.elim
  · exact ⟨rfl, h⟩

theorem push_map {kt : LT} {vt : VT} (es : List (ME kt)) (e : ME kt) : (es.map (ME.obj vt)).toArray.push (ME.obj vt e) = ((es ++ [e]).map (ME.obj vt)).toArray := by simp

section
variable {t kT eT : TypeId} {kt : LT} {vt : VT} (hu : P.underlying t = some (.map kT eT)) (hk : keyKind P kT = some kt)
include hu hk

theorem mapUpdate_run {r : Nat} {es : List (ME kt)} {clock : Nat} (hr : W.heap[r]? = some (mobj kt vt es clock)) {k : kt.den} (hok : KOk W.heap kt k es) {v : VV} (hv : vvIs vt v = true) :
    (Instr.mapUpdate t (.map (some r)) (kt.mk k).val v.val).run P W = .ok () (hp W (W.heap.setIfInBounds r (mobj kt vt (mput kt k v.cells es clock).1 (mput kt k v.cells es clock).2))) := by
  have hf := find_run (P := P) hk vt k es hok
  have hg := MapKept.run_getObj_map (P := P) hr
  have hs := fun o => MapKept.run_setObj_map (P := P) o hr
  unfold Instr.mapUpdate mput
  simp only [Sem.run_bind, run_underlying hu, Result.andThen_ok, hg, hf.1, hf.2]
  cases hl : mlook kt k es 0 with
  | none =>
    simp only [Option.map_none]
    rw [hs]
    have := push_map (vt := vt) es ⟨k, v.cells, clock⟩
    simp only [ME.obj, vvIs_put hv] at this
    simp only [mobj, hp]
    rw [← this]
  | some x =>
    obtain ⟨i, e⟩ := x
    obtain ⟨_, he, hke⟩ := mlook_some hl
    have hke' := (keq_iff (keyKind_ok hk) _ _).1 hke
    rw [Nat.sub_zero] at he
    have hold : ((((es.map (ME.obj vt)).toArray[i]?).map (·.key)).getD (kt.mk k).val) = (kt.mk k).val := by
      simp [he, ME.obj, hke']
    simp only [Option.map_some, hold, Instr.keyThatStays, sameBits_key (keyKind_ok hk) k, if_true, Sem.run_pure, Result.andThen_ok]
    rw [Sem.run_bind, Sem.run_pure, Result.andThen_ok, hs]
    rw [modify_map (y := ⟨k, v.cells, e.born⟩) he (by simp [ME.obj, vvIs_put hv])]
    rfl

theorem delete_run {m : Option Nat} {k : kt.den} {K : Heap → Prop} (hd : DelC kt vt W.heap m k K) (ty u : TypeId) :
    ∃ W', (Builtin.delete_ #[t, u] ty #[.map m, (kt.mk k).val]).run P W = .ok (.tuple #[]) W' ∧ K W'.heap ∧ (W' = W ∨ ∃ r es c h', m = some r ∧ W.heap[r]? = some (.map es c) ∧ W' = hp W (W.heap.setIfInBounds r h')) := by
  unfold Builtin.delete_
  cases m with
  | none =>
    have hf := find_run (P := P) hk vt k [] (W := W) (by cases kt <;> simp [KOk])
    refine ⟨W, ?_, hd, .inl rfl⟩
    simp [Sem.run_bind, run_underlying hu, hf.1]
  | some r =>
    obtain ⟨es, clock, hr, hok, hK⟩ := hd
    have hf := find_run (P := P) hk vt k es hok
    have hg := MapKept.run_getObj_map (P := P) hr
    have hs := fun o => MapKept.run_setObj_map (P := P) o hr
    refine ⟨hp W (W.heap.setIfInBounds r (mobj kt vt (mdel kt k es) clock)), ?_, hK _ rfl, .inr ⟨r, _, _, _, rfl, hr, rfl⟩⟩
    simp only [List.getElem?_toArray, List.getElem?_cons_zero, List.getElem?_cons_succ, Sem.run_bind, run_underlying hu, Result.andThen_ok, hg, hf.1, hf.2]
    unfold mdel
    cases hl : mlook kt k es 0 with
    | none => simp only [Option.map_none, Sem.run_bind, hs, Result.andThen_ok, Sem.run_pure]; rfl
    | some x =>
      obtain ⟨i, e⟩ := x
      obtain ⟨_, he, hke⟩ := mlook_some hl
      rw [Nat.sub_zero] at he
      simp only [Option.map_some, Sem.run_bind, hs, Result.andThen_ok, Sem.run_pure, erase_map he]
      rfl

theorem mapEntry_run {eT' : TypeId} (he : eT' = eT) {z : VV} (hvt : vtOf P eT = some vt) (hz : zeroOf P eT = some z) {r : Nat} {es : List (ME kt)} {clock : Nat} (hr : W.heap[r]? = some (mobj kt vt es clock)) {k : kt.den} (hok : KOk W.heap kt k es) :
    (Instr.mapEntry t (.map (some r)) (kt.mk k).val).run P W = .ok (.tuple #[(vt.put (ment kt k z.cells es clock).1).val, goInt (ment kt k z.cells es clock).2.1])
      (hp W (W.heap.setIfInBounds r (mobj kt vt (ment kt k z.cells es clock).2.2.1 (ment kt k z.cells es clock).2.2.2))) := by
  have hf := find_run (P := P) hk vt k es hok
  have hg := MapKept.run_getObj_map (P := P) hr
  have hs := fun o => MapKept.run_setObj_map (P := P) o hr
  unfold Instr.mapEntry ment
  simp only [Sem.run_bind, run_underlying hu, Result.andThen_ok, hg, hf.1, hf.2]
  cases hl : mlook kt k es 0 with
  | none =>
    simp only [Option.map_none, Sem.run_bind, zero_run hz, Result.andThen_ok, hs, Sem.run_pure]
    have := push_map (vt := vt) es ⟨k, z.cells, clock⟩
    simp only [ME.obj, put_cells hvt hz] at this
    simp only [mobj, hp, put_cells hvt hz]
    rw [← this]
  | some x =>
    obtain ⟨i, e⟩ := x
    obtain ⟨_, he, hke⟩ := mlook_some hl
    have hke' := (keq_iff (keyKind_ok hk) _ _).1 hke
    rw [Nat.sub_zero] at he
    have hold : ((((es.map (ME.obj vt)).toArray[i]?).map (·.key)).getD (kt.mk k).val) = (kt.mk k).val := by
      simp [he, ME.obj, hke']
    have hborn : ((((es.map (ME.obj vt)).toArray[i]?).map fun x => (x.born : Int)).getD 0) = (e.born : Int) := by
      simp [he, ME.obj]
    simp only [Option.map_some, hold, Instr.keyThatStays, sameBits_key (keyKind_ok hk) k, if_true, Sem.run_pure, Sem.run_bind, Result.andThen_ok, hs, hborn]
    rw [modify_map (y := e) he (by simp [ME.obj, hke'])]
    have : es.set i e = es := by
      apply List.ext_getElem?
      intro j
      rw [List.getElem?_set]
      split
      · rename_i hij; subst hij; split
        · exact he.symm
        · rename_i hlt; rw [List.getElem?_eq_none (by omega)] at he; cases he
      · rfl
    rw [this]
    rfl

end

theorem findIdx_born {kt : LT} {vt : VT} (n : Nat) : ∀ (es : List (ME kt)), (∃ e ∈ es, e.born = n) →
    ∃ i e, (es.map (ME.obj vt)).findIdx? (fun x => (x.born : Int) == (n : Int)) = some i ∧ es[i]? = some e ∧ ∀ v, msto n v es = es.set i { e with val := v }
  | [], ⟨e, he, _⟩ => by simp at he
  | x :: es, hx => by
    by_cases hn : x.born = n
    · exact ⟨0, x, by simp [List.findIdx?_cons, ME.obj, hn], rfl, fun v => by simp [msto, hn]⟩
    · obtain ⟨i, e, h1, h2, h3⟩ := findIdx_born n es (by
        obtain ⟨e, he, hb⟩ := hx
        rcases List.mem_cons.1 he with rfl | he
        · exact absurd hb hn
        · exact ⟨e, he, hb⟩)
      refine ⟨i + 1, e, ?_, by simpa using h2, fun v => by simp [msto, hn, h3]⟩
      have hne : (((ME.obj vt x).born : Int) == (n : Int)) = false := by simp [ME.obj]; omega
      rw [List.map_cons, List.findIdx?_cons, hne, h1]
      rfl

theorem entryStore_run {t : TypeId} {kt : LT} {vt : VT} {r n : Nat} {es : List (ME kt)} {clock : Nat} (hr : W.heap[r]? = some (mobj kt vt es clock)) (he : ∃ e ∈ es, e.born = n) {k : IntKind} {v : VV} (hv : vvIs vt v = true) :
    (Instr.entryStore t (.map (some r)) (.int k (n : Int)) v.val).run P W = .ok () (hp W (W.heap.setIfInBounds r (mobj kt vt (msto n v.cells es) clock))) := by
  have hg := MapKept.run_getObj_map (P := P) hr
  have hs := fun o => MapKept.run_setObj_map (P := P) o hr
  obtain ⟨i, e, h1, h2, h3⟩ := findIdx_born (vt := vt) n es he
  unfold Instr.entryStore
  have h1' : ((es.map (ME.obj vt)).toArray.findIdx? fun x => (x.born : Int) == (n : Int)) = some i := by simpa using h1
  have hi : (asInt (.int k (n : Int))).run P W = .ok (n : Int) W := by simp [asInt, asIntOf]
  simp only [Sem.run_bind, hg, Result.andThen_ok, hi, h1', hs]
  rw [modify_map (y := { e with val := v.cells }) h2 (by simp [ME.obj, vvIs_put hv]), h3]
  rfl

theorem range_run {t kT eT : TypeId} (hu : P.underlying t = some (.map kT eT)) {m : Option Nat} {K : Nat → Heap → Prop} (h : RngC W.heap m K) :
    ∃ o, (Instr.range t (.map m)).run P W = .ok (.pointer (some ⟨W.heap.size, 0, none⟩)) (hp W (W.heap.push o)) ∧ K W.heap.size (W.heap.push o) := by
  unfold Instr.range
  cases m with
  | none => exact ⟨_, by simp [Sem.run_bind, run_underlying hu, newObj, Sem.run]; rfl, h _ _ rfl rfl⟩
  | some r =>
    obtain ⟨es, clock, hr, hK⟩ := h
    have hg := MapKept.run_getObj_map (P := P) hr
    exact ⟨_, by simp [Sem.run_bind, run_underlying hu, hg, newObj, Sem.run]; rfl, hK _ _ rfl rfl⟩

theorem rangeS_run {t : TypeId} (hu : P.underlying t = some .string) {s : ByteArray} {K : Nat → Heap → Prop} (h : RngS W.heap s K) :
    ∃ o, (Instr.range t (.string s)).run P W = .ok (.pointer (some ⟨W.heap.size, 0, none⟩)) (hp W (W.heap.push o)) ∧ K W.heap.size (W.heap.push o) := by
  unfold Instr.range
  exact ⟨_, by simp [Sem.run_bind, run_underlying hu, newObj, Sem.run]; rfl, h _ _ rfl rfl⟩
theorem nextS_run {b : Nat} {over : Heap → Prop} {K : Int → Int → Heap → Prop} (h : NextS W.heap b over K) (ty : TypeId) :
    ((Instr.next (.pointer (some ⟨b, 0, none⟩)) true ty).run P W = .ok (.tuple #[.bool false]) W ∧ over W.heap) ∨
    ∃ i c o, (Instr.next (.pointer (some ⟨b, 0, none⟩)) true ty).run P W = .ok (.tuple #[.bool true, .int .i64 i, .int .i32 c]) (hp W (W.heap.setIfInBounds b o)) ∧ K i c (W.heap.setIfInBounds b o) ∧
      ∃ s pos, W.heap[b]? = some (.stringIter s pos) := by
  obtain ⟨s, pos, hb, ho, hK⟩ := h
  by_cases hp0 : pos < s.size
  · right
    refine ⟨(pos : Int), decR s pos, .stringIter s (pos + decW s pos), ?_, hK hp0 _ rfl, s, pos, hb⟩
    simp only [Instr.next, getObj, setObj, Sem.run_bind, Sem.run, hb, Result.andThen, hp0, if_true]
    simp [goInt, decR, decW, hp]
  · left
    refine ⟨?_, ho (by omega)⟩
    simp [Instr.next, getObj, Sem.run, hb, hp0]

theorem next_run {kt : LT} {vt : VT} {b : Nat} {over : Heap → Prop} {K : kt.den → List Lf → Heap → Prop} (h : NextC kt vt W.heap b over K) (ty : TypeId) :
    ((Instr.next (.pointer (some ⟨b, 0, none⟩)) false ty).run P W = .ok (.tuple #[.bool false]) W ∧ over W.heap) ∨
    ∃ k l W', (Instr.next (.pointer (some ⟨b, 0, none⟩)) false ty).run P W = .ok (.tuple #[.bool true, (kt.mk k).val, (vt.put l).val]) W' ∧ K k l W'.heap ∧ Out W W' ∧
      ∃ m s seen c o, W.heap[b]? = some (.mapIter m s seen c) ∧ W'.heap = W.heap.setIfInBounds b o := by
  rcases h with ⟨s, seen, c, hb, ho⟩ | ⟨r, since, seen, stepped, es, clock, hb, hr, hold, hsc, ho, hK⟩
  · left
    refine ⟨?_, ho⟩
    simp [Instr.next, getObj, Sem.run_bind, Sem.run, hb]
  · have hold' : ∀ x ∈ (es.map (ME.obj vt)).toArray.toList, x.born < since := by
      intro x hx
      simp only [List.mem_map] at hx
      obtain ⟨e, he, rfl⟩ := hx
      exact hold e he
    rcases run_next_at (P := P) W ty b r since stepped seen _ clock hb hr hold' hsc with ⟨h0, hrun⟩ | ⟨e, he, w1, hw1, hrun⟩
    · left
      refine ⟨hrun, ho fun e he => ?_⟩
      have : leftOf (es.map (ME.obj vt)).toArray seen = #[] := Array.eq_empty_of_size_eq_zero h0
      unfold leftOf at this
      rw [Array.filter_eq_empty_iff] at this
      have := this (ME.obj vt e) (by simp; exact ⟨e, he, rfl⟩)
      simpa [ME.obj] using this
    · right
      unfold leftOf at he
      simp only [Array.toList_filter, List.mem_filter, List.mem_map] at he
      obtain ⟨⟨e', he', rfl⟩, hns⟩ := he
      have hns' : ¬ e'.born ∈ seen := by simpa [ME.obj] using hns
      have hh : (ChangeMaps.setBlock w1 b (.mapIter (some r) since (seen.push e'.born) clock)).heap = W.heap.setIfInBounds b (.mapIter (some r) since (seen.push e'.born) clock) := by
        rcases hw1 with rfl | rfl <;> rfl
      refine ⟨e'.key, e'.val, _, hrun, hK e' he' hns' _ hh, ?_, _, _, _, _, _, hb, hh⟩
      rcases hw1 with rfl | rfl <;> exact ⟨rfl, rfl, rfl⟩

theorem entry_run {kt : LT} {vt : VT} {b : Nat} {k : kt.den} {l : List Lf} (h : EntryR W.heap b kt vt k l) :
    (Instr.entry (.pointer (some ⟨b, 0, none⟩))).run P W = .ok (.tuple #[(kt.mk k).val, (vt.put l).val]) W := by
  obtain ⟨r, since, seen, e, es, clock, hb, hr, hf, rfl, rfl⟩ := h
  have hf' : (es.map (ME.obj vt)).toArray.find? (fun x => x.born == e.born) = some (ME.obj vt e) := by
    rw [← Array.find?_toList]
    simp only [List.find?_map]
    have : ((fun x : MapEntry => x.born == e.born) ∘ ME.obj vt) = fun x : ME kt => x.born == e.born := rfl
    rw [this, hf]; rfl
  have hr' : W.heap[r]? = some (.map (es.map (ME.obj vt)).toArray clock) := hr
  simp only [Instr.entry, getObj, Sem.run_bind, Sem.run, hr', hb, Result.andThen, Array.back?_push, bne_self_eq_false, Bool.false_eq_true, if_false, hf']
  rfl

end
end Go.V
namespace Go.V
section
variable {P : Program} {st : St} {h : Heap} {a : Act} {W : World} {K : SV → St → Heap → Prop} {Qp : List PanicEntry → St → Heap → Prop}
  {dst : Option Tmp} {type : TypeId} {pos : String} {after : Array Edge} {guard : Option (Nat × Bool)}

theorem m_push (r : Rel st h a W) {o : Oper} {ob : Obj} {x : VV} (hr : (execOp a.eval o).run P W = .ok (.value x.val) (hp W (h.push ob))) (hv : K (.v x) st (h.push ob)) : PM P o st a W K Qp :=
  PM.value hr ⟨_, _, _, hv, rfl, r.push _, rfl, Ev.refl _, hp_out _ _⟩

theorem partsOf_cons {sz i j : Nat} {s : SV} {r : List (Nat × SV)} {cs : List Lf} (h : partsOf sz i ((j, s) :: r) = some cs) :
    ∃ x l, s = .v x ∧ j = i ∧ x.cells.length = sz ∧ partsOf sz (i + 1) r = some l ∧ cs = x.cells ++ l := by
  cases s with
  | v x =>
    simp only [partsOf] at h
    split at h
    · rename_i hb
      simp only [Bool.and_eq_true] at hb
      split at h
      · rename_i l hl
        exact ⟨x, l, rfl, (Nat.eq_of_beq_eq_true hb.1).symm, Nat.eq_of_beq_eq_true hb.2, hl, (Option.some.inj h).symm⟩
      · cases h
    · cases h
  | _ => cases h

theorem parts_run {h : Heap} (r : Rel st h a W) (sz : Nat) : ∀ (ps : List (Nat × Operand)) (i : Nat) (cs : List Lf), partsOf sz i (ps.map fun p => (p.1, st.ev p.2)) = some cs →
    cs.length = ps.length * sz ∧ ∀ (pre post : List Value), pre.length = i * sz → ps.length * sz ≤ post.length →
      Instr.fill (fun j => some (j * sz, sz)) (pre ++ post).toArray (ps.map fun p => (p.1, a.eval p.2)) = some (pre ++ (cs.map Lf.val ++ post.drop (ps.length * sz))).toArray
  | [], i, cs, hp => by
    cases hp
    exact ⟨by simp, fun pre post _ _ => by simp [Instr.fill]⟩
  | (j, x) :: ps, i, cs, hp => by
    obtain ⟨y, l, hy, rfl, hsz, hl, rfl⟩ := partsOf_cons hp
    obtain ⟨hlen, ih⟩ := parts_run r sz ps (j + 1) l hl
    have hx := r.ev x
    rw [hy] at hx
    simp only [SVr] at hx
    refine ⟨by simp [hlen, hsz, Nat.add_mul]; omega, fun pre post hpre hpost => ?_⟩
    simp only [List.length_cons, Nat.add_mul, Nat.one_mul] at hpost
    have hc := VV.cells_val y
    have h1 : ¬ (y.val.cells.size ≠ sz) := by rw [hc]; simp [hsz]
    have h2 : ¬ (j * sz + y.val.cells.size > (pre ++ post).toArray.size) := by rw [hc]; simp [hsz, hpre]; omega
    have hf : (y.val.cells.zipIdx.foldl (fun cs (p : Value × Nat) => cs.setIfInBounds (j * sz + p.2) p.1) (pre ++ post).toArray) = ((pre ++ y.cells.map Lf.val) ++ post.drop sz).toArray := by
      rw [hc]
      have := foldl_wr (y.cells.map Lf.val) 0 (j * sz) (pre ++ post).toArray
      simp only [Nat.add_zero] at this
      rw [← Array.foldl_toList, Array.toList_zipIdx, this, wr_splice _ _ _ (by simp [hpre, hsz]; omega)]
      simp [← hpre, List.take_left', hsz, List.drop_append]
    simp only [List.map_cons, Instr.fill, hx]
    have hcond : (y.val.cells.size ≠ sz || decide (j * sz + y.val.cells.size > (pre ++ post).toArray.size)) = false := by simp only [h1, h2]; simp
    simp only [hcond, Bool.false_eq_true, if_false]
    rw [hf, ih _ _ (by simp [hpre, hsz, Nat.add_mul]) (by simp; omega)]
    simp [Nat.add_mul, Nat.add_comm]

theorem m_buildSlice (r : Rel st h a W) {pl : Plan} {t : TypeId} {n : Nat} {ps : Array (Nat × Operand)} (hv : vcM P pl ⟨dst, .buildSlice t n ps, type, pos, after, guard⟩ st h K Qp) :
    PM P ⟨dst, .buildSlice t n ps, type, pos, after, guard⟩ st a W K Qp := by
  simp only [vcM] at hv
  split at hv
  · rename_i e hu
    split at hv
    · rename_i hb
      simp only [Bool.and_eq_true] at hb
      obtain ⟨ty, hty⟩ := known_some hb.1.1
      have hle := Nat.le_of_ble_eq_true hb.1.2
      have hn := Nat.eq_of_beq_eq_true hb.2
      obtain ⟨cs, hcs, hv⟩ := opt_some hv
      obtain ⟨z, hz, hv⟩ := opt_some hv
      obtain ⟨i, hi, hiz, hszz, hzc⟩ := zeroOf_run hz
      rw [hty] at hi; cases hi
      have hsz : szOf P e = ty.size := by simp [szOf, hty]
      rw [hsz] at hle hcs
      obtain ⟨hlen, hfill⟩ := parts_run r ty.size ps.toList 0 cs hcs
      rw [hn] at hlen hfill
      have hv := hv _ _ rfl rfl
      refine m_push r (x := .lf (.slc ⟨some (h.size, 0), n, n⟩)) ?_ hv
      have hnle : ¬ (n * ty.size > 2 ^ 24) := by simpa using hle
      have hps : (ps.map fun p => (p.1, a.eval p.2)).toList = ps.toList.map fun p => (p.1, a.eval p.2) := by simp
      have key : ∀ zs : List Value, zs.length = n * ty.size → Instr.fill (fun i => some (i * ty.size, ty.size)) zs.toArray (ps.toList.map fun p => (p.1, a.eval p.2)) = some (cs.map Lf.val).toArray := by
        intro zs hzs
        have := hfill [] zs (by simp) (by omega)
        simp only [List.nil_append] at this
        rw [this, List.drop_of_length_le (by omega)]
        simp
      have hal := alloc_hp r.heap (.cells (cs.map Lf.val).toArray e)
      have hrun : (Instr.buildSlice t n (ps.map fun p => (p.1, a.eval p.2))).run P W = .ok (VV.lf (.slc ⟨some (h.size, 0), n, n⟩)).val (hp W (h.push (.cells (cs.map Lf.val).toArray e))) := by
        by_cases h0 : n * ty.size = 0
        · have hk := key [] (by simp [h0])
          simp only [Instr.buildSlice, Sem.run_bind, run_underlying hu, Result.andThen_ok, run_sz hty, hnle, if_false, h0, if_true, Sem.run_pure, hps]
          rw [if_neg (by decide)]
          simp only [pure_bind]
          rw [show ((Array.range 0).map (fun i => (#[] : Array Value)[i % (#[] : Array Value).size]!)) = ([] : List Value).toArray from by simp, hk]
          simp [newRow, r.heap, hal, VV.val, Lf.val, sadr_lit, Sem.run_pure]
        · have hk := key ((Array.range (n * ty.size)).map (fun i => z.val.cells[i % z.val.cells.size]!)).toList (by simp)
          rw [Array.toArray_toList] at hk
          simp only [Instr.buildSlice, Sem.run_bind, run_underlying hu, Result.andThen_ok, run_sz hty, hnle, if_false, h0, zeroValue, typeInfo, run_program, hty, hiz, Sem.run_pure, hps]
          rw [hk]
          simp [newRow, r.heap, hal, VV.val, Lf.val, sadr_lit, Sem.run_pure]
      simp only [execOp, Sem.run_bind]
      rw [show (ps.map fun x => match x with | (i, x) => (i, a.eval x)) = (ps.map fun p => (p.1, a.eval p.2)) from rfl, hrun]
      rfl
    · exact hv.elim
  · exact hv.elim

theorem m_makeSlice (r : Rel st h a W) {pl : Plan} {t : TypeId} {l c : Operand} (hv : vcM P pl ⟨dst, .makeSlice t l c, type, pos, after, guard⟩ st h K Qp) :
    PM P ⟨dst, .makeSlice t l c, type, pos, after, guard⟩ st a W K Qp := by
  simp only [vcM] at hv
  have hl := r.ev l
  have hc := r.ev c
  split at hv
  · rename_i e k n k' m hu hle hce
    obtain ⟨z, hz, hv⟩ := opt_some hv
    obtain ⟨i, hi, hiz, hszz, hzc⟩ := zeroOf_run hz
    obtain ⟨h0, h1, h2, h3, hv⟩ := hv
    rw [hle] at hl; rw [hce] at hc
    simp only [SVr, VV.val, Lf.val] at hl hc
    have hv := hv _ _ rfl rfl
    have hby : bytesOf P e = i.bytes := by simp [bytesOf, hi]
    rw [hby] at h3
    refine m_push r (x := .lf (.slc ⟨some (h.size, 0), n.toNat, m.toNat⟩)) ?_ hv
    have hrun := run_make (P := P) W t e i z.val hu hi hiz k k' n m h0 h1 h3 h2
    have e1 : madeCells z.val.cells (m.toNat * i.size) = Builtin.zeroCells (z.cells.map Lf.val).toArray m.toNat := by
      unfold Builtin.zeroCells madeCells
      rw [hzc, show i.size = (z.cells.map Lf.val).toArray.size by simp [hszz]]
    rw [e1, alloc_hp r.heap, r.heap] at hrun
    simp only [execOp, hl, hc, Sem.run_bind, hrun, Result.andThen_ok, Sem.run_pure]
    rfl
  · exact hv.elim

theorem m_convert (r : Rel st h a W) {pl : Plan} {src dt : TypeId} {x : Operand} (hv : vcM P pl ⟨dst, .convert src dt x, type, pos, after, guard⟩ st h K Qp) :
    PM P ⟨dst, .convert src dt x, type, pos, after, guard⟩ st a W K Qp := by
  simp only [vcM] at hv
  have hx := r.ev x
  split at hv
  · rename_i e s hs hd he
    rw [he] at hx
    simp only [SVr, VV.val, Lf.val] at hx
    split at hv
    · rename_i hu
      let cp := (Question.appendCap s.size 0 e).cut (W.tape W.drawn (.appendCap s.size 0 e))
      have hcut : s.size ≤ cp := by simp [cp, Question.cut]
      have hv := hv _ _ _ hcut rfl rfl
      let cells : Array Value := ((s.data.toList.map fun x => Value.int .u8 x.toNat) ++ List.replicate (cp - s.size) (Value.int .u8 0)).toArray
      have hcs : cells.size = cp := by simp [cells]; omega
      have hcells : (s.data.map fun b => Value.int .u8 b.toNat) ++ Array.replicate (cp - s.size) (Value.int .u8 0) = cells := by
        apply Array.ext'; simp [cells]
      let W' : World := { W with heap := h.push (.cells cells e (cp, cp + 1)), drawn := W.drawn + 1 }
      have hrun : (Conv.stringToBytes e s).run P W = .ok (.slice (some ⟨h.size, 0, none⟩) s.size cp) W' := by
        have hforced : (Question.appendCap s.size 0 e).forced = false := rfl
        have hsh : ({ W with heap := h.push (.cells cells e), drawn := W.drawn + 1 } : World).shape? h.size = some (e, cp) := by
          simp [World.shape?, hcs]
        have hfr : ({ W with heap := h.push (.cells cells e), drawn := W.drawn + 1 } : World).freeze ⟨h.size, cp, none⟩ 1 = W' := by
          simp only [World.freeze, Nat.one_ne_zero, if_false, W']
          congr 1
          apply Array.ext_getElem?
          intro j
          rw [Array.getElem?_modify]
          by_cases hj : h.size = j
          · subst hj; simp
          · have hj' : ¬ j = h.size := fun x => hj x.symm
            simp [Array.getElem?_push, hj, hj']
        simp only [Conv.stringToBytes, Sem.run_bind, run_choose, hforced, Bool.false_eq_true, if_false, Result.andThen_ok, newRow, run_newObj, Sem.run_pure, markStringish, run_shape]
        rw [show (Question.appendCap s.size 0 e).cut (W.tape W.drawn (.appendCap s.size 0 e)) = cp from rfl, hcells, r.heap]
        simp only [hsh, Sem.run_bind, run_freeze, hfr, Result.andThen_ok, Sem.run_pure]
      refine PM.value (v := (VV.lf (.slc ⟨some (h.size, 0), s.size, cp⟩)).val) (W' := W') ?_ ⟨_, _, _, hv, rfl, ?_, rfl, Ev.refl _, ⟨rfl, rfl, rfl⟩⟩
      · simp only [execOp, hx, convert, run_underlying hs, run_underlying hd, run_underlying hu, Sem.run_bind, Result.andThen_ok, hrun, Sem.run_pure]
        rfl
      · have r' := r.push (.cells cells e (cp, cp + 1))
        exact ⟨rfl, r'.ds, r'.len, r'.slot, r'.loc, r'.apart⟩
    · exact hv.elim
  · rename_i e0 e s hs hd he
    rw [he] at hx
    simp only [SVr, VV.val, Lf.val] at hx
    split at hv
    · rename_i hbq hu
      have hbq := Nat.eq_of_beq_eq_true hbq
      subst hbq
      obtain rfl : e0 = e := by rw [hs] at hd; cases hd; rfl
      unfold MarkC at hv
      split at hv
      · rename_i b off hsa
        obtain ⟨c, e', hb, hv⟩ := hv
        obtain ⟨hkeep, hk⟩ := keepC_iff (hv _ rfl)
        rw [sadr_some hsa rfl] at hx
        refine PM.value (v := (VV.lf (.slc s)).val) (W' := hp W (h.setIfInBounds b (.cells c e' (c.size, c.size + 1)))) ?_ ⟨_, _, _, hk, rfl, r.keep hkeep, rfl, Ev.refl _, hp_out _ _⟩
        have hsh : W.shape? b = some (e', c.size) := by simp [World.shape?, r.heap, hb]
        have hfr : W.freeze ⟨b, c.size, none⟩ 1 = hp W (h.setIfInBounds b (.cells c e' (c.size, c.size + 1))) := by
          simp only [World.freeze, Nat.one_ne_zero, if_false, hp, r.heap]
          congr 1
          apply Array.ext_getElem?
          intro j
          rw [Array.getElem?_modify, Array.getElem?_setIfInBounds]
          by_cases hj : b = j
          · subst hj
            have := size_pos_of_getElem? hb
            obtain ⟨_, hbe⟩ := Array.getElem?_eq_some_iff.1 hb
            simp [this, hbe]
          · simp [hj]
        simp only [execOp, hx, convert, run_underlying hs, run_underlying hu, Sem.run_bind, Result.andThen_ok, Sem.run_pure, beq_self_eq_true, markStringish, run_shape, hsh, run_freeze, hfr]
        show _ = Result.ok (Next.value (.slice (sadr s) s.len s.cap)) _
        rw [sadr_some hsa rfl]
      · exact hv.elim
    · exact hv.elim
  · exact hv.elim

theorem vals_load {W : World} : ∀ {l : List Value} {b off : Nat}, valsAt W.heap b off l → ∀ j v, l[j]? = some v → W.cell? ((⟨b, off, none⟩ : Addr).add j) = some v
  | [], _, _, _, j, v, hj => by simp at hj
  | x :: l, b, off, hc, j, v, hj => by
    obtain ⟨⟨c, e, fz, hb, hx⟩, hr⟩ := hc
    cases j with
    | zero =>
      simp at hj
      subst hj
      simp [Addr.add, World.cell?, hb, hx]
    | succ j =>
      have := vals_load hr j v (by simpa using hj)
      rw [← this]
      simp only [Addr.add]
      by_cases h0 : j = 0
      · subst h0; simp
      · simp [h0, Nat.add_assoc, Nat.add_comm 1 j]

theorem run_first {W : World} {s : Slc} {size n l c : Nat} {vs : List Value} (hs : srcAt W.heap s.a (n * size) vs) (hp : vs = [] ∨ s.plain) :
    (Builtin.firstCells size n (.slice (sadr s) l c)).run P W = .ok vs.toArray W := by
  obtain ⟨hl, hm⟩ := hs
  cases hsa : s.a with
  | none =>
    rw [hsa] at hm
    rw [sadr_none hsa]
    have : vs = [] := hm
    subst this; simp [Builtin.firstCells]
  | some p =>
    obtain ⟨b, off⟩ := p
    rw [hsa] at hm
    rw [sadr_some hsa rfl]
    have hld : ∀ i v, vs[i]? = some v → W.cell? ((⟨b, off, @Sp.v s.sp⟩ : Addr).add i) = some v := by
      rcases hp with h | h
      · subst h; intro i v hi; simp at hi
      · rw [show @Sp.v s.sp = none from h]; exact vals_load hm
    have := run_loadCells_list (P := P) W ⟨b, off, @Sp.v s.sp⟩ vs hld
    rw [hl] at this
    simp [Builtin.firstCells, this]

theorem srcAt_hp {h : Heap} {W : World} (e : W.heap = h) {p : Option (Nat × Nat)} {n : Nat} {vs : List Value} (hs : srcAt h p n vs) : srcAt W.heap p n vs := by rw [e]; exact hs

theorem PMn.of (r : Rel st h a W) {o : Oper} {x : VV} {W' : World} (hv : K (.v x) st W'.heap) (hr : Rel st W'.heap a W') (ho : Out W W') : PMn0 st a o W K (a.put o.dst x.val) W' :=
  ⟨_, _, _, hv, rfl, hr, rfl, Ev.refl _, ho⟩

theorem run_appV (r : Rel st h a W) {t u ty e : TypeId} {i : TypeInfo} {z : VV} (ht : P.underlying t = some (.slice e)) (hi : P.info? e = some i) (hiz : i.zero = some z.val)
    (hzc : z.val.cells = (z.cells.map Lf.val).toArray) {du : TypeDesc} (hu : P.underlying u = some du) (hd : (∃ e', du = .slice e') ∨ du = .string) {s : Slc} {n : Nat} {x : Value} {news : List Value}
    (hlen : ∀ W', (Builtin.lenOf x).run P W' = .ok n W') (hfirst : ∀ W', W'.heap = h → (Builtin.firstCells i.size n x).run P W' = .ok news.toArray W')
    {K' : Slc → Heap → Prop} (hv : AppV e (z.cells.map Lf.val) i.size i.bytes s n news h K') :
    ∃ s' W', (Builtin.append_ #[t, u] ty #[.slice (sadr s) s.len s.cap, x]).run P W = .ok (Lf.slc s').val W' ∧ K' s' W'.heap ∧ Out W W' := by
  obtain ⟨h1, hroom, hgrow⟩ := hv
  have hzr : ∀ c : Nat, Builtin.zeroCells z.val.cells c = Builtin.zeroCells (z.cells.map Lf.val).toArray c := fun c => by rw [hzc]
  rcases hd with ⟨e', rfl⟩ | rfl
  all_goals
    by_cases hle : s.len + n ≤ s.cap
    · have hroom := hroom hle
      unfold Builtin.append_
      simp only [List.getElem?_toArray, List.getElem?_cons_zero, List.getElem?_cons_succ, Sem.run_bind, run_underlying ht, run_underlying hu, run_sz hi, Result.andThen_ok, Sem.run_pure, Bool.false_eq_true, if_false, hlen, hle, if_true, Bool.not_false, hfirst W r.heap]
      have hmore : (Lf.slc (s.more n)).val = .slice (sadr s) (s.len + n) s.cap := rfl
      cases hsa : s.a with
      | none =>
        rw [hsa] at hroom
        refine ⟨s.more n, W, ?_, by rw [r.heap]; exact hroom, Out.refl _⟩
        rw [hmore, sadr_none hsa]
        simp
      | some p =>
        obtain ⟨b, off⟩ := p
        rw [hsa] at hroom
        obtain ⟨he, hne⟩ := hroom
        by_cases hnews : news = []
        · refine ⟨s.more n, W, ?_, by rw [r.heap]; exact he hnews, Out.refl _⟩
          subst hnews
          rw [hmore, sadr_some hsa rfl]
          simp [storeCells]
        · obtain ⟨hpl, c, e2, fz, hb, hfit, hf, hk⟩ := hne hnews
          have hst := run_storeCells_wr (P := P) b (off + s.len * i.size) e2 fz news 0 c W (by rw [r.heap]; exact hb) (by simpa using hfit) (by simpa using hf) h1
          simp only [Nat.add_zero, r.heap] at hst
          refine ⟨s.more n, hp W (h.setIfInBounds b (.cells (wr c (off + s.len * i.size) news) e2 fz)), ?_, hk _ rfl, hp_out W _⟩
          rw [hmore, sadr_some hsa rfl, show @Sp.v s.sp = none from hpl]
          simp only [add_add, Sem.run_bind, hst, Result.andThen_ok, Sem.run_pure]
    · obtain ⟨hb0, hcapb, olds, holds, hopl, hk⟩ := hgrow (by omega)
      have hn1 : ¬ (((s.len + n : Nat) : Int) > IntKind.i64.max ∧ (False ∨ i.bytes = 0)) := fun hh => by rcases hh.2 with h' | h'; exact h'; omega
      have hn2 : ¬ (Builtin.nextslicecap (s.len + n) s.cap * i.bytes > 2 ^ 48) := by simpa using hcapb
      let cp := (Question.appendCap (s.len + n) s.cap e).cut (W.tape W.drawn (.appendCap (s.len + n) s.cap e))
      have hcp : s.len + n ≤ cp := by simp [cp, Question.cut]
      have hk := hk cp _ _ hcp rfl rfl
      let W2 : World := { heap := h, tape := W.tape, drawn := W.drawn + 1, os := W.os, output := W.output }
      have hbase2 : (Builtin.firstCells i.size s.len (.slice (sadr s) s.len s.cap)).run P W2 = .ok olds.toArray W2 := run_first (W := W2) holds hopl
      have hfirst2 := hfirst W2 rfl
      have hforced : (Question.appendCap (s.len + n) s.cap e).forced = false := rfl
      refine ⟨⟨some (h.size, 0), s.len + n, cp⟩, hp W2 (h.push (.cells (olds.toArray ++ news.toArray ++ Builtin.zeroCells (z.cells.map Lf.val).toArray (cp - (s.len + n))) e)), ?_, hk, ⟨rfl, rfl, rfl⟩⟩
      unfold Builtin.append_
      simp only [List.getElem?_toArray, List.getElem?_cons_zero, List.getElem?_cons_succ, Sem.run_bind, run_underlying ht, run_underlying hu, run_sz hi, Result.andThen_ok, Sem.run_pure, Bool.false_eq_true, if_false, hlen, hle, Bool.not_false, typeInfo, run_program, hi, hn1, hn2, run_choose, hforced, run_askRoom]
      rw [show (Question.appendCap (s.len + n) s.cap e).cut (W.tape W.drawn (.appendCap (s.len + n) s.cap e)) = cp from rfl]
      have hbase3 := hbase2
      have hal : W2.alloc (.cells (olds.toArray ++ news.toArray ++ Builtin.zeroCells (z.cells.map Lf.val).toArray (cp - (s.len + n))) e) = hp W2 (h.push (.cells (olds.toArray ++ news.toArray ++ Builtin.zeroCells (z.cells.map Lf.val).toArray (cp - (s.len + n))) e)) := alloc_hp (W := W2) rfl _
      simp only [r.heap]
      rw [hbase3]
      simp only [Result.andThen_ok, if_true]
      rw [hfirst2]
      simp only [Result.andThen_ok, zeroValue, typeInfo, Sem.run_bind, run_program, hi, hiz, Sem.run_pure, hzr, newRow, run_newObj]
      rfl

theorem str_first {P : Program} (sz : Nat) (s : ByteArray) (W' : World) : (Builtin.firstCells sz s.size (.string s)).run P W' = .ok (s.data.toList.map fun c => Value.int .u8 c.toNat).toArray W' := by
  have : s.extract 0 s.size = s := by simp
  simp only [Builtin.firstCells, this, Sem.run_pure]
  congr 1
  apply Array.ext'
  simp

theorem callee_some {o : Operand} {f : FuncId} {l m : List VV} (h : callee st o = some (f, l, m)) : o = .func f ∧ l = [] ∧ m = [] := by
  cases o <;> simp [callee] at h
  obtain ⟨rfl, rfl, rfl⟩ := h
  exact ⟨rfl, rfl, rfl⟩

theorem app_lam : ∀ (ts : List LT) {R : Type} (g : List Lf → R) (l : List Lf) (K : R → Prop), app ts (lam ts g) l K → K (g l)
  | [], _, g, [], K, h => h
  | t :: ts, _, g, x :: l, K, h => by
    simp only [app, lam] at h
    split at h
    · rename_i d hd
      have := app_lam ts _ l K h
      rw [LT.get_mk hd] at this
      exact this
    · exact h.elim
  | [], _, _, _ :: _, _, h => h.elim
  | _ :: _, _, _, [], _, h => h.elim

theorem ret_sv (vs : List VV) : SVr st (retSV vs) (rets vs) := by
  match vs with
  | [x] => rfl
  | [] => rfl
  | _ :: _ :: _ => rfl

theorem PMn.ofTup (r : Rel st h a W) {o : Oper} {l : List VV} {W' : World} (hv : K (.tup l) st W'.heap) (hr : Rel st W'.heap a W') (ho : Out W W') : PMn0 st a o W K (a.put o.dst (.tuple (l.map VV.val).toArray)) W' :=
  ⟨_, _, _, hv, rfl, hr, rfl, Ev.refl _, ho⟩
theorem PMn.ofUnk (r : Rel st h a W) {o : Oper} {v : Value} {W' : World} (hv : K .unk st W'.heap) (hr : Rel st W'.heap a W') (ho : Out W W') : PMn0 st a o W K (a.put o.dst v) W' :=
  ⟨_, _, _, hv, rfl, hr, trivial, Ev.refl _, ho⟩

theorem m_makeMap (r : Rel st h a W) {pl : Plan} {t : TypeId} {x : Option Operand} (hv : vcM P pl ⟨dst, .makeMap t x, type, pos, after, guard⟩ st h K Qp) : PM P ⟨dst, .makeMap t x, type, pos, after, guard⟩ st a W K Qp := by
  have go : NewM h (fun b h' => K (.v (.lf (.map (some b)))) st h') → (Instr.makeMap t (x.map a.eval)).run P W = .ok (.map (some h.size)) (hp W (h.push (.map #[] 0))) → PM P ⟨dst, .makeMap t x, type, pos, after, guard⟩ st a W K Qp := fun hn hrun => by
    refine m_push (x := .lf (.map (some h.size))) r ?_ (hn _ _ rfl rfl)
    simp only [execOp, Sem.run_bind, hrun, Result.andThen_ok, Sem.run_pure]; rfl
  have hh := r.heap
  cases x with
  | none =>
    simp only [vcM] at hv
    refine go hv ?_
    subst hh
    simp [Instr.makeMap, newObj, Sem.run, hp]
  | some x =>
    simp only [vcM] at hv
    have hx := r.ev x
    split at hv
    · rename_i k e kk n hu he
      rw [he] at hx
      simp only [SVr, VV.val, Lf.val] at hx
      refine go hv ?_
      subst hh
      simp [Instr.makeMap, newObj, Sem.run, hp, Sem.run_bind, run_underlying hu, hx, asInt, asIntOf]
    · exact hv.elim

theorem m_mapUpdate (r : Rel st h a W) {pl : Plan} {t : TypeId} {x i y : Operand} (hv : vcM P pl ⟨dst, .mapUpdate t x i y, type, pos, after, guard⟩ st h K Qp) : PM P ⟨dst, .mapUpdate t x i y, type, pos, after, guard⟩ st a W K Qp := by
  simp only [vcM] at hv
  obtain ⟨kT, eT, kt, vt, z, hu, hk, hvt, hz, hv⟩ := mapT_elim hv
  have hx := r.ev x
  have hi := r.ev i
  have hy := r.ev y
  have hh := r.heap
  split at hv
  · rename_i m k v he he' he''
    rw [he] at hx; rw [he'] at hi; rw [he''] at hy
    obtain ⟨d, hd, hv⟩ := opt_some hv
    obtain ⟨hvv, b, es, clock, rfl, hb, hok, hv⟩ := okIf_elim hv
    have hkv : k.val = (kt.mk d).val := by rw [LT.get_mk hd]
    have hi' : a.eval i = (kt.mk d).val := by rw [← hkv]; exact hi
    have hx' : a.eval x = .map (some b) := hx
    have hy' : a.eval y = v.val := hy
    subst hh
    have hrun := mapUpdate_run (P := P) hu hk hb hok hvv
    refine PM.skip (W' := hp W (W.heap.setIfInBounds b (mobj kt vt (mput kt d v.cells es clock).1 (mput kt d v.cells es clock).2))) ?_ (PMn.ofUnk r (hv _ rfl) (r.setMap hb) (hp_out _ _))
    simp only [execOp, hx', hi', hy', Sem.run_bind, hrun, Result.andThen_ok, Sem.run_pure]
  · exact hv.elim

theorem m_mapEntry (r : Rel st h a W) {pl : Plan} {t : TypeId} {x i : Operand} (hv : vcM P pl ⟨dst, .mapEntry t x i, type, pos, after, guard⟩ st h K Qp) : PM P ⟨dst, .mapEntry t x i, type, pos, after, guard⟩ st a W K Qp := by
  simp only [vcM] at hv
  obtain ⟨kT, eT, kt, vt, z, hu, hk, hvt, hz, hv⟩ := mapT_elim hv
  have hx := r.ev x
  have hi := r.ev i
  have hh := r.heap
  split at hv
  · rename_i m k he he'
    rw [he] at hx; rw [he'] at hi
    obtain ⟨d, hd, hv⟩ := opt_some hv
    obtain ⟨b, es, clock, rfl, hb, hok, hv⟩ := hv
    obtain ⟨l, hl, hle, hv⟩ := ExL_elim hv
    have hkv : k.val = (kt.mk d).val := by rw [LT.get_mk hd]
    have hi' : a.eval i = (kt.mk d).val := by rw [← hkv]; exact hi
    have hx' : a.eval x = .map (some b) := hx
    subst hh
    have hrun := mapEntry_run (P := P) hu hk rfl hvt hz hb hok
    rw [← hle] at hrun
    refine PM.value (v := .tuple #[(vt.put l).val, goInt (ment kt d z.cells es clock).2.1]) (W' := hp W (W.heap.setIfInBounds b (mobj kt vt (ment kt d z.cells es clock).2.2.1 (ment kt d z.cells es clock).2.2.2))) ?_ (PMn.ofTup r (hv _ _ rfl rfl) (r.setMap hb) (hp_out _ _))
    simp only [execOp, hx', hi', Sem.run_bind, hrun, Result.andThen_ok, Sem.run_pure]
  · exact hv.elim

theorem m_entryStore (r : Rel st h a W) {pl : Plan} {t : TypeId} {x i y : Operand} (hv : vcM P pl ⟨dst, .entryStore t x i y, type, pos, after, guard⟩ st h K Qp) : PM P ⟨dst, .entryStore t x i y, type, pos, after, guard⟩ st a W K Qp := by
  simp only [vcM] at hv
  obtain ⟨kT, eT, kt, vt, z, hu, hk, hvt, hz, hv⟩ := mapT_elim hv
  have hx := r.ev x
  have hi := r.ev i
  have hy := r.ev y
  have hh := r.heap
  split at hv
  · rename_i m k n v he he' he''
    rw [he] at hx; rw [he'] at hi; rw [he''] at hy
    obtain ⟨hvv, b, es, clock, j, rfl, rfl, hb, hex, hv⟩ := okIf_elim hv
    have hi' : a.eval i = .int k (j : Int) := hi
    have hx' : a.eval x = .map (some b) := hx
    have hy' : a.eval y = v.val := hy
    subst hh
    have hrun := entryStore_run (P := P) (t := t) (k := k) hb hex hvv
    refine PM.skip (W' := hp W (W.heap.setIfInBounds b (mobj kt vt (msto j v.cells es) clock))) ?_ (PMn.ofUnk r (hv _ rfl) (r.setMap hb) (hp_out _ _))
    simp only [execOp, hx', hi', hy', Sem.run_bind, hrun, Result.andThen_ok, Sem.run_pure]
  · exact hv.elim

theorem m_range (r : Rel st h a W) {pl : Plan} {t : TypeId} {x : Operand} (hv : vcM P pl ⟨dst, .range t x, type, pos, after, guard⟩ st h K Qp) : PM P ⟨dst, .range t x, type, pos, after, guard⟩ st a W K Qp := by
  simp only [vcM] at hv
  have hx := r.ev x
  have hh := r.heap
  split at hv
  · rename_i m he
    obtain ⟨kT, eT, kt, vt, z, hu, hk, hvt, hz, hv⟩ := mapT_elim hv
    rw [he] at hx
    have hx' : a.eval x = .map m := hx
    subst hh
    obtain ⟨o, hrun, hK⟩ := range_run (P := P) hu hv
    refine m_push (x := .lf (.ptr (some (W.heap.size, 0)))) r ?_ hK
    simp only [execOp, hx', Sem.run_bind, hrun, Result.andThen_ok, Sem.run_pure]; rfl
  · rename_i s he
    split at hv
    · rename_i hu
      rw [he] at hx
      have hx' : a.eval x = .string s := hx
      subst hh
      obtain ⟨o, hrun, hK⟩ := rangeS_run (P := P) hu hv
      refine m_push (x := .lf (.ptr (some (W.heap.size, 0)))) r ?_ hK
      simp only [execOp, hx', Sem.run_bind, hrun, Result.andThen_ok, Sem.run_pure]; rfl
    · exact hv.elim
  · exact hv.elim

theorem m_next (r : Rel st h a W) {pl : Plan} {x : Operand} {s : Bool} (hv : vcM P pl ⟨dst, .next x s, type, pos, after, guard⟩ st h K Qp) : PM P ⟨dst, .next x s, type, pos, after, guard⟩ st a W K Qp := by
  simp only [vcM] at hv
  have hx := r.ev x
  have hh := r.heap
  split at hv
  · rename_i i
    obtain ⟨t, ht, hv⟩ := opt_some hv
    obtain ⟨kT, eT, kt, vt, z, hu, hk, hvt, hz, hv⟩ := mapT_elim hv
    split at hv
    · rename_i b he
      rw [he] at hx
      have hx' : a.eval (.tmp i) = .pointer (some ⟨b, 0, none⟩) := hx
      subst hh
      rcases next_run (P := P) hv type with ⟨hrun, hK⟩ | ⟨k, l, W', hrun, hK, ho, m, sn, seen, c, o, hb, hw⟩
      · refine PM.value (v := .tuple #[.bool false]) (W' := W) ?_ (PMn.ofTup (l := [.lf (.bool false)]) r hK r (Out.refl _))
        simp only [execOp, hx', Sem.run_bind, hrun, Result.andThen_ok, Sem.run_pure]
      · refine PM.value (v := .tuple #[.bool true, (kt.mk k).val, (vt.put l).val]) (W' := W') ?_ (PMn.ofTup (l := [.lf (.bool true), .lf (kt.mk k), vt.put l]) r hK ?_ ho)
        · simp only [execOp, hx', Sem.run_bind, hrun, Result.andThen_ok, Sem.run_pure]
        · have r2 := r.setObj (b := b) (o := o) (fun l e => by rw [hb] at e; cases e)
          rw [hw]
          exact ⟨hw, r2.ds, r2.len, r2.slot, r2.loc, r2.apart⟩
    · exact hv.elim
  · rename_i i
    split at hv
    · rename_i b he
      rw [he] at hx
      have hx' : a.eval (.tmp i) = .pointer (some ⟨b, 0, none⟩) := hx
      subst hh
      rcases nextS_run (P := P) hv type with ⟨hrun, hK⟩ | ⟨k, c, o, hrun, hK, sn, pos, hb⟩
      · refine PM.value (v := .tuple #[.bool false]) (W' := W) ?_ (PMn.ofTup (l := [.lf (.bool false)]) r hK r (Out.refl _))
        simp only [execOp, hx', Sem.run_bind, hrun, Result.andThen_ok, Sem.run_pure]
      · refine PM.value (v := .tuple #[.bool true, .int .i64 k, .int .i32 c]) (W' := hp W (W.heap.setIfInBounds b o)) ?_ (PMn.ofTup (l := [.lf (.bool true), .lf (.int .i64 k), .lf (.int .i32 c)]) r hK ?_ (hp_out _ _))
        · simp only [execOp, hx', Sem.run_bind, hrun, Result.andThen_ok, Sem.run_pure]
        · exact r.setObj (b := b) (o := o) (fun l e => by rw [hb] at e; cases e)
    · exact hv.elim
  · exact hv.elim

theorem m_entry (r : Rel st h a W) {pl : Plan} {x : Operand} (hv : vcM P pl ⟨dst, .entry x, type, pos, after, guard⟩ st h K Qp) : PM P ⟨dst, .entry x, type, pos, after, guard⟩ st a W K Qp := by
  simp only [vcM] at hv
  have hx := r.ev x
  have hh := r.heap
  split at hv
  · rename_i i
    obtain ⟨t, ht, hv⟩ := opt_some hv
    obtain ⟨kT, eT, kt, vt, z, hu, hk, hvt, hz, hv⟩ := mapT_elim hv
    split at hv
    · rename_i b he
      rw [he] at hx
      have hx' : a.eval (.tmp i) = .pointer (some ⟨b, 0, none⟩) := hx
      subst hh
      obtain ⟨k, hv⟩ := hv
      obtain ⟨l, hl, he', hK⟩ := ExL_elim hv
      have hrun := entry_run (P := P) he'
      refine PM.value (v := .tuple #[(kt.mk k).val, (vt.put l).val]) (W' := W) ?_ (PMn.ofTup (l := [.lf (kt.mk k), vt.put l]) r hK r (Out.refl _))
      simp only [execOp, hx', Sem.run_bind, hrun, Result.andThen_ok, Sem.run_pure]
    · exact hv.elim
  · exact hv.elim

theorem m_delete (r : Rel st h a W) {t u : TypeId} {m : Option Nat} {kt : LT} {vt : VT} {kT eT : TypeId} (hu : P.underlying t = some (.map kT eT)) (hk : keyKind P kT = some kt) {d : kt.den} {x i : Operand}
    (hx : a.eval x = .map m) (hi : a.eval i = (kt.mk d).val) (hv : DelC kt vt h m d fun h' => K (.tup []) st h') : PM P ⟨dst, .call ⟨.builtin .delete, #[x, i], #[t, u]⟩, type, pos, after, guard⟩ st a W K Qp := by
  have hh := r.heap
  subst hh
  obtain ⟨W', hrun, hK, hw⟩ := delete_run (P := P) hu hk hv type u
  refine PM.value (v := .tuple #[]) (W' := W') ?_ (PMn.ofTup (l := []) r hK ?_ ?_)
  · simp [execOp, resolve, invoke, builtin, hx, hi, hrun]
  · rcases hw with rfl | ⟨b, es, c, o, _, hb, rfl⟩
    · exact r
    · exact r.setMap hb
  · rcases hw with rfl | ⟨b, es, c, o, _, hb, rfl⟩
    · exact Out.refl _
    · exact hp_out _ _

theorem zeroCells_flat (z : List Value) (n : Nat) : (Builtin.zeroCells z.toArray n).toList = (List.replicate n z).flatten := by
  have key : ∀ n : Nat, (List.range (n * z.length)).map (fun i => z[i % z.length]?.getD default) = (List.replicate n z).flatten := by
    intro n
    induction n with
    | zero => simp
    | succ n ih =>
      rw [Nat.add_mul, Nat.one_mul, Nat.add_comm, List.range_add, List.map_append, List.map_map, List.replicate_succ, List.flatten_cons, ← ih]
      congr 1
      · apply List.ext_getElem?
        intro i
        by_cases hi : i < z.length
        · simp [hi, Nat.mod_eq_of_lt hi]
        · simp [hi]
      · apply List.map_congr_left
        intro i _
        simp
  simpa [Builtin.zeroCells] using key n

theorem run_appZ (r : Rel st h a W) {t u ty e : TypeId} {i : TypeInfo} {z : VV} (ht : P.underlying t = some (.slice e)) (hi : P.info? e = some i) (hiz : i.zero = some z.val)
    (hszz : i.size = z.cells.length) (hzc : z.val.cells = (z.cells.map Lf.val).toArray) {k : IntKind} (hu : P.underlying u = some (.int k)) {s : Slc} {k' : IntKind} {n : Int}
    {K' : Slc → Heap → Prop} (hv : AppZ e z.cells i.size i.bytes s n h K') :
    ∃ s' W', (Builtin.append_ #[t, u] ty #[.slice (sadr s) s.len s.cap, .int k' n]).run P W = .ok (Lf.slc s').val W' ∧ K' s' W'.heap ∧ Out W W' := by
  obtain ⟨hn0, hnm, hnb, hlm, h1, hroom, hgrow⟩ := hv
  have hzr : ∀ c : Nat, Builtin.zeroCells z.val.cells c = Builtin.zeroCells (z.cells.map Lf.val).toArray c := fun c => by rw [hzc]
  have hw : IntKind.wrap .i64 n = n := IntWalk.i64_in n ⟨by omega, by omega⟩
  have hneg : ¬ n < 0 := by omega
  have hbig : ¬ (n * (i.bytes : Int) > 2 ^ 48) := by omega
  have hnews : (if n.toNat * i.size = 0 then #[] else Builtin.zeroCells z.val.cells n.toNat) = (List.replicate n.toNat (z.cells.map Lf.val)).flatten.toArray := by
    have hl : (List.replicate n.toNat (z.cells.map Lf.val)).flatten.length = n.toNat * i.size := by
      rw [hszz]; simp
    split
    · rename_i h0
      rw [h0] at hl
      rw [List.length_eq_zero_iff.1 hl]
    · rw [hzr, ← zeroCells_flat]
  generalize hne : (List.replicate n.toNat (z.cells.map Lf.val)).flatten = news at *
  by_cases hle : s.len + n.toNat ≤ s.cap
  · have hroom := hroom hle
    have hmore : (Lf.slc (s.more n.toNat)).val = .slice (sadr s) (s.len + n.toNat) s.cap := rfl
    have hap : ∀ (W' : World), (if n.toNat * i.size = 0 then (pure #[] : Sem (Array Value)) else do pure (Builtin.zeroCells (← zeroValue e).cells n.toNat)).run P W' = .ok news.toArray W' := fun W' => by
      split
      · rename_i h0; rw [if_pos h0] at hnews; rw [← hnews]; rfl
      · rename_i h0; rw [if_neg h0] at hnews; simp [zeroValue, typeInfo, run_program, hi, hiz, hnews]
    unfold Builtin.append_
    simp only [List.getElem?_toArray, List.getElem?_cons_zero, List.getElem?_cons_succ, Sem.run_bind, run_underlying ht, run_underlying hu, run_sz hi, Result.andThen_ok, Sem.run_pure, if_true, asInt, asIntOf, hw, hneg, if_false, typeInfo, run_program, hi, hbig, hle, Bool.not_true, Bool.false_eq_true, hap]
    cases hsa : s.a with
    | none =>
      rw [hsa] at hroom
      refine ⟨s.more n.toNat, W, ?_, by rw [r.heap]; exact hroom, Out.refl _⟩
      rw [hmore, sadr_none hsa]
      simp
    | some p =>
      obtain ⟨b, off⟩ := p
      rw [hsa] at hroom
      obtain ⟨he, hne'⟩ := hroom
      by_cases hnw : news = []
      · refine ⟨s.more n.toNat, W, ?_, by rw [r.heap]; exact he hnw, Out.refl _⟩
        rw [hmore, sadr_some hsa rfl]
        simp [hnw, storeCells]
      · obtain ⟨hpl, c, e2, fz, hb, hfit, hf, hk⟩ := hne' hnw
        have hst := run_storeCells_wr (P := P) b (off + s.len * i.size) e2 fz news 0 c W (by rw [r.heap]; exact hb) (by simpa using hfit) (by simpa using hf) h1
        simp only [Nat.add_zero, r.heap] at hst
        refine ⟨s.more n.toNat, hp W (h.setIfInBounds b (.cells (wr c (off + s.len * i.size) news) e2 fz)), ?_, hk _ rfl, hp_out W _⟩
        rw [hmore, sadr_some hsa rfl, show @Sp.v s.sp = none from hpl]
        simp only [add_add, Sem.run_bind, hst, Result.andThen_ok, Sem.run_pure]
  · obtain ⟨hb0, hcapb, olds, holds, hopl, hk⟩ := hgrow (by omega)
    have hn1 : ¬ (((s.len + n.toNat : Nat) : Int) > IntKind.i64.max ∧ True) := fun hh => by
      have := hh.1
      have hm : IntKind.i64.max = 9223372036854775807 := rfl
      omega
    have hn2 : ¬ (Builtin.nextslicecap (s.len + n.toNat) s.cap * i.bytes > 2 ^ 48) := by simpa using hcapb
    let cp := (Question.appendCap (s.len + n.toNat) s.cap e).cut (W.tape W.drawn (.appendCap (s.len + n.toNat) s.cap e))
    have hcp : s.len + n.toNat ≤ cp := by simp [cp, Question.cut]
    have hk := hk cp _ _ hcp rfl rfl
    let W2 : World := { heap := h, tape := W.tape, drawn := W.drawn + 1, os := W.os, output := W.output }
    have hbase2 : (Builtin.firstCells i.size s.len (.slice (sadr s) s.len s.cap)).run P W2 = .ok olds.toArray W2 := run_first (W := W2) holds hopl
    have hap : ∀ (W' : World), (if n.toNat * i.size = 0 then (pure #[] : Sem (Array Value)) else do pure (Builtin.zeroCells (← zeroValue e).cells n.toNat)).run P W' = .ok news.toArray W' := fun W' => by
      split
      · rename_i h0; rw [if_pos h0] at hnews; rw [← hnews]; rfl
      · rename_i h0; rw [if_neg h0] at hnews; simp [zeroValue, typeInfo, run_program, hi, hiz, hnews]
    have hforced : (Question.appendCap (s.len + n.toNat) s.cap e).forced = false := rfl
    refine ⟨⟨some (h.size, 0), s.len + n.toNat, cp⟩, hp W2 (h.push (.cells (olds.toArray ++ news.toArray ++ Builtin.zeroCells (z.cells.map Lf.val).toArray (cp - (s.len + n.toNat))) e)), ?_, hk, ⟨rfl, rfl, rfl⟩⟩
    have hal : W2.alloc (.cells (olds.toArray ++ news.toArray ++ Builtin.zeroCells (z.cells.map Lf.val).toArray (cp - (s.len + n.toNat))) e) = hp W2 (h.push (.cells (olds.toArray ++ news.toArray ++ Builtin.zeroCells (z.cells.map Lf.val).toArray (cp - (s.len + n.toNat))) e)) := alloc_hp (W := W2) rfl _
    unfold Builtin.append_
    simp only [List.getElem?_toArray, List.getElem?_cons_zero, List.getElem?_cons_succ, Sem.run_bind, run_underlying ht, run_underlying hu, run_sz hi, Result.andThen_ok, Sem.run_pure, if_true, asInt, asIntOf, hw, hneg, if_false, typeInfo, run_program, hi, hbig, hle, Bool.not_true, Bool.false_eq_true, true_or, hn1, hn2, run_choose, hforced, run_askRoom]
    rw [show (Question.appendCap (s.len + n.toNat) s.cap e).cut (W.tape W.drawn (.appendCap (s.len + n.toNat) s.cap e)) = cp from rfl]
    have hbase3 := hbase2
    simp only [r.heap]
    rw [hbase3]
    simp only [Result.andThen_ok]
    rw [hap]
    simp only [Result.andThen_ok, zeroValue, typeInfo, Sem.run_bind, run_program, hi, hiz, Sem.run_pure, hzr, newRow, run_newObj]
    rfl

theorem m_clear (r : Rel st h a W) {t e : TypeId} {s : Slc} {z : VV} (hu : P.underlying t = some (.slice e)) (hz : zeroOf P e = some z) {x : Operand} (hx : a.eval x = .slice (sadr s) s.len s.cap)
    (hv : ClrC z.cells s h fun h' => keepC h h' (locBs st.ls) (K (.tup []) st h')) : PM P ⟨dst, .call ⟨.builtin .clear, #[x], #[t]⟩, type, pos, after, guard⟩ st a W K Qp := by
  have hh := r.heap
  subst hh
  obtain ⟨i, hi, hiz, hszz, hzc⟩ := zeroOf_run hz
  have fin : ∀ W' : World, Out W W' → (Builtin.clear_ #[t] type #[.slice (sadr s) s.len s.cap]).run P W = .ok (.tuple #[]) W' → keepC W.heap W'.heap (locBs st.ls) (K (.tup []) st W'.heap) →
      (W'.heap = W.heap → True) → Rel st W'.heap a W' ∨ True → PM P ⟨dst, .call ⟨.builtin .clear, #[x], #[t]⟩, type, pos, after, guard⟩ st a W K Qp := by
    intro W' ho hrun hK _ _
    obtain ⟨hkeep, hk⟩ := keepC_iff hK
    refine PM.value (v := .tuple #[]) (W' := W') ?_ (PMn.ofTup (l := []) r hk (r.keep hkeep) ho)
    simp [execOp, resolve, invoke, builtin, hx, hrun]
  unfold ClrC at hv
  cases hsa : s.a with
  | none =>
    rw [hsa] at hv
    rw [sadr_none hsa] at fin hx
    exact fin W (Out.refl _) (by simp [Builtin.clear_, Sem.run_bind, run_underlying hu]) hv (fun _ => trivial) (.inr trivial)
  | some p =>
    obtain ⟨b, off⟩ := p
    rw [hsa] at hv
    rw [sadr_some hsa rfl] at fin hx
    by_cases hn : s.len = 0
    · exact fin W (Out.refl _) (by simp [Builtin.clear_, Sem.run_bind, run_underlying hu, hn]) (hv.1 hn) (fun _ => trivial) (.inr trivial)
    · obtain ⟨hpl, c, ty, fz, hb, hle, hfz, hK⟩ := hv.2 hn
      have hpl : @Sp.v s.sp = none := hpl
      rw [hpl] at fin hx
      have hst := run_storeCells_wr (P := P) b off ty fz ((List.replicate s.len (z.cells.map Lf.val)).flatten) 0 c W hb hle hfz (fun v hv => by
        obtain ⟨l, hl, hvl⟩ := List.mem_flatten.1 hv
        have := (List.mem_replicate.1 hl).2
        subst this
        obtain ⟨y, _, rfl⟩ := List.mem_map.1 hvl; exact Lf.val_one y)
      refine fin (hp W (W.heap.setIfInBounds b (.cells (wr c off ((List.replicate s.len (z.cells.map Lf.val)).flatten)) ty fz))) (hp_out _ _) ?_ (hK _ rfl) (fun _ => trivial) (.inr trivial)
      obtain ⟨n, hn'⟩ : ∃ n, s.len = n + 1 := ⟨s.len - 1, by omega⟩
      have hzr := zero_run (P := P) hz W
      have hzl : (Builtin.zeroCells z.val.cells s.len).toList = (List.replicate s.len (z.cells.map Lf.val)).flatten := by
        rw [hzc]; exact zeroCells_flat _ _
      rw [Nat.add_zero] at hst
      rw [hn'] at hst hzl ⊢
      simp only [Builtin.clear_, List.getElem?_toArray, List.getElem?_cons_zero, Sem.run_bind, run_underlying hu, Result.andThen_ok, hzr, hzl, hst, Sem.run_pure]

theorem m_copy (r : Rel st h a W) {t u e : TypeId} {d s : Slc} {sz : Nat} (hu : P.underlying t = some (.slice e)) (hz : ∀ W : World, (sizeOf e).run P W = .ok sz W) {x y : Operand} (hx : a.eval x = .slice (sadr d) d.len d.cap) (hy : a.eval y = .slice (sadr s) s.len s.cap)
    (hv : CpyC sz d s h fun n h' => keepC h h' (locBs st.ls) (K (.v (.lf (.int .i64 n))) st h')) : PM P ⟨dst, .call ⟨.builtin .copy, #[x, y], #[t, u]⟩, type, pos, after, guard⟩ st a W K Qp := by
  have hh := r.heap
  subst hh
  obtain ⟨vs, hsrc, hone, hpl, hv⟩ := hv
  have fin : ∀ W' : World, Out W W' → (Builtin.copy_ #[t, u] type #[.slice (sadr d) d.len d.cap, .slice (sadr s) s.len s.cap]).run P W = .ok (.int .i64 ((Nat.min s.len d.len : Nat) : Int)) W' →
      keepC W.heap W'.heap (locBs st.ls) (K (.v (.lf (.int .i64 ((Nat.min s.len d.len : Nat) : Int)))) st W'.heap) → PM P ⟨dst, .call ⟨.builtin .copy, #[x, y], #[t, u]⟩, type, pos, after, guard⟩ st a W K Qp := by
    intro W' ho hrun hK
    obtain ⟨hkeep, hk⟩ := keepC_iff hK
    refine PM.value (v := .int .i64 ((Nat.min s.len d.len : Nat) : Int)) (W' := W') ?_ (PMn.of (x := .lf (.int .i64 ((Nat.min s.len d.len : Nat) : Int))) r hk (r.keep hkeep) ho)
    simp [execOp, resolve, invoke, builtin, hx, hy, hrun]
  have hfirst : (Builtin.firstCells sz (Nat.min s.len d.len) (.slice (sadr s) s.len s.cap)).run P W = .ok vs.toArray W := run_first (W := W) hsrc (hpl.imp id fun h => h.1)
  cases hda : d.a with
  | none =>
    rw [hda] at hv
    rw [sadr_none hda] at fin
    refine fin W (Out.refl _) ?_ hv
    simp only [Builtin.copy_, List.getElem?_toArray, List.getElem?_cons_zero, List.getElem?_cons_succ, Sem.run_bind, run_underlying hu, Result.andThen_ok, Builtin.lenOf, Sem.run_pure, hz, hfirst]
    rfl
  | some p =>
    obtain ⟨b, off⟩ := p
    rw [hda] at hv
    rw [sadr_some hda rfl] at fin
    by_cases hn : vs = []
    · refine fin W (Out.refl _) ?_ (hv.1 hn)
      subst hn
      simp only [Builtin.copy_, List.getElem?_toArray, List.getElem?_cons_zero, List.getElem?_cons_succ, Sem.run_bind, run_underlying hu, Result.andThen_ok, Builtin.lenOf, Sem.run_pure, hz, hfirst]
      simp [storeCells, goInt]
    · obtain ⟨c, ty, fz, hb, hle, hfz, hK⟩ := hv.2 hn
      have hdp : @Sp.v d.sp = none := (hpl.resolve_left hn).2
      rw [hdp] at fin
      have hst := run_storeCells_wr (P := P) b off ty fz vs 0 c W hb hle hfz hone
      refine fin (hp W (W.heap.setIfInBounds b (.cells (wr c off vs) ty fz))) (hp_out _ _) ?_ (hK _ rfl)
      rw [Nat.add_zero] at hst
      simp only [Builtin.copy_, List.getElem?_toArray, List.getElem?_cons_zero, List.getElem?_cons_succ, Sem.run_bind, run_underlying hu, Result.andThen_ok, Builtin.lenOf, Sem.run_pure, hz, hfirst, hst]
      simp [goInt]

theorem m_callV (hng : ∀ (f : Nat) (fn : Func), P.funcs[f]? = some fn → (fn.name == "runtime.NumGoroutine") = false) (r : Rel st h a W) {t : Nat} {v : Value} {args : Array Operand} {tys : Array TypeId} {vs : List VV} {vts : List VT}
    (ht : a.eval (.tmp t) = oneV v) (hvs : vvs (args.toList.map st.ev) = some vs)
    (hv : CallV P v vs h vts (lam (lts vts) fun l h' => keepC h h' (locBs st.ls) (K (retSV (shape vts l)) st h'))) : PM P ⟨dst, .call ⟨.value (.tmp t), args, tys⟩, type, pos, after, guard⟩ st a W K Qp := by
  have hargs := vvs_run r _ _ hvs
  have harr : args.map a.eval = (vs.map VV.val).toArray := by
    apply Array.ext'; simpa using hargs
  rcases hv with ⟨f, first, capt, fn, body, rfl, hfn, hbody, hcall⟩ | ⟨l, rfl, hround⟩
  · have ht' : a.eval (.tmp t) = .func (.func f) (first.map VV.val).toArray (capt.map VV.val).toArray := ht
    have hfn : P.funcs[f]? = some fn := hfn
    have hcall := hcall W r.heap
    have hn := hng f fn hfn
    have hexec : (execOp a.eval ⟨dst, .call ⟨.value (.tmp t), args, tys⟩, type, pos, after, guard⟩).run P W = .ok (.enter f ((first ++ vs ++ capt).map VV.val).toArray) W := by
      have hne : ¬ fn.name = "runtime.NumGoroutine" := by simpa using hn
      simp [execOp, resolve, ht', Deferred.ofValue, invoke, callFunc, hfn, hne, hbody, harr]
    refine fun ro _ => wpIn_of_run hexec (fun _ _ e => by cases e) ⟨fr_depth ro, callsIn_fr.2 (Calls.mono hcall fun e W' ⟨ho, hex⟩ => ?_)⟩
    obtain ⟨l, hl, he, hR⟩ := ExL_elim hex
    subst he
    have hR := app_lam _ _ _ _ hR
    obtain ⟨hkeep, hk⟩ := keepC_iff hR
    exact .inl ⟨_, _, _, hk, rfl, r.keep hkeep, ret_sv _, Ev.refl _, ho⟩
  · have ht' : a.eval (.tmp t) = .func (.yield l) #[] #[] := ht
    obtain ⟨f, tmps, assign, body, hy, hround⟩ := hround W r.heap
    have hexec : (execOp a.eval ⟨dst, .call ⟨.value (.tmp t), args, tys⟩, type, pos, after, guard⟩).run P W = .ok (.round l f tmps assign body) W := by
      simp [execOp, resolve, ht', Deferred.ofValue, invoke, harr, hy]
    refine fun ro _ => wpIn_of_run hexec (fun _ _ e => by cases e) ⟨fr_depth ro, ?_⟩
    have hround' : RoundIn (FR ro) 0 P l f tmps assign body W _ := hround
    refine RoundIn.mono hround' fun e W' ⟨ho, hex⟩ => ?_
    obtain ⟨l, hl, he, hR⟩ := ExL_elim hex
    subst he
    have hR := app_lam _ _ _ _ hR
    obtain ⟨hkeep, hk⟩ := keepC_iff hR
    exact .inl ⟨_, _, _, hk, rfl, r.keep hkeep, ret_sv _, Ev.refl _, ho⟩

theorem m_call (hng : ∀ (f : Nat) (fn : Func), P.funcs[f]? = some fn → (fn.name == "runtime.NumGoroutine") = false) (r : Rel st h a W) {pl : Plan} {c : Go.Call} (hv : vcM P pl ⟨dst, .call c, type, pos, after, guard⟩ st h K Qp) :
    PM P ⟨dst, .call c, type, pos, after, guard⟩ st a W K Qp := by
  obtain ⟨cal, args, tys⟩ := c
  simp only [vcM, vcMCall] at hv
  split at hv
  · rename_i hc
    split at hv
    · rename_i x y t u ha ht
      obtain rfl : args = #[x, y] := Array.toList_inj.1 ha
      obtain rfl : tys = #[t, u] := Array.toList_inj.1 ht
      have hx := r.ev x
      have hy := r.ev y
      unfold vcAppend at hv
      split at hv
      · rename_i e e' s s' hut huu hxe hye
        obtain ⟨z, hz, hv⟩ := opt_some hv
        obtain ⟨i, hi, hiz, hszz, hzc⟩ := zeroOf_run hz
        have hsz : szOf P e = i.size := by simp [szOf, hi]
        have hby : bytesOf P e = i.bytes := by simp [bytesOf, hi]
        rw [hsz, hby] at hv
        obtain ⟨news, hnews, hnpl, hv⟩ := hv
        rw [hxe] at hx; rw [hye] at hy
        simp only [SVr, VV.val, Lf.val] at hx hy
        obtain ⟨s2, W', hrun, hk, ho⟩ := run_appV (ty := type) r hut hi hiz hzc huu (.inl ⟨_, rfl⟩) (x := .slice (sadr s') s'.len s'.cap) (fun W' => rfl) (fun W' hW' => run_first (srcAt_hp hW' hnews) hnpl) hv
        obtain ⟨hkeep, hk⟩ := keepC_iff hk
        refine PM.value (v := (VV.lf (.slc s2)).val) (W' := W') ?_ (PMn.of r hk (r.keep hkeep) ho)
        simp [execOp, resolve, invoke, builtin, hx, hy, hrun, VV.val]
      · rename_i e s s' hut huu hxe hye
        split at hv
        · rename_i z hu8 hz
          obtain ⟨i, hi, hiz, hszz, hzc⟩ := zeroOf_run hz
          have hsz : szOf P e = i.size := by simp [szOf, hi]
          have hby : bytesOf P e = i.bytes := by simp [bytesOf, hi]
          rw [hsz, hby] at hv
          rw [hxe] at hx; rw [hye] at hy
          simp only [SVr, VV.val, Lf.val] at hx hy
          obtain ⟨s2, W', hrun, hk, ho⟩ := run_appV (ty := type) r hut hi hiz hzc huu (.inr rfl) (x := .string s') (fun W' => rfl) (fun W' hW' => str_first _ _ _) hv
          obtain ⟨hkeep, hk⟩ := keepC_iff hk
          refine PM.value (v := (VV.lf (.slc s2)).val) (W' := W') ?_ (PMn.of r hk (r.keep hkeep) ho)
          simp [execOp, resolve, invoke, builtin, hx, hy, hrun, VV.val]
        · exact hv.elim
      · rename_i e k s k' n hut huu hxe hye
        obtain ⟨z, hz, hv⟩ := opt_some hv
        obtain ⟨i, hi, hiz, hszz, hzc⟩ := zeroOf_run hz
        have hsz : szOf P e = i.size := by simp [szOf, hi]
        have hby : bytesOf P e = i.bytes := by simp [bytesOf, hi]
        rw [hsz, hby] at hv
        rw [hxe] at hx; rw [hye] at hy
        simp only [SVr, VV.val, Lf.val] at hx hy
        obtain ⟨s2, W', hrun, hk, ho⟩ := run_appZ (ty := type) (k' := k') r hut hi hiz hszz hzc huu hv
        obtain ⟨hkeep, hk⟩ := keepC_iff hk
        refine PM.value (v := (VV.lf (.slc s2)).val) (W' := W') ?_ (PMn.of r hk (r.keep hkeep) ho)
        simp [execOp, resolve, invoke, builtin, hx, hy, hrun, VV.val]
      · exact hv.elim
    · exact hv.elim
  · split at hv
    · rename_i x i t u ha ht
      obtain rfl : args = #[x, i] := Array.toList_inj.1 ha
      obtain rfl : tys = #[t, u] := Array.toList_inj.1 ht
      obtain ⟨kT, eT, kt, vt, z, hu, hk, hvt, hz, hv⟩ := mapT_elim hv
      have hx := r.ev x
      have hi := r.ev i
      split at hv
      · rename_i m k he he'
        rw [he] at hx; rw [he'] at hi
        obtain ⟨d, hd, hv⟩ := opt_some hv
        have hkv : k.val = (kt.mk d).val := by rw [LT.get_mk hd]
        exact m_delete r hu hk hx (by rw [← hkv]; exact hi) hv
      · exact hv.elim
    · exact hv.elim
  · split at hv
    · rename_i x y t u ha ht
      obtain rfl : args = #[x, y] := Array.toList_inj.1 ha
      obtain rfl : tys = #[t, u] := Array.toList_inj.1 ht
      have hx := r.ev x
      have hy := r.ev y
      split at hv
      · rename_i e e' d s hu hu' he he'
        rw [he] at hx; rw [he'] at hy
        split at hv
        · rename_i hkn
          obtain ⟨ty, hty⟩ : ∃ ty, P.info? e = some ty := by
            unfold known at hkn
            cases hh : P.info? e with
            | none => rw [hh] at hkn; simp at hkn
            | some ty => exact ⟨ty, rfl⟩
          have hsz : szOf P e = ty.size := by simp [szOf, hty]
          exact m_copy r hu (fun W => by rw [hsz]; exact run_sz hty W) hx hy hv
        · exact hv.elim
      · exact hv.elim
    · exact hv.elim
  · split at hv
    · rename_i x t ha ht
      obtain rfl : args = #[x] := Array.toList_inj.1 ha
      obtain rfl : tys = #[t] := Array.toList_inj.1 ht
      have hx := r.ev x
      split at hv
      · rename_i e s hu he
        rw [he] at hx
        obtain ⟨z, hz, hv⟩ := opt_some hv
        exact m_clear r hu hz hx hv
      · exact hv.elim
    · exact hv.elim
  · rename_i t
    have ht := r.slot t
    split at hv
    · rename_i v he
      rw [he] at ht
      obtain ⟨vs, hvs, hv⟩ := opt_some hv
      obtain ⟨vts, hvts, hv⟩ := opt_some hv
      exact m_callV hng r ht hvs hv
    · exact hv.elim
  · rename_i fo _
    obtain ⟨⟨f, first, capt⟩, hf, hv⟩ := opt_some hv
    obtain ⟨rfl, rfl, rfl⟩ := callee_some hf
    obtain ⟨fn, hfn, hv⟩ := opt_some hv
    have hfn : P.funcs[f]? = some fn := hfn
    split at hv
    · rename_i body hbody
      obtain ⟨vs, hvs, hv⟩ := opt_some hv
      obtain ⟨vts, hvts, hv⟩ := opt_some hv
      have hargs := vvs_run r _ _ hvs
      simp only [List.nil_append, List.append_nil] at hv
      have hn := hng f fn hfn
      have harr : args.map a.eval = (vs.map VV.val).toArray := by
        apply Array.ext'; simpa using hargs
      have hbn : fn.body.isNone = false := by rw [hbody]; rfl
      have hexec : (execOp a.eval ⟨dst, .call ⟨.value (.func f), args, tys⟩, type, pos, after, guard⟩).run P W = .ok (.enter f (vs.map VV.val).toArray) W := by
        have hne : ¬ fn.name = "runtime.NumGoroutine" := by simpa using hn
        simp [execOp, resolve, Act.eval, Deferred.ofValue, invoke, callFunc, hfn, hne, hbody, harr]
      split at hv
      · have hcall := hv W r.heap
        refine fun ro _ => wpIn_of_run hexec (fun _ _ e => by cases e) ⟨fr_depth ro, callsIn_fr.2 (Calls.mono hcall fun e W' ⟨ho, hex⟩ => ?_)⟩
        obtain ⟨l, hl, he, hR⟩ := ExL_elim hex
        subst he
        have hR := app_lam _ _ _ _ hR
        obtain ⟨hkeep, hk⟩ := keepC_iff hR
        exact .inl ⟨_, _, _, hk, rfl, r.keep hkeep, ret_sv _, Ev.refl _, ho⟩
      · have hcall := hv W r.heap
        refine fun ro _ => wpIn_of_run hexec (fun _ _ e => by cases e) ⟨fr_depth ro, callsIn_fr.2 (Calls.mono hcall fun e W' ⟨ho, hex⟩ => ?_)⟩
        rcases hex with hex | ⟨t, v, rfl, hex⟩
        · obtain ⟨l, hl, he, hR⟩ := ExL_elim hex
          subst he
          have hR := app_lam _ _ _ _ hR
          obtain ⟨hkeep, hk⟩ := keepC_iff hR
          exact .inl ⟨_, _, _, hk, rfl, r.keep hkeep, ret_sv _, Ev.refl _, ho⟩
        · obtain ⟨hkeep, hk⟩ := keepC_iff hex
          exact ⟨_, _, rfl, hk, r.keep hkeep, Ev.refl _, rfl, ho⟩
    · exact hv.elim
  · exact hv.elim

theorem m_defer (r : Rel st h a W) {pl : Plan} {c : Go.Call} (hv : vcM P pl ⟨dst, .defer c, type, pos, after, guard⟩ st h K Qp) :
    PM P ⟨dst, .defer c, type, pos, after, guard⟩ st a W K Qp := by
  obtain ⟨cal, args, tys⟩ := c
  simp only [vcM] at hv
  split at hv
  · rename_i t ha
    obtain rfl : args = #[] := Array.toList_inj.1 ha
    have ht := r.slot t
    split at hv
    · rename_i f first capt he
      rw [he] at ht
      have ht' : a.eval (.tmp t) = .func (.func f) first capt := ht
      intro ro hro
      obtain rfl := hro rfl
      have hexec : (execOp a.eval ⟨dst, .defer ⟨.value (.tmp t), #[], tys⟩, type, pos, after, guard⟩).run P W = .ok (.defer ⟨.fn (.func f) capt, first⟩) W := by
        simp [execOp, resolve, ht', Deferred.ofValue]
      refine ⟨fun _ _ => trivial, ?_⟩
      have hsem : (Oper.semAt (FR none).round a.eval ⟨dst, .defer ⟨.value (.tmp t), #[], tys⟩, type, pos, after, guard⟩).run P W = .ok (.defer ⟨.fn (.func f) capt, first⟩) W := hexec
      rw [hsem]
      refine .inr ⟨⟨.fn (.func f) capt, first⟩ :: a.defers, { st with ds := ⟨.fn (.func f) capt, first⟩ :: st.ds }, by rw [r.heap]; exact hv, rfl, ?_, ?_, Out.refl _⟩
      · rw [r.heap]
        exact ⟨r.heap, by show _ :: a.defers = _ :: st.ds; rw [r.ds], r.len, r.slot, r.loc, r.apart⟩
      · exact ⟨fun i l hl l' hl' => by
          have : st.loc i = some l' := hl'
          rw [hl] at this; cases this; exact ⟨rfl, rfl, Nat.le_refl _, fun _ => rfl⟩, ⟨[_], rfl⟩, fun _ _ h => h, Nat.le_refl _⟩
    · exact hv.elim
  · exact hv.elim

theorem m_panic (r : Rel st h a W) {pl : Plan} {x : Operand} (hv : vcM P pl ⟨dst, .panic x, type, pos, after, guard⟩ st h K Qp) :
    PM P ⟨dst, .panic x, type, pos, after, guard⟩ st a W K Qp := by
  simp only [vcM] at hv
  have hx := r.ev x
  split at hv
  · rename_i t v he
    rw [he] at hx
    simp only [SVr, VV.val, Lf.val, oneV, Value.oneCell'] at hx
    have hexec : (execOp a.eval ⟨dst, .panic x, type, pos, after, guard⟩).run P W = .halt (.panic (.iface t v)) W := by
      simp [execOp, hx, Instr.panic]
    refine fun ro _ => wpIn_of_run hexec (fun _ _ e => by cases e) ?_
    exact ⟨_, _, rfl, by rw [r.heap]; exact hv, by rw [r.heap]; exact r, Ev.refl _, rfl, Out.refl _⟩
  · exact hv.elim

theorem vcM_sound (hng : ∀ (f : Nat) (fn : Func), P.funcs[f]? = some fn → (fn.name == "runtime.NumGoroutine") = false) (r : Rel st h a W) {pl : Plan} {o : Oper} (hv : vcM P pl o st h K Qp) : PM P o st a W K Qp := by
  obtain ⟨dst, op, type, pos, after, guard⟩ := o
  cases op
  case alloc => exact m_alloc r hv
  case box => exact m_box r hv
  case store => exact m_store r hv
  case buildSlice => exact m_buildSlice r hv
  case makeSlice => exact m_makeSlice r hv
  case convert => exact m_convert r hv
  case call => exact m_call hng r hv
  case panic => exact m_panic r hv
  case defer => exact m_defer r hv
  case makeMap => exact m_makeMap r hv
  case mapUpdate => exact m_mapUpdate r hv
  case mapEntry => exact m_mapEntry r hv
  case entryStore => exact m_entryStore r hv
  case range => exact m_range r hv
  case next => exact m_next r hv
  case entry => exact m_entry r hv
  all_goals exact hv.elim

end
end Go.V
namespace Go.V

structure Agree (wr : List Nat) (a0 a : Act) : Prop where
  size : a.tmps.size = a0.tmps.size
  slot : ∀ i, i ∉ wr → a.tmps.getD i undef = a0.tmps.getD i undef

theorem Agree.refl (wr : List Nat) (a : Act) : Agree wr a a := ⟨rfl, fun _ _ => rfl⟩
theorem Agree.trans {wr : List Nat} {a b c : Act} (h : Agree wr a b) (k : Agree wr b c) : Agree wr a c := ⟨k.size.trans h.size, fun i hi => (k.slot i hi).trans (h.slot i hi)⟩
theorem Agree.mono {wr wr' : List Nat} {a b : Act} (h : Agree wr a b) (hs : ∀ i, i ∈ wr → i ∈ wr') : Agree wr' a b := ⟨h.size, fun i hi => h.slot i fun hm => hi (hs i hm)⟩
theorem Agree.put {wr : List Nat} (a : Act) (d : Option Nat) (v : Value) (h : ∀ x, d = some x → x ∈ wr) : Agree wr a (a.put d v) := by
  cases d with
  | none => exact .refl _ _
  | some d =>
    refine ⟨by simp [Act.put], fun i hi => ?_⟩
    have hne : ¬ d = i := fun e => hi (e ▸ h d rfl)
    simp [Act.put, Array.getElem?_setIfInBounds_ne hne]

theorem Agree.putD {wr : List Nat} (a : Act) (ds : List Deferred) (d : Option Nat) (v : Value) (h : ∀ x, d = some x → x ∈ wr) : Agree wr a (({ a with defers := ds } : Act).put d v) := by
  have := Agree.put { a with defers := ds } d v h
  exact ⟨this.size, this.slot⟩

structure End (st0 : St) (a0 : Act) (W0 : World) (wr : List Nat) (K : St → Heap → Prop) (a : Act) (W : World) : Prop where
  out : ∃ st', K st' W.heap ∧ Rel st' W.heap a W ∧ Ev st0 st'
  agree : Agree wr a0 a
  streams : Out W0 W

def RP (st0 : St) (a0 : Act) (W0 : World) (wr : List Nat) (K : St → Heap → Prop) (Qp : List PanicEntry → St → Heap → Prop) : Exit → Act → World → Prop
  | .normal, a, W => End st0 a0 W0 wr K a W
  | .panic c, a, W => End st0 a0 W0 wr (Qp c) a W
  | _, _, _ => False

theorem End.mono {st0 : St} {a0 : Act} {W0 : World} {wr : List Nat} {K K' : St → Heap → Prop} {a : Act} {W : World} (h : End st0 a0 W0 wr K a W) (hk : ∀ s h, K s h → K' s h) : End st0 a0 W0 wr K' a W :=
  ⟨let ⟨s, k, r, e⟩ := h.out; ⟨s, hk _ _ k, r, e⟩, h.agree, h.streams⟩

theorem End.before {st0 st1 : St} {a0 a1 : Act} {W0 W1 : World} {wr : List Nat} {K : St → Heap → Prop} {a : Act} {W : World} (h : End st1 a1 W1 wr K a W)
    (he : Ev st0 st1) (ha : Agree wr a0 a1) (ho : Out W0 W1) : End st0 a0 W0 wr K a W :=
  ⟨let ⟨s, k, r, e⟩ := h.out; ⟨s, k, r, he.trans e⟩, ha.trans h.agree, ho.trans h.streams⟩

theorem RP.before {st0 st1 : St} {a0 a1 : Act} {W0 W1 : World} {wr : List Nat} {K : St → Heap → Prop} {Qp : List PanicEntry → St → Heap → Prop} {e : Exit} {a : Act} {W : World}
    (h : RP st1 a1 W1 wr K Qp e a W) (he : Ev st0 st1) (ha : Agree wr a0 a1) (ho : Out W0 W1) : RP st0 a0 W0 wr K Qp e a W := by
  cases e with
  | normal => exact End.before h he ha ho
  | panic c => exact End.before h he ha ho
  | _ => exact h

section
variable {P : Program} {st : St} {h : Heap} {a : Act} {W : World}

theorem vcOp_sound (hng : ∀ (f : Nat) (fn : Func), P.funcs[f]? = some fn → (fn.name == "runtime.NumGoroutine") = false) (r : Rel st h a W) {pl : Plan} {o : Oper}
    {K : St → Heap → Prop} {Qp : List PanicEntry → St → Heap → Prop} (hv : vcOp P pl o st h K Qp) :
    ∀ ro, (isDefer o = true → ro = none) → o.wpIn (FR ro) 0 P a W (fun a' W' => (∃ v ds, a' = ({ a with defers := ds } : Act).put o.dst v) ∧ Out W W' ∧ ∃ st', K st' W'.heap ∧ Rel st' W'.heap a' W' ∧ Ev st st') (PMp st a W Qp) := by
  intro ro hro
  unfold vcOp at hv
  split at hv
  · obtain ⟨v, s, c, hk, hs, hc, _, hrun⟩ := vcS_sound r hv
    refine wpIn_of_run (hrun W (by rw [r.heap]; exact hc)) (fun _ _ e => by cases e) ?_
    refine ⟨⟨_, a.defers, rfl⟩, Out.refl _, _, by rw [r.heap]; exact hk, by rw [r.heap]; exact r.put hs, ?_⟩
    exact Ev.of_ls (by cases hd : o.dst <;> rfl) (by cases hd : o.dst <;> rfl)
  · refine Oper.wpIn_mono (fun a' W' hn => ?_) (vcM_sound hng r hv ro hro)
    rcases hn with ⟨s, st', v, hk, rfl, hr, hs, he, ho⟩ | ⟨ds, st', hk, rfl, hr, he, ho⟩
    · exact ⟨⟨_, a.defers, rfl⟩, ho, _, hk, hr.put hs, he.trans (Ev.of_ls (by cases hd : o.dst <;> rfl) (by cases hd : o.dst <;> rfl))⟩
    · exact ⟨⟨_, ds, rfl⟩, ho, _, hk, hr.put trivial, he.trans (Ev.of_ls (by cases hd : o.dst <;> rfl) (by cases hd : o.dst <;> rfl))⟩

theorem yielded_of (r : Rel st h a W) {ops : Array Oper} {j d : Nat} {b : Bool} (hd : dstAt ops.toList j = some d) (hb : st.get d = .v (.lf (.bool b))) : yielded ops a.tmps j = some b := by
  have hs := r.slot d
  rw [hb] at hs
  simp only [SVr, VV.val, Lf.val] at hs
  unfold dstAt at hd
  have hop : (ops[j]?).bind (·.dst) = some d := by
    simp only [Array.getElem?_toList] at hd
    split at hd
    · rename_i o ho; rw [ho]; exact hd
    · cases hd
  have ht : a.tmps[d]? = some (.bool b) := by
    cases hh : a.tmps[d]? with
    | none => simp [hh, undef] at hs
    | some v => simp [hh] at hs; rw [hs]
  simp [yielded, hop, ht]

theorem vcG_elim (r : Rel st h a W) {pl : Plan} {ops : Array Oper} {o : Oper} {run skip : St → Prop} (hv : vcG P pl ops.toList o run skip st) :
    ∃ st1, Rel st1 h a W ∧ (st1.ls = st.ls ∧ st1.ds = st.ds) ∧ ((Region.wanted o (yielded ops a.tmps) = true ∧ run st1) ∨ (Region.wanted o (yielded ops a.tmps) = false ∧ skip st1)) := by
  unfold vcG at hv
  split at hv
  · rename_i hg
    exact ⟨st, r, ⟨rfl, rfl⟩, .inl ⟨by simp [Region.wanted, hg], hv⟩⟩
  · rename_i j want hg
    split at hv
    · exact hv.elim
    · rename_i d hd
      split at hv
      · rename_i b hb
        have hy := yielded_of r hd hb
        have hw : Region.wanted o (yielded ops a.tmps) = (b == want) := by
          simp only [Region.wanted, hg, hy]
          cases b <;> cases want <;> rfl
        have hr1 : Rel { st with f := st.f.set d (.v (.lf (.bool b))) } h a W := by
          have hs := r.slot d
          rw [hb] at hs
          have := r.put (d := some d) (s := .v (.lf (.bool b))) (v := .bool b) rfl
          have ha : a.put (some d) (.bool b) = a := by
            have hs' : a.tmps.getD d undef = .bool b := hs
            unfold Act.put
            have hset : a.tmps.setIfInBounds d (.bool b) = a.tmps := by
              apply Array.ext_getElem?
              intro i
              by_cases e : d = i
              · subst e
                cases hh : a.tmps[d]? with
                | none => simp [Array.getElem?_eq_none_iff.1 hh]
                | some v =>
                  obtain ⟨hlt, _⟩ := Array.getElem?_eq_some_iff.1 hh
                  simp [hh] at hs'
                  simp [hlt, hs']
              · simp [Array.getElem?_setIfInBounds_ne e]
            simp only [hset]
          rw [ha] at this
          exact this
        refine ⟨{ st with f := st.f.set d (.v (.lf (.bool b))) }, hr1, ⟨rfl, rfl⟩, ?_⟩
        rw [hw]
        simp only at hv
        cases want with
        | true =>
          rcases Br_elim hv with ⟨e, hv⟩ | ⟨e, hv⟩
          · subst e; exact .inl ⟨rfl, hv⟩
          · subst e; exact .inr ⟨rfl, hv⟩
        | false =>
          rcases Br_elim hv with ⟨e, hv⟩ | ⟨e, hv⟩
          · subst e; exact .inr ⟨rfl, hv⟩
          · subst e; exact .inl ⟨rfl, hv⟩
      · rename_i l hb
        refine ⟨st, r, ⟨rfl, rfl⟩, .inr ⟨?_, hv⟩⟩
        have hs := r.slot d
        rw [hb] at hs
        simp only [SVr] at hs
        have hop : (ops[j]?).bind (·.dst) = some d := by
          unfold dstAt at hd
          simp only [Array.getElem?_toList] at hd
          split at hd
          · rename_i o' ho'; rw [ho']; exact hd
          · cases hd
        have hy : yielded ops a.tmps j = none := by
          unfold yielded
          rw [hop]
          simp only [Option.bind_some]
          cases hh : a.tmps[d]? with
          | none => rfl
          | some v => simp [hh] at hs; rw [hs]
        simp [Region.wanted, hg, hy]
      · exact hv.elim

end

theorem wp_conv {ro : Option Nat} {P : Program} {o : Oper} {a : Act} {W : World} {Q1 Q2 : Exit → Act → World → Prop} {K1 K2 : Act → World → Prop} (hk : ∀ a w, K1 a w → K2 a w)
    (hq : ∀ c a w, Q1 (.panic c) a w → Q2 (.panic c) a w) (hl : LetsOut Q1 → LetsOut Q2) (h : o.wpIn (FR ro) 0 P a W K1 Q1) : o.wpIn (FR ro) 0 P a W K2 Q2 := by
  unfold Oper.wpIn at *
  refine ⟨h.1, ?_⟩
  have h := h.2
  generalize (o.semAt (FR ro).round a.eval).run P W = res at *
  cases res with
  | ok n w' =>
    cases n <;> simp only [Oper.uponIn] at h ⊢ <;>
      first
        | exact hk _ _ h
        | exact ⟨h.1, CallsIn.mono h.2 (fun e w'' he => by cases e <;> first | exact hk _ _ he | exact hq _ _ _ he | exact hl he)⟩
        | exact ⟨h.1, RowsIn.mono h.2 (fun _ _ he => hk _ _ he)⟩
        | exact ⟨h.1, RoundIn.mono h.2 (fun e w'' he => by cases e <;> first | exact hk _ _ he | exact hq _ _ _ he | exact hl he)⟩
  | halt x w' => cases x <;> simp only [Oper.uponIn] at h ⊢ <;> first | exact hq _ _ _ h | exact h

theorem LetsOut.mono {Q1 Q2 : Exit → Act → World → Prop} (hq : ∀ e a w, Q1 e a w → Q2 e a w) (h : LetsOut Q1) : LetsOut Q2 :=
  let ⟨a, w, q⟩ := h; ⟨a, w, hq _ _ _ q⟩

theorem wpList_mono {ro : Option Nat} {P : Program} {ops : Array Oper} {Q1 Q2 : Exit → Act → World → Prop} (hq : ∀ e a w, Q1 e a w → Q2 e a w) :
    ∀ (l : List Oper) (a : Act) (W : World), wpListIn (FR ro) 0 P ops Q1 l a W → wpListIn (FR ro) 0 P ops Q2 l a W
  | [], a, W, h => hq _ _ _ h
  | o :: l, a, W, h => by
    unfold wpListIn at *
    split
    · rename_i hw
      rw [if_pos hw] at h
      exact wp_conv (fun a w => wpList_mono hq l a w) (fun c a w => hq _ a w) (LetsOut.mono hq) h
    · rename_i hw
      rw [if_neg hw] at h
      exact ⟨h.1, wpList_mono hq l _ _ h.2⟩

theorem ops_sound {ro : Option Nat} {P : Program} (hng : ∀ (f : Nat) (fn : Func), P.funcs[f]? = some fn → (fn.name == "runtime.NumGoroutine") = false) {pl : Plan} {ops : Array Oper}
    {K : St → Heap → Prop} {Qp : List PanicEntry → St → Heap → Prop} (wr : List Nat) : ∀ (rest : List Oper) (st : St) (a : Act) (W : World), (ro = none ∨ ∀ o ∈ rest, isDefer o = false) → (∀ o ∈ rest, ∀ d, o.dst = some d → d ∈ wr) → Rel st W.heap a W →
    vcOps P pl ops.toList Qp K rest st W.heap → wpListIn (FR ro) 0 P ops (RP st a W wr K Qp) rest a W
  | [], st, a, W, _, _, r, hv => ⟨⟨st, hv, r, Ev.refl _⟩, Agree.refl _ _, Out.refl _⟩
  | o :: rest, st, a, W, hdf, hw, r, hv => by
    simp only [vcOps] at hv
    have hdf' : ro = none ∨ ∀ o ∈ rest, isDefer o = false := hdf.imp id fun h o' ho' => h o' (by simp [ho'])
    obtain ⟨st1, r1, ⟨hls, hds⟩, hrun | hskip⟩ := vcG_elim r hv
    · obtain ⟨hwant, hv⟩ := hrun
      unfold wpListIn
      rw [if_pos hwant]
      have h1 := vcOp_sound hng r1 hv ro fun hd => hdf.resolve_right fun h => by rw [h o (by simp)] at hd; cases hd
      have hw0 := hw o (by simp)
      refine wp_conv ?_ ?_ ?_ h1
      · rintro a' W' ⟨⟨v, ds, rfl⟩, ho, st', hk, hr', he⟩
        have ih := ops_sound (ro := ro) hng (ops := ops) wr rest st' _ W' hdf' (fun o' ho' => hw o' (by simp [ho'])) hr' hk
        have : ∀ (e : Exit) (a2 : Act) (W2 : World), RP st' (({ a with defers := ds } : Act).put o.dst v) W' wr K Qp e a2 W2 → RP st a W wr K Qp e a2 W2 := fun e a2 W2 hh =>
          hh.before ((Ev.of_ls hls hds).trans he) (Agree.putD a ds o.dst v hw0) ho
        exact wpList_mono this _ _ _ ih
      · rintro c a' W' ⟨c', st', he, hq, hr', hev, rfl, ho⟩
        cases he
        exact ⟨⟨st', hq, hr', (Ev.of_ls hls hds).trans hev⟩, Agree.refl _ _, ho⟩
      · rintro ⟨a', W', c', st', he, _⟩
        cases he
    · obtain ⟨hwant, hv⟩ := hskip
      unfold wpListIn
      rw [if_neg (by rw [hwant]; simp)]
      refine ⟨fun _ _ => trivial, ?_⟩
      have r2 : Rel (st1.put o.dst (.tup [])) W.heap (a.put o.dst undef) W := r1.put rfl
      have ih := ops_sound (ro := ro) hng (ops := ops) wr rest _ _ W hdf' (fun o' ho' => hw o' (by simp [ho'])) r2 hv
      refine wpList_mono (fun e a2 W2 hh => ?_) _ _ _ ih
      exact hh.before ((Ev.of_ls hls hds).trans (Ev.of_ls (by cases o.dst <;> rfl) (by cases o.dst <;> rfl))) (Agree.put a o.dst undef (hw o (by simp))) (Out.refl _)

end Go.V
namespace Go.V

section before
open Region

def bfStep (acc : Array Nat) (o : Oper) : Nat := o.after.foldl (fun s e => if binds .any e then s ||| 2 ^ e.on ||| acc.getD e.on 0 else s) 0

theorem foldl_bit (acc : Array Nat) (i : Nat) : ∀ (l : List Edge) (s : Nat), (l.foldl (fun s e => if binds .any e then s ||| 2 ^ e.on ||| acc.getD e.on 0 else s) s).testBit i = true →
    s.testBit i = true ∨ ∃ e ∈ l, binds .any e = true ∧ (e.on = i ∨ (acc.getD e.on 0).testBit i = true)
  | [], s, h => .inl h
  | e :: l, s, h => by
    simp only [List.foldl_cons] at h
    rcases foldl_bit acc i l _ h with h | ⟨e', he', hb, hh⟩
    · split at h
      · rename_i hb
        simp only [Nat.testBit_or, Bool.or_eq_true] at h
        rcases h with (h | h) | h
        · exact .inl h
        · refine .inr ⟨e, by simp, hb, .inl ?_⟩
          rw [Nat.testBit_two_pow] at h
          simpa using h
        · exact .inr ⟨e, by simp, hb, .inr h⟩
      · exact .inl h
    · exact .inr ⟨e', by simp [he'], hb, hh⟩

def bfSpec (acc : Array Nat) (pre : List Oper) : Prop :=
  acc.size = pre.length ∧ ∀ j o, pre[j]? = some o → ∀ i, (acc.getD j 0).testBit i = true → ∃ e ∈ o.after, binds .any e = true ∧ (e.on = i ∨ (e.on < j ∧ (acc.getD e.on 0).testBit i = true))

theorem bf_fold : ∀ (l pre : List Oper) (acc : Array Nat), bfSpec acc pre → bfSpec (l.foldl (fun acc o => acc.push (bfStep acc o)) acc) (pre ++ l)
  | [], pre, acc, h => by simpa using h
  | o :: l, pre, acc, h => by
    have := bf_fold l (pre ++ [o]) (acc.push (bfStep acc o)) ?_
    · simpa using this
    · obtain ⟨hs, hj⟩ := h
      refine ⟨by simp [hs], fun j o' ho' i hb => ?_⟩
      by_cases hlt : j < pre.length
      · have h1 : pre[j]? = some o' := by simpa [List.getElem?_append_left hlt] using ho'
        have h2 : (acc.push (bfStep acc o)).getD j 0 = acc.getD j 0 := by
          simp [Array.getElem?_push, show ¬ j = acc.size by omega]
        rw [h2] at hb
        obtain ⟨e, he, hbi, hh⟩ := hj j o' h1 i hb
        refine ⟨e, he, hbi, hh.imp id fun ⟨hl, ht⟩ => ⟨hl, ?_⟩⟩
        have h3 : (acc.push (bfStep acc o)).getD e.on 0 = acc.getD e.on 0 := by
          simp [Array.getElem?_push, show ¬ e.on = acc.size by omega]
        rw [h3]; exact ht
      · have hj0 : j = pre.length := by
          rcases Nat.lt_or_ge j (pre ++ [o]).length with h' | h'
          · simp at h'; omega
          · rw [List.getElem?_eq_none h'] at ho'; cases ho'
        subst hj0
        have : o' = o := by simpa using ho'.symm
        subst this
        have h2 : (acc.push (bfStep acc o')).getD pre.length 0 = bfStep acc o' := by simp [← hs]
        rw [h2] at hb
        unfold bfStep at hb
        rw [← Array.foldl_toList] at hb
        rcases foldl_bit acc i _ 0 hb with hb | ⟨e, he, hbi, hh⟩
        · simp at hb
        · refine ⟨e, by simpa using he, hbi, hh.imp id fun ht => ?_⟩
          have hlt' : e.on < acc.size := by
            rcases Nat.lt_or_ge e.on acc.size with h' | h'
            · exact h'
            · simp [Array.getElem?_eq_none h'] at ht
          refine ⟨by omega, ?_⟩
          have h3 : (acc.push (bfStep acc o')).getD e.on 0 = acc.getD e.on 0 := by
            simp [Array.getElem?_push, show ¬ e.on = acc.size by omega]
          rw [h3]; exact ht

theorem before_spec (ops : Array Oper) : bfSpec (before ops) ops.toList := by
  have := bf_fold ops.toList [] #[] ⟨rfl, fun j o h => by simp at h⟩
  simp only [List.nil_append] at this
  have e : before ops = ops.toList.foldl (fun acc o => acc.push (bfStep acc o)) #[] := by
    unfold before
    rw [← Array.foldl_toList]
    rfl
  rw [e]; exact this

def Closed (ops : Array Oper) (listed : Array Bool) : Prop :=
  ∀ (j : Nat) (o : Oper), ops[j]? = some o → listed.getD j false = true → ∀ e ∈ o.after, binds .any e = true → listed.getD e.on false = true

theorem Closed.set {ops : Array Oper} {listed : Array Bool} (hc : Closed ops listed) {i : Nat} (hi : i ∈ ready .any ops listed) : Closed ops (listed.setIfInBounds i true) := by
  obtain ⟨_, oi, hoi, hall⟩ := mem_ready.1 hi
  intro j o hj hl e he hb
  by_cases hij : i = j
  · subst hij
    rw [hoi] at hj; cases hj
    exact getD_set_true (hall e he hb)
  · rw [getD_set_ne false hij] at hl
    exact getD_set_true (hc j o hj hl e he hb)

theorem not_waits {ops : Array Oper} {listed : Array Bool} (hc : Closed ops listed) {j i : Nat} (hj : j ∈ ready .any ops listed) (hi : listed.getD i true = false) : waitsB ops j i = false := by
  have key : ∀ (n j : Nat), j ≤ n → ∀ o, ops[j]? = some o → (∀ e ∈ o.after, binds .any e = true → listed.getD e.on false = true) → waitsB ops j i = true → listed.getD i false = true := by
    intro n
    induction n with
    | zero =>
      intro j hjn o ho hall hw
      obtain ⟨e, he, hb, hh⟩ := (before_spec ops).2 j o (by simpa using ho) i hw
      rcases hh with h | ⟨hlt, _⟩
      · rw [← h]; exact hall e he hb
      · omega
    | succ n ih =>
      intro j hjn o ho hall hw
      obtain ⟨e, he, hb, hh⟩ := (before_spec ops).2 j o (by simpa using ho) i hw
      rcases hh with h | ⟨hlt, ht⟩
      · rw [← h]; exact hall e he hb
      · have hl := hall e he hb
        have hlt' : j < ops.size := (Array.getElem?_eq_some_iff.1 ho).1
        have : e.on < ops.size := by omega
        exact ih e.on (by omega) ops[e.on] (by simp [this]) (fun e' he' hb' => hc e.on _ (by simp [this]) hl e' he' hb') ht
  obtain ⟨_, oj, hoj, hall⟩ := mem_ready.1 hj
  cases hw : waitsB ops j i with
  | false => rfl
  | true =>
    have := key j j (Nat.le_refl _) oj hoj hall hw
    have h2 : listed.getD i false = false := by
      rcases Nat.lt_or_ge i listed.size with h' | h'
      · simp [h'] at hi ⊢; exact hi
      · simp [Array.getElem?_eq_none h'] at hi
    rw [this] at h2; cases h2

end before

section
variable {ro : Option Nat} {P : Program} {ops : Array Oper} {Q : Exit → Act → World → Prop}

def wpAnyD (ro : Option Nat) (P : Program) (ops : Array Oper) (Q : Exit → Act → World → Prop) : Nat → List (Nat × (World → Prop)) → Array Bool → Act → World → Prop
  | 0, _, listed, a, w => Region.ready .any ops listed = [] ∧ Q .normal a w
  | fuel + 1, C, listed, a, w =>
    (Region.ready .any ops listed = [] → Q .normal a w) ∧
    ∀ i ∈ Region.ready .any ops listed, wpOpIn (FR ro) 0 P ops Q i (fun a' w' => (∀ c ∈ C, waitsB ops i c.1 = false → c.2 w') ∧
      wpAnyD ro P ops Q fuel (C.filter fun c => !waitsB ops i c.1) (listed.setIfInBounds i true) a' w') a w

theorem wpAny_of_D : ∀ (fuel : Nat) (C : List (Nat × (World → Prop))) (listed : Array Bool) (a : Act) (w : World), wpAnyD ro P ops Q fuel C listed a w → wpAnyIn (FR ro) 0 P .any ops Q fuel listed a w
  | 0, _, _, _, _, h => h
  | fuel + 1, _, _, _, _, h => ⟨h.1, fun i hi => wpOpIn_mono (fun a' w' h' => wpAny_of_D fuel _ _ a' w' h'.2) (h.2 i hi)⟩

theorem wpAnyD_weaken : ∀ (fuel : Nat) (C C' : List (Nat × (World → Prop))) (listed : Array Bool) (a : Act) (w : World), (∀ c ∈ C', c ∈ C ∨ ∀ w, c.2 w) → wpAnyD ro P ops Q fuel C listed a w → wpAnyD ro P ops Q fuel C' listed a w
  | 0, _, _, _, _, _, _, h => h
  | fuel + 1, C, C', _, _, _, hs, h => ⟨h.1, fun i hi => wpOpIn_mono (fun a' w' h' => ⟨fun c hc hw => (hs c hc).elim (fun hm => h'.1 c hm hw) (fun ht => ht w'), wpAnyD_weaken fuel _ _ _ a' w' (fun c hc => by
      simp only [List.mem_filter] at hc ⊢
      exact (hs c hc.1).imp (fun hm => ⟨hm, hc.2⟩) id) h'.2⟩) (h.2 i hi)⟩

theorem wpAnyD_first {i : Nat} {oi : Oper} {v : Value} {S : World → Prop} (hi : ops[i]? = some oi) (hsel : ∀ (j : Nat) (o : Oper) cs b, ops[j]? = some o → o.op ≠ .select cs b)
    (hQ : ∀ c a w, Q (.panic c) (a.put oi.dst v) w → Q (.panic c) a w) :
    ∀ (fuel : Nat) (C : List (Nat × (World → Prop))) (listed : Array Bool) (a : Act) (w : World), Closed ops listed →
      (∀ j oj, ops[j]? = some oj → j ≠ i → listed.getD j true = false → (∀ e ∈ oj.after, Region.binds .any e = true → e.on ≠ i) → oi.apart ops oj = true) →
      i ∈ Region.ready .any ops listed → YieldsIf P ops S oi v a → S w → (∀ c ∈ C, c.2 w) →
      wpAnyD ro P ops Q fuel ((i, S) :: C) (listed.setIfInBounds i true) (a.put oi.dst v) w → wpAnyD ro P ops Q (fuel + 1) C listed a w := by
  intro fuel
  induction fuel with
  | zero =>
    intro C listed a w hcl _ hr hy hS hC H
    refine ⟨fun h => (by rw [h] at hr; cases hr), fun j hj => ?_⟩
    by_cases hji : j = i
    · subst hji; exact yields_wpOpF hi hy hS ⟨fun c hc _ => hC c hc, H⟩
    · have := ready_mono hj hji
      rw [H.1] at this
      cases this
  | succ fuel ih =>
    intro C listed a w hcl hfree hr hy hS hC H
    refine ⟨fun h => (by rw [h] at hr; cases hr), fun j hj => ?_⟩
    by_cases hji : j = i
    · subst hji
      refine yields_wpOpF hi hy hS ⟨fun c hc _ => hC c hc, ?_⟩
      exact wpAnyD_weaken _ _ _ _ _ _ (fun c hc => by simp only [List.mem_filter] at hc; exact .inl (List.mem_cons_of_mem _ hc.1)) H
    · have h1 := H.2 j (ready_mono hj hji)
      obtain ⟨hjun, oj, hoj, hall⟩ := mem_ready.1 hj
      have hiun := (mem_ready.1 hr).1
      have hnw : waitsB ops j i = false := not_waits hcl hj hiun
      have hnot : ∀ e ∈ oj.after, Region.binds .any e = true → e.on ≠ i := fun e he hb heq => by
        have h1 := hall e he hb
        rw [heq] at h1
        rcases Nat.lt_or_ge i listed.size with h' | h'
        · simp [h'] at hiun h1; rw [hiun] at h1; cases h1
        · simp [Array.getElem?_eq_none h'] at h1
      have h2 := wpOpF_putIf hoj (hfree j oj hoj hji hjun hnot) (fun cs b => hsel i oi cs b hi) (fun cs b => hsel j oj cs b hoj) hQ hy h1
      have hfree' : ∀ k ok, ops[k]? = some ok → k ≠ i → (listed.setIfInBounds j true).getD k true = false →
          (∀ e ∈ ok.after, Region.binds .any e = true → e.on ≠ i) → oi.apart ops ok = true := fun k ok hk hki hun hno => by
        refine hfree k ok hk hki ?_ hno
        by_cases hjk : j = k
        · subst hjk; exact hjun
        · rw [getD_set_ne true hjk] at hun; exact hun
      refine wpOpIn_mono (fun a' w' h3 => ?_) h2
      obtain ⟨hy', hC', h4⟩ := h3
      have hS' : S w' := hC' (i, S) (by simp) hnw
      refine ⟨fun c hc hw => hC' c (by simp [hc]) hw, ih _ _ a' w' (hcl.set hj) hfree' (ready_mono hr (Ne.symm hji)) hy' hS' (fun c hc => ?_) ?_⟩
      · simp only [List.mem_filter, Bool.not_eq_true'] at hc
        exact hC' c (by simp [hc.1]) hc.2
      · rw [Array.setIfInBounds_comm _ _ hji]
        simpa [List.filter_cons, hnw] using h4

def unlisted (listed : Array Bool) : Nat := listed.toList.countP fun b => !b

theorem unlisted_set {listed : Array Bool} {i : Nat} (h : listed.getD i true = false) : unlisted (listed.setIfInBounds i true) + 1 = unlisted listed := by
  have key : ∀ (l : List Bool) (i : Nat), l[i]? = some false → (l.set i true).countP (fun b => !b) + 1 = l.countP fun b => !b := by
    intro l
    induction l with
    | nil => intro i h; simp at h
    | cons b l ih =>
      intro i h
      cases i with
      | zero => simp at h; subst h; simp
      | succ i =>
        have := ih i (by simpa using h)
        simp only [List.set_cons_succ, List.countP_cons]
        omega
  have hi : listed.toList[i]? = some false := by
    cases hh : listed[i]? with
    | none => simp [hh] at h
    | some b => simp [hh] at h; subst h; simpa using hh
  unfold unlisted
  rw [Array.toList_setIfInBounds]
  exact key _ _ hi

theorem conds_elim {ops : Array Oper} {j : Nat} {st : St} {h : Heap} : ∀ {C : List (Nat × Cond)} {K : List (Nat × Cond) → Prop}, conds ops j st h C K →
    ∃ C', K C' ∧ (∀ c ∈ C', c ∈ C ∧ waitsB ops j c.1 = false) ∧ ∀ c ∈ C, waitsB ops j c.1 = false → c.2.chk st h ∧ (c ∈ C' ∨ c.2 = .tt)
  | [], K, hc => ⟨[], hc, fun _ h => by simp at h, fun _ h => by simp at h⟩
  | (i, c) :: C, K, hc => by
    have rest : ∀ (hchk : c.chk st h) (hw : waitsB ops j i = false) {K' : List (Nat × Cond) → Prop}, (conds ops j st h C fun r => K' ((i, c) :: r)) →
        ∃ C', K' C' ∧ (∀ c' ∈ C', c' ∈ (i, c) :: C ∧ waitsB ops j c'.1 = false) ∧ ∀ c' ∈ (i, c) :: C, waitsB ops j c'.1 = false → c'.2.chk st h ∧ (c' ∈ C' ∨ c'.2 = .tt) := by
      intro hchk hw K' hc
      obtain ⟨C', hk, h1, h2⟩ := conds_elim hc
      refine ⟨_, hk, fun c' hc' => ?_, fun c' hc' hw' => ?_⟩
      · rcases List.mem_cons.1 hc' with rfl | hc'
        · exact ⟨by simp, hw⟩
        · exact ⟨by simp [(h1 c' hc').1], (h1 c' hc').2⟩
      · rcases List.mem_cons.1 hc' with rfl | hc'
        · exact ⟨hchk, .inl (by simp)⟩
        · obtain ⟨g1, g2⟩ := h2 c' hc' hw'
          exact ⟨g1, g2.imp (fun hm => by simp [hm]) id⟩
    unfold conds at hc
    split at hc
    · rename_i hw
      obtain ⟨C', hk, h1, h2⟩ := conds_elim hc
      refine ⟨C', hk, fun c hc => ⟨by simp [(h1 c hc).1], (h1 c hc).2⟩, fun c hc hw' => ?_⟩
      rcases List.mem_cons.1 hc with rfl | hc
      · rw [hw] at hw'; cases hw'
      · exact h2 c hc hw'
    · rename_i hw
      split at hc
      · obtain ⟨C', hk, h1, h2⟩ := conds_elim hc
        refine ⟨C', hk, fun c hc => ⟨by simp [(h1 c hc).1], (h1 c hc).2⟩, fun c hc hw' => ?_⟩
        rcases List.mem_cons.1 hc with rfl | hc
        · exact ⟨trivial, .inr rfl⟩
        · exact h2 c hc hw'
      · exact rest hc.1 hw hc.2
      · exact rest hc.1 hw hc.2
      · exact rest hc.1 hw hc.2
      · rename_i id x
        split at hc
        · rename_i x' hx'
          split at hc
          · rename_i hb
            exact rest (by simp only [Cond.chk, hx', hb]) hw hc
          · exact hc.elim
        · exact hc.elim

theorem chk_holds {st st' : St} {h' : Heap} {a : Act} {W : World} (r : Rel st' h' a W) (he : Ev st st') {c : Cond} (hg : ∀ id l, c = .loc id l → st.loc id = some l) (hk : c.chk st' h') :
    c.holds h' ∧ ∀ id l, c = .loc id l → st'.loc id = some l := by
  cases c with
  | tt => exact ⟨trivial, fun _ _ e => by cases e⟩
  | cells b off l => exact ⟨hk, fun _ _ e => by cases e⟩
  | obj b o => exact ⟨hk, fun _ _ e => by cases e⟩
  | pred X => exact ⟨hk, fun _ _ e => by cases e⟩
  | loc id l =>
    have hl := hg id l rfl
    simp only [Cond.chk] at hk
    split at hk
    · rename_i l' hl'
      split at hk
      · rename_i hv
        have := ((he.some id l hl l' hl').2.2.2 (Nat.eq_of_beq_eq_true hv).symm)
        subst this
        exact ⟨r.loc _ _ hl', fun id' l2 e => by cases e; exact hl'⟩
      · exact hk.elim
    · exact hk.elim

theorem clearF_get : ∀ (w : List Nat) (f : List SV) (i : Nat), (clearF w f).getD i .unk = if i ∈ w then .unk else f.getD i .unk
  | [], f, i => by simp [clearF]
  | j :: w, f, i => by
    rw [clearF, clearF_get w]
    by_cases h1 : i ∈ w
    · simp [h1]
    · by_cases h2 : i = j
      · subst h2
        simp only [h1, if_false, List.mem_cons, true_or, if_true]
        by_cases hl : i < f.length
        · simp [hl]
        · simp [hl]
      · have h3 : ¬ j = i := fun e => h2 e.symm
        simp [h1, h2, h3]

theorem clearF_length : ∀ (w : List Nat) (f : List SV), (clearF w f).length = f.length
  | [], f => rfl
  | j :: w, f => by rw [clearF, clearF_length w]; simp

theorem Rel.clear {st : St} {h : Heap} {a : Act} {W : World} (r : Rel st h a W) (w : List Nat) : Rel (st.clear w) h a W := by
  refine ⟨r.heap, r.ds, by simpa [St.clear, clearF_length] using r.len, fun i => ?_, r.loc, r.apart⟩
  have hs := r.slot i
  unfold St.get St.clear at *
  simp only [clearF_get]
  split
  · trivial
  · exact SVr.of_ls rfl hs

def Qclear (w : List Nat) (Qp : List PanicEntry → St → Heap → Prop) (c : List PanicEntry) (s : St) (h : Heap) : Prop := Qp c s h ∧ ∀ d ∈ w, s.get d = .unk

theorem clear_get {st : St} {w : List Nat} {d : Nat} (h : d ∈ w) : (st.clear w).get d = .unk := by
  unfold St.get St.clear
  rw [clearF_get, if_pos h]

theorem Rel.unput {s : St} {h : Heap} {a : Act} {W : World} {d : Option Nat} {v : Value} (r : Rel s h (a.put d v) W) (hd : ∀ x, d = some x → s.get x = .unk) : Rel s h a W := by
  cases d with
  | none => exact r
  | some d =>
    refine ⟨r.heap, r.ds, by simpa [Act.put] using r.len, fun i => ?_, r.loc, r.apart⟩
    by_cases e : i = d
    · subst e; rw [hd i rfl]; trivial
    · have := r.slot i
      have h2 : (a.tmps.setIfInBounds d v).getD i undef = a.tmps.getD i undef := by
        simp [Array.getElem?_setIfInBounds_ne (fun x => e x.symm)]
      simp only [Act.put] at this
      rw [h2] at this; exact this

theorem ready_unlisted {listed : Array Bool} {i : Nat} (hi : i ∈ Region.ready .any ops listed) : unlisted (listed.setIfInBounds i true) + 1 = unlisted listed :=
  unlisted_set (mem_ready.1 hi).1

def cw (C : List (Nat × Cond)) : List (Nat × (World → Prop)) := C.map fun c => (c.1, fun w : World => c.2.holds w.heap)

theorem D_of_T {fuel : Nat} {C : List (Nat × (World → Prop))} {listed : Array Bool} {a : Act} {W : World} (hu : unlisted listed ≤ fuel)
    (h1 : Region.ready .any ops listed = [] → Q .normal a W)
    (h2 : ∀ f, unlisted listed ≤ f + 1 → ∀ j ∈ Region.ready .any ops listed, j ∉ ([] : List Nat) →
        wpOpIn (FR ro) 0 P ops Q j (fun a' w' => (∀ c ∈ C, waitsB ops j c.1 = false → c.2 w') ∧ wpAnyD ro P ops Q f (C.filter fun c => !waitsB ops j c.1) (listed.setIfInBounds j true) a' w') a W) :
    wpAnyD ro P ops Q fuel C listed a W := by
  cases fuel with
  | zero =>
    have : Region.ready .any ops listed = [] := by
      cases hr : Region.ready .any ops listed with
      | nil => rfl
      | cons i l =>
        have := ready_unlisted (ops := ops) (listed := listed) (i := i) (by rw [hr]; simp)
        omega
    exact ⟨this, h1 this⟩
  | succ f => exact ⟨h1, fun i hi => h2 f hu i hi (by simp)⟩

structure Dr (ops : Array Oper) (st0 : St) (a0 : Act) (W0 : World) (listed : Array Bool) (C : List (Nat × Cond)) (st : St) (a : Act) (W : World) : Prop where
  rel : Rel st W.heap a W
  closed : Closed ops listed
  conds : ∀ c ∈ C, c.2.holds W.heap ∧ ∀ id l, c.2 = .loc id l → st.loc id = some l
  ev : Ev st0 st
  agree : Agree (dsts ops.toList) a0 a
  out : Out W0 W

theorem dst_mem {i : Nat} {o : Oper} (ho : ops[i]? = some o) : ∀ d, o.dst = some d → d ∈ dsts ops.toList := fun d hd =>
  List.mem_filterMap.2 ⟨o, by simpa using Array.mem_of_getElem? ho, hd⟩

theorem Dr.of_ls {st0 : St} {a0 : Act} {W0 : World} {listed : Array Bool} {C : List (Nat × Cond)} {st st1 : St} {a : Act} {W : World} (d : Dr ops st0 a0 W0 listed C st a W)
    (r : Rel st1 W.heap a W) (hl : st1.ls = st.ls) (hd : st1.ds = st.ds) : Dr ops st0 a0 W0 listed C st1 a W :=
  ⟨r, d.closed, fun c hc => ⟨(d.conds c hc).1, fun id l e => by have := (d.conds c hc).2 id l e; simpa [St.loc, hl] using this⟩, d.ev.trans (Ev.of_ls hl hd), d.agree, d.out⟩

theorem QRP_unput {st0 : St} {a0 : Act} {W0 : World} {K : St → Heap → Prop} {Qp : List PanicEntry → St → Heap → Prop} {i : Nat} {o : Oper} {v : Value} (ho : ops[i]? = some o) :
    ∀ c a w, RP st0 a0 W0 (dsts ops.toList) K (Qclear (dsts ops.toList) Qp) (.panic c) (a.put o.dst v) w → RP st0 a0 W0 (dsts ops.toList) K (Qclear (dsts ops.toList) Qp) (.panic c) a w := by
  rintro c a w ⟨⟨s, ⟨hq, hcl⟩, hr, he⟩, hag, hs⟩
  have hd := dst_mem ho
  have hg := Agree.put (wr := dsts ops.toList) a o.dst v hd
  exact ⟨⟨s, ⟨hq, hcl⟩, hr.unput fun x hx => hcl x (hd x hx), he⟩, ⟨hg.size.symm.trans hag.size, fun i hi => (hg.slot i hi).symm.trans (hag.slot i hi)⟩, hs⟩

theorem draw_sound (hng : ∀ (f : Nat) (fn : Func), P.funcs[f]? = some fn → (fn.name == "runtime.NumGoroutine") = false) (hsel : Region.noSelect ops = true) (hdf : ∀ o ∈ ops.toList, isDefer o = false) {pl : Plan}
    {K : St → Heap → Prop} {Qp : List PanicEntry → St → Heap → Prop} (st0 : St) (a0 : Act) (W0 : World) :
    ∀ (p : DPlan) (seen : List Nat) (listed : Array Bool) (C : List (Nat × Cond)) (st : St) (a : Act) (W : World), Dr ops st0 a0 W0 listed C st a W →
      vcDraw P pl ops (fun c st h => Qp c (st.clear (dsts ops.toList)) h) K p seen listed C st W.heap →
      (Region.ready .any ops listed = [] → RP st0 a0 W0 (dsts ops.toList) K (Qclear (dsts ops.toList) Qp) .normal a W) ∧
      ∀ f, unlisted listed ≤ f + 1 → ∀ j ∈ Region.ready .any ops listed, j ∉ seen →
        wpOpIn (FR ro) 0 P ops (RP st0 a0 W0 (dsts ops.toList) K (Qclear (dsts ops.toList) Qp)) j (fun a' w' => (∀ c ∈ cw C, waitsB ops j c.1 = false → c.2 w') ∧
          wpAnyD ro P ops (RP st0 a0 W0 (dsts ops.toList) K (Qclear (dsts ops.toList) Qp)) f ((cw C).filter fun c => !waitsB ops j c.1) (listed.setIfInBounds j true) a' w') a W := by
  intro p
  -- an operation that acts
  have acts : ∀ (rest : DPlan), (∀ (seen : List Nat) (listed : Array Bool) (C : List (Nat × Cond)) (st : St) (a : Act) (W : World), Dr ops st0 a0 W0 listed C st a W →
      vcDraw P pl ops (fun c st h => Qp c (st.clear (dsts ops.toList)) h) K rest seen listed C st W.heap →
      (Region.ready .any ops listed = [] → RP st0 a0 W0 (dsts ops.toList) K (Qclear (dsts ops.toList) Qp) .normal a W) ∧
      ∀ f, unlisted listed ≤ f + 1 → ∀ j ∈ Region.ready .any ops listed, j ∉ seen →
        wpOpIn (FR ro) 0 P ops (RP st0 a0 W0 (dsts ops.toList) K (Qclear (dsts ops.toList) Qp)) j (fun a' w' => (∀ c ∈ cw C, waitsB ops j c.1 = false → c.2 w') ∧
          wpAnyD ro P ops (RP st0 a0 W0 (dsts ops.toList) K (Qclear (dsts ops.toList) Qp)) f ((cw C).filter fun c => !waitsB ops j c.1) (listed.setIfInBounds j true) a' w') a W) →
      ∀ (i : Nat) (o : Oper) (listed : Array Bool) (C : List (Nat × Cond)) (st : St) (a : Act) (W : World), ops[i]? = some o → Dr ops st0 a0 W0 listed C st a W → i ∈ Region.ready .any ops listed →
      vcG P pl ops.toList o
          (fun st => vcOp P pl o st W.heap (fun st' h' => conds ops i st' h' C fun C' => vcDraw P pl ops (fun c st h => Qp c (st.clear (dsts ops.toList)) h) K rest [] (listed.setIfInBounds i true) C' st' h') (fun c st h => Qp c (st.clear (dsts ops.toList)) h))
          (fun st => conds ops i st W.heap C fun C' => vcDraw P pl ops (fun c st h => Qp c (st.clear (dsts ops.toList)) h) K rest [] (listed.setIfInBounds i true) C' (st.put o.dst (.tup [])) W.heap) st →
      ∀ f, unlisted listed ≤ f + 1 →
        wpOpIn (FR ro) 0 P ops (RP st0 a0 W0 (dsts ops.toList) K (Qclear (dsts ops.toList) Qp)) i (fun a' w' => (∀ c ∈ cw C, waitsB ops i c.1 = false → c.2 w') ∧
          wpAnyD ro P ops (RP st0 a0 W0 (dsts ops.toList) K (Qclear (dsts ops.toList) Qp)) f ((cw C).filter fun c => !waitsB ops i c.1) (listed.setIfInBounds i true) a' w') a W := by
    intro rest ih i o listed C st a W ho d hi hv f hu
    have hu' : unlisted (listed.setIfInBounds i true) ≤ f := by have := ready_unlisted (ops := ops) hi; omega
    -- behind it
    have behind : ∀ (st1 st' : St) (a' : Act) (W' : World), (st1.ls = st.ls ∧ st1.ds = st.ds) → Ev st1 st' → Rel st' W'.heap a' W' → Agree (dsts ops.toList) a a' → Out W W' →
        (conds ops i st' W'.heap C fun C' => vcDraw P pl ops (fun c st h => Qp c (st.clear (dsts ops.toList)) h) K rest [] (listed.setIfInBounds i true) C' st' W'.heap) →
        (∀ c ∈ cw C, waitsB ops i c.1 = false → c.2 W') ∧
          wpAnyD ro P ops (RP st0 a0 W0 (dsts ops.toList) K (Qclear (dsts ops.toList) Qp)) f ((cw C).filter fun c => !waitsB ops i c.1) (listed.setIfInBounds i true) a' W' := by
      intro st1 st' a' W' hls hev hr hag ho' hc
      obtain ⟨C', hk, h1, h2⟩ := conds_elim hc
      have hev' : Ev st st' := (Ev.of_ls hls.1 hls.2).trans hev
      have good : ∀ c ∈ C, waitsB ops i c.1 = false → c.2.holds W'.heap ∧ ∀ id l, c.2 = .loc id l → st'.loc id = some l := fun c hc hw =>
        chk_holds hr hev' (d.conds c hc).2 (h2 c hc hw).1
      refine ⟨fun c hc hw => ?_, ?_⟩
      · obtain ⟨x, hx, rfl⟩ := List.mem_map.1 hc
        exact (good x hx hw).1
      · have d' : Dr ops st0 a0 W0 (listed.setIfInBounds i true) C' st' a' W' :=
          ⟨hr, d.closed.set hi, fun c hc => good c (h1 c hc).1 (h1 c hc).2, d.ev.trans hev', d.agree.trans hag, d.out.trans ho'⟩
        obtain ⟨t1, t2⟩ := ih [] _ C' st' a' W' d' hk
        have hD := D_of_T hu' t1 t2
        refine wpAnyD_weaken _ _ _ _ _ _ (fun c hc => ?_) hD
        simp only [List.mem_filter, Bool.not_eq_true'] at hc
        obtain ⟨x, hx, rfl⟩ := List.mem_map.1 hc.1
        rcases (h2 x hx hc.2).2 with hm | ht
        · exact .inl (List.mem_map.2 ⟨x, hm, rfl⟩)
        · refine .inr fun w => ?_
          show x.2.holds w.heap
          rw [ht]; trivial
    obtain ⟨st1, r1, hls, ⟨hwant, hv⟩ | ⟨hwant, hv⟩⟩ := vcG_elim d.rel hv
    · unfold wpOpIn
      simp only [ho]
      rw [if_pos hwant]
      refine wp_conv ?_ ?_ ?_ (vcOp_sound hng r1 hv ro fun hd => by
        rw [hdf o (by simpa using Array.mem_of_getElem? ho)] at hd; cases hd)
      · rintro a' W' ⟨⟨v, ds, rfl⟩, hout, st', hc, hr', hev⟩
        exact behind st1 st' _ W' hls hev hr' (Agree.putD a ds o.dst v (dst_mem ho)) hout hc
      · rintro c a' W' ⟨c', st', he, hq, hr', hev, rfl, hout⟩
        cases he
        exact ⟨⟨st'.clear (dsts ops.toList), ⟨hq, fun x hx => clear_get hx⟩, hr'.clear _, (d.ev.trans (Ev.of_ls hls.1 hls.2)).trans (hev.trans (Ev.of_ls rfl))⟩, d.agree, d.out.trans hout⟩
      · rintro ⟨a', W', c', st', he, _⟩
        cases he
    · unfold wpOpIn
      simp only [ho]
      rw [if_neg (by rw [hwant]; simp)]
      have hc2 : conds ops i (st1.put o.dst (.tup [])) W.heap C fun C' => vcDraw P pl ops (fun c st h => Qp c (st.clear (dsts ops.toList)) h) K rest [] (listed.setIfInBounds i true) C' (st1.put o.dst (.tup [])) W.heap := by
        have gen : ∀ (C : List (Nat × Cond)) (s s' : St) (X : List (Nat × Cond) → Prop), s'.ls = s.ls → conds ops i s W.heap C X → conds ops i s' W.heap C X := by
          intro C
          induction C with
          | nil => intro s s' X _ h; exact h
          | cons c C ihC =>
            intro s s' X hl h
            obtain ⟨k, c⟩ := c
            unfold conds at h ⊢
            split
            · rename_i hw; simp only [hw] at h; exact ihC _ _ _ hl h
            · rename_i hw
              simp only [hw] at h
              cases c with
              | tt => exact ihC _ _ _ hl h
              | cells b off l => exact ⟨h.1, ihC _ _ _ hl h.2⟩
              | obj b ob => exact ⟨h.1, ihC _ _ _ hl h.2⟩
              | pred X => exact ⟨h.1, ihC _ _ _ hl h.2⟩
              | loc id l =>
                have e : s'.loc id = s.loc id := by simp [St.loc, hl]
                simp only at h ⊢
                rw [e]
                split
                · rename_i x' hx'
                  rw [hx'] at h
                  simp only at h
                  split
                  · rename_i hb
                    simp only [hb] at h
                    exact ihC _ _ _ hl h
                  · rename_i hb
                    simp only [hb] at h
                · rename_i hx'
                  rw [hx'] at h
                  exact h
        exact gen C st1 _ _ (by cases o.dst <;> rfl) hv
      exact ⟨fun _ _ => trivial, behind st1 _ _ W hls (Ev.of_ls (by cases o.dst <;> rfl) (by cases o.dst <;> rfl)) (r1.put (s := .tup []) rfl) (Agree.put a o.dst undef (dst_mem ho)) (Out.refl _) hc2⟩
  induction p with
  | done =>
    intro seen listed C st a W d hv
    simp only [vcDraw] at hv
    split at hv
    · rename_i hr
      have hr : Region.ready .any ops listed = [] := by simpa [readyIs] using hr
      exact ⟨fun _ => ⟨⟨st, hv, d.rel, d.ev⟩, d.agree, d.out⟩, fun f _ j hj => by rw [hr] at hj; cases hj⟩
    · exact hv.elim
  | still i rest ih =>
    intro seen listed C st a W d hv
    simp only [vcDraw] at hv
    split at hv
    · rename_i hmf
      simp only [mayFirst, Bool.and_eq_true] at hmf
      have hi : i ∈ Region.ready .any ops listed := by simpa using hmf.1
      obtain ⟨o, ho, hv⟩ := opt_some hv
      split at hv
      · refine ⟨fun h => (by rw [h] at hi; cases hi), fun f hu j hj _ => ?_⟩
        have hu' : unlisted (listed.setIfInBounds i true) ≤ f := by have := ready_unlisted (ops := ops) hi; omega
        have hC : ∀ c ∈ cw C, c.2 W := fun c hc => by
          obtain ⟨x, hx, rfl⟩ := List.mem_map.1 hc
          exact (d.conds x hx).1
        obtain ⟨st1, r1, hls, ⟨hwant, hv⟩ | ⟨hwant, hv⟩⟩ := vcG_elim d.rel hv
        · obtain ⟨v, s, c, hk, hs, hc, hg, hrun⟩ := vcS_sound r1 hv
          have d1 := d.of_ls r1 hls.1 hls.2
          have d2 : Dr ops st0 a0 W0 (listed.setIfInBounds i true) ((i, c) :: C) (st1.put o.dst s) (a.put o.dst v) W := by
            have hpl : (st1.put o.dst s).ls = st1.ls := by cases o.dst <;> rfl
            refine ⟨r1.put hs, d.closed.set hi, fun x hx => ?_, d1.ev.trans (Ev.of_ls hpl (by cases o.dst <;> rfl)), d.agree.trans (Agree.put a o.dst v (dst_mem ho)), d.out⟩
            have hloc : ∀ id, (st1.put o.dst s).loc id = st1.loc id := fun id => by simp [St.loc, hpl]
            rcases List.mem_cons.1 hx with rfl | hx
            · exact ⟨hc, fun id l e => by rw [hloc]; exact hg id l e⟩
            · exact ⟨(d1.conds x hx).1, fun id l e => by rw [hloc]; exact (d1.conds x hx).2 id l e⟩
          obtain ⟨t1, t2⟩ := ih [] _ _ _ _ W d2 hk
          have hD := D_of_T hu' t1 t2
          have := wpAnyD_first (P := P) (S := fun w => c.holds w.heap) ho (fun j o cs b => Region.noSelect_spec hsel j o cs b) (QRP_unput ho) f (cw C) listed a W d.closed
            (fun j oj hj hne hun hno => Region.free_spec ho hmf.2 j oj hj hne hun hno) hi (.inl ⟨hwant, fun w hw => hrun w hw⟩) hc hC hD
          exact this.2 j hj
        · have d1 := d.of_ls r1 hls.1 hls.2
          have d2 : Dr ops st0 a0 W0 (listed.setIfInBounds i true) C (st1.put o.dst (.tup [])) (a.put o.dst undef) W := by
            have hpl : (st1.put o.dst (.tup [])).ls = st1.ls := by cases o.dst <;> rfl
            have hloc : ∀ id, (st1.put o.dst (.tup [])).loc id = st1.loc id := fun id => by simp [St.loc, hpl]
            exact ⟨r1.put (s := .tup []) rfl, d.closed.set hi, fun x hx => ⟨(d1.conds x hx).1, fun id l e => by rw [hloc]; exact (d1.conds x hx).2 id l e⟩, d1.ev.trans (Ev.of_ls hpl (by cases o.dst <;> rfl)), d.agree.trans (Agree.put a o.dst undef (dst_mem ho)), d.out⟩
          obtain ⟨t1, t2⟩ := ih [] _ _ _ _ W d2 hv
          have hD := D_of_T hu' t1 t2
          have hD' := wpAnyD_weaken f (cw C) ((i, fun _ => True) :: cw C) _ _ _ (fun c hc => by
            rcases List.mem_cons.1 hc with rfl | hc
            · exact .inr fun _ => trivial
            · exact .inl hc) hD
          have := wpAnyD_first (P := P) (S := fun _ => True) ho (fun j o cs b => Region.noSelect_spec hsel j o cs b) (QRP_unput ho) f (cw C) listed a W d.closed
            (fun j oj hj hne hun hno => Region.free_spec ho hmf.2 j oj hj hne hun hno) hi (.inr ⟨hwant, rfl⟩) trivial hC hD'
          exact this.2 j hj
      · exact hv.elim
    · exact hv.elim
  | mem i rest ih =>
    intro seen listed C st a W d hv
    simp only [vcDraw] at hv
    split at hv
    · rename_i hr
      have hr : Region.ready .any ops listed = seen.reverse ++ [i] := by simpa [readyIs] using hr
      obtain ⟨o, ho, hv⟩ := opt_some hv
      refine ⟨fun h => (by rw [h] at hr; simp at hr), fun f hu j hj hns => ?_⟩
      have : j = i := by
        rw [hr] at hj
        simp at hj
        exact hj.resolve_left hns
      subst this
      exact acts rest ih j o listed C st a W ho d hj hv f hu
    · exact hv.elim
  | alt i rest other ih1 ih2 =>
    intro seen listed C st a W d hv
    simp only [vcDraw] at hv
    obtain ⟨hv1, hv2⟩ := hv
    obtain ⟨o, ho, hv1⟩ := opt_some hv1
    obtain ⟨t1, t2⟩ := ih2 (i :: seen) listed C st a W d hv2
    refine ⟨t1, fun f hu j hj hns => ?_⟩
    by_cases e : j = i
    · subst e
      exact acts rest ih1 j o listed C st a W ho d hj hv1 f hu
    · exact t2 f hu j hj (by simp [e, hns])

end
end Go.V
