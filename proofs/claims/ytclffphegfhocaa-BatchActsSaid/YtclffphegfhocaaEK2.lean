/- This text proves a part of the laws of seat Ytclffphegfhocaa, under no condition: B3u. -/
import Derived.Test.YtclffphegfhocaaEK
set_option linter.unusedVariables false
set_option linter.unusedSimpArgs false
/-! The document's Encode and Decode. -/
namespace Go.V.Ytclffphegfhocaa
open Go Go.V

section
variable {h : Heap} {p B : Nat} {b : List UInt8}

theorem c38 {kind : Int} {R : Int → Heap → Prop} (k : R (if kind = 1 then 16384 else if kind = 2 then 1024 else 9223372036854775807) h) :
    Call Go.Proofs.Try.prog 38 [.lf (.int .i64 kind)] h [.one (.int .i64)] R := by
  refine ok38 (Br.eq (fun c => ?_) fun c => Br.eq (fun c2 => ?_) fun c2 => ?_)
  · rw [if_pos c] at k; exact k
  · rw [if_neg c, if_pos c2] at k; exact k
  · rw [if_neg c, if_neg c2] at k; exact k

theorem c45 (r : RdB h p B [.int .i64 0] b) (hB : B ≤ h.size) {R : Int → Int → ByteArray → ByteArray → Heap → Prop}
    (k0 : ∀ e f kd t v h', recD b = .error e → StB h' p B (.error e) → Ext (fun i => i = p) h h' → R f kd t v h')
    (k1 : ∀ x l h', recD b = .ok (x, l) → RdB h' p B [.int .i64 0] l → Ext (fun i => i = p) h h' → R x.fam x.kind x.key x.val h') :
    Call Go.Proofs.Try.prog 45 [.lf (.ptr (some (p, 0)))] h [.agg [.int .u32, .int .i64, .str, .str]] R := by
  have hp := r.lt
  refine ok45 (New.mk fun b0 h1 hb0 hs1 e1 _ => ?_)
  have r1 := r.ext0 e1
  obtain ⟨s, t, kk, a, n⟩ := r1.ex
  have hlen := a.len
  refine NilC.mk rfl ⟨s, kk.cell rfl, Br.eq (fun c => NilC.mk rfl (r1.why (by decide) fun h7 hs7 S7 e7 => ⟨e7.keep (by omega) (by omega), Set.mk fun h8 hs8 e8 _ => ?_⟩)) fun c => ?_⟩
  · have hb : b = [] := List.length_eq_zero_iff.1 (by omega)
    exact k0 4 _ _ _ _ h8 (by rw [hb]; rfl) (S7.tmp e8 (by omega) (by omega)) ((e1.of0.trans e7).trans' e8 fun i hi z => by have z : i = b0 := z; omega)
  obtain ⟨c0, l, rfl⟩ := List.exists_cons_of_ne_nil (show b ≠ [] from fun z => c (by rw [hlen, z]; rfl))
  have hc := c0.toNat_lt
  refine NilC.mk rfl ⟨s, kk.cell rfl, a.arr.ix (k := 0) (x := c0) rfl rfl fun bb off hb => ⟨_, hb, New.mk fun b15 h16 hb15 hs16 e16 _ => Set.mk fun h17 hs17 e17 _ => ?_⟩⟩
  have e17' : Ext0 h1 h17 := Ext.tmp e16 e17 (by omega)
  have r17 := r1.ext0 e17'
  have s17 := e17'.size
  refine NilC.mk rfl ⟨s, (kk.ext e17').cell rfl, by omega, by rw [hlen, List.length_cons]; omega, NilC.mk rfl ?_⟩
  refine RdB.skip (kk.ext e17') (a.ext0 e17') n r.len (m := 1) (i := 1) (by simp) rfl fun h23 hs23 r23 e23 => ?_
  have r23 : RdB h23 p B [.int .i64 0] l := r23
  have E23 : Ext (fun i => i = p) h h23 := (e1.trans e17').of0.trans e23
  refine ⟨e23.keep2 (by omega) (by omega) (by omega) (by omega), ?_⟩
  rw [wi64 (by omega) (by omega)]
  refine Br.dec (fun c2 => NilC.mk rfl (r23.why (by decide) fun h26 hs26 S26 e26 => ⟨e26.keep2 (by omega) (by omega) (by omega) (by omega), Set.mk fun h27 hs27 e27 _ => ?_⟩)) fun c2 => ?_
  · exact k0 3 _ _ _ _ h27 (by rw [recD_cons, if_pos (by omega)]) (S26.tmp e27 (by omega) (by omega)) ((E23.trans e26).trans' e27 fun i hi z => by have z : i = b0 := z; omega)
  have c2' : ¬ 2 < c0.toNat := by omega
  refine c62 (x := .ok l) r23 (fun e he => by cases he) fun l' h29 hl' S29 e29 => ?_
  cases hl'
  have s29 := e29.size
  have E29 := E23.trans e29
  refine ⟨e29.keep2 (by omega) (by omega) (by omega) (by omega), ?_⟩
  generalize hF : vrGo l 0 0 = F at *
  have hnum : numD l 4294967295 = if F.2.2 ≠ 0 then .error F.2.2 else if 4294967295 < F.1 then .error 3 else .ok (F.1, l.drop F.2.1) := by unfold numD; rw [hF]
  refine ⟨fun hh => StB hh p B (snd' (numD l 4294967295)) ∧ Ext (fun i => i = p) h hh ∧ h23.size ≤ hh.size, ⟨fun x hh => x = decide (F.2.2 = 0 ∧ 4294967295 < F.1) ∧ h29 = hh, ?_, ?_⟩, ?_⟩
  · obtain ⟨e', bb', rr, hx⟩ := S29.rd
    obtain ⟨s', t', k', _, _⟩ := rr.ex
    refine NilC.mk rfl ⟨e', k'.cell rfl, Br.eq (fun z => ⟨?_, rfl⟩) fun z => ⟨?_, rfl⟩⟩
    · have h0 : F.2.2 = 0 := by
        rcases hx with ⟨_, hx⟩ | ⟨hx, _⟩
        · split at hx
          · assumption
          · cases hx
        · exact absurd z hx
      rw [Bool.eq_iff_iff]; simp only [decide_eq_true_eq]; omega
    · have h0 : F.2.2 ≠ 0 := by
        rcases hx with ⟨hx, _⟩ | ⟨_, hx⟩
        · exact absurd hx z
        · split at hx
          · cases hx
          · assumption
      symm; exact decide_eq_false fun w => h0 w.1
  · rintro _ _ ⟨rfl, rfl⟩
    refine Br.dec (fun z => ?_) fun z => ?_
    · rw [if_neg (by simpa using z.1), if_pos z.2] at hnum
      rw [if_pos z.1] at S29
      have r29 : RdB h29 p B [.int .i64 0] _ := S29
      refine NilC.mk rfl (r29.why (by decide) fun h39 hs39 S39 e39 => ⟨e39.keep2 (by omega) (by omega) (by omega) (by omega), ?_, E29.trans e39, by omega⟩)
      rw [hnum]; exact S39
    · refine ⟨?_, E29, by omega⟩
      by_cases h0 : F.2.2 = 0
      · rw [if_neg (by simpa using h0), if_neg (by omega)] at hnum
        rw [if_pos h0] at S29
        rw [hnum]; exact S29
      · rw [if_pos h0] at hnum
        rw [if_neg h0] at S29
        rw [hnum]; exact S29
  rintro h40 ⟨S40, E40, s40⟩
  refine Set.mk fun h41 hs41 e41 _ => ?_
  have S41 := S40.tmp e41 (by omega) (by omega)
  have E41 : Ext (fun i => i = p) h h41 := E40.trans' e41 fun i hi z => by have z : i = b15 := z; omega
  refine c63 S41 (most := 1024) (by omega) fun t42 h43 ht42 S43 e43 => ?_
  have s43 := e43.size
  have E43 := E41.trans e43
  refine ⟨e43.keep2 (by omega) (by omega) (by omega) (by omega), Set.mk fun h44 hs44 e44 _ => ?_⟩
  have S44 := S43.tmp e44 (by omega) (by omega)
  have E44 : Ext (fun i => i = p) h h44 := E43.trans' e44 fun i hi z => by have z : i = b15 := z; omega
  have hrec := recD_cons c0 l
  rw [if_neg c2'] at hrec
  -- the number of the family, where all is well
  have hfam : ∀ f r1, numD l 4294967295 = .ok (f, r1) → IntKind.wrap .u32 ((F.1 : Nat) : Int) = (f : Int) := fun f r1 hf => by
    obtain ⟨_, f2, _, f4, _⟩ := numD_ok hf
    rw [hF] at f4
    rw [f4, wu32 (by omega) (by omega)]
  refine Br.ne (fun c3 => ?_) fun c3 => ?_
  · have hk0 : c0.toNat ≠ 0 := by omega
    refine c38 ?_
    have hm : (if (c0.toNat : Int) = 1 then (16384 : Int) else if (c0.toNat : Int) = 2 then 1024 else 9223372036854775807) = ((mostD c0.toNat : Nat) : Int) := by
      unfold mostD
      have : c0.toNat = 1 ∨ c0.toNat = 2 := by omega
      rcases this with z | z <;> rw [z] <;> rfl
    rw [hm]
    have hmd : mostD c0.toNat < 9223372036854775808 := by unfold mostD; split <;> omega
    refine ⟨(Ext.refl none' h44).keep2 (by omega) (by omega), c63 S44 hmd fun t47 h48 ht47 S48 e48 => ?_⟩
    have s48 := e48.size
    refine ⟨e48.keep2 (by omega) (by omega) (by omega) (by omega), Set.mk fun h49 hs49 e49 _ => Set.mk fun h50 hs50 e50 _ => ?_⟩
    have S50 := (S48.tmp e49 (by omega) (by omega)).tmp e50 (by omega) (by omega)
    have E50 : Ext (fun i => i = p) h h50 := ((E44.trans e48).trans' e49 fun i hi z => by have z : i = b15 := z; omega).trans' e50 fun i hi z => by have z : i = b0 := z; omega
    cases hy1 : numD l 4294967295 with
    | error e =>
      rw [hy1] at hrec S50
      exact k0 e _ _ _ _ h50 hrec S50 E50
    | ok y1 =>
      obtain ⟨f, r1⟩ := y1
      rw [hy1] at hrec S50 ht42 ht47
      simp only at hrec
      cases hy2 : textD r1 1024 with
      | error e =>
        rw [hy2] at hrec
        have : textX (snd' (textX (snd' (.ok (f, r1))) 1024)) (mostD c0.toNat) = .error e := by simp only [snd', textX, hy2]
        rw [this] at S50
        exact k0 e _ _ _ _ h50 hrec S50 E50
      | ok y2 =>
        obtain ⟨key, r2⟩ := y2
        rw [hy2] at hrec
        simp only at hrec
        rw [if_neg hk0] at hrec
        have e2 : textX (snd' (.ok (f, r1))) 1024 = .ok (key, r2) := by simp only [snd', textX, hy2]
        rw [e2] at S50 ht47
        cases hy3 : textD r2 (mostD c0.toNat) with
        | error e =>
          rw [hy3] at hrec
          have : textX (snd' (.ok (key, r2))) (mostD c0.toNat) = .error e := by simp only [snd', textX, hy3]
          rw [this] at S50
          exact k0 e _ _ _ _ h50 hrec S50 E50
        | ok y3 =>
          obtain ⟨val, r3⟩ := y3
          rw [hy3] at hrec
          have e3 : textX (snd' (.ok (key, r2))) (mostD c0.toNat) = .ok (val, r3) := by simp only [snd', textX, hy3]
          rw [e3] at S50
          have := k1 _ _ h50 hrec S50 E50
          rw [hfam f r1 hy1, ht42 key r2 e2, ht47 val r3 e3]
          exact this
  · have hk0 : c0.toNat = 0 := by omega
    refine Set.mk fun h51 hs51 e51 _ => ?_
    have S51 := S44.tmp e51 (by omega) (by omega)
    have E51 : Ext (fun i => i = p) h h51 := E44.trans' e51 fun i hi z => by have z : i = b0 := z; omega
    cases hy1 : numD l 4294967295 with
    | error e =>
      rw [hy1] at hrec S51
      exact k0 e _ _ _ _ h51 hrec S51 E51
    | ok y1 =>
      obtain ⟨f, r1⟩ := y1
      rw [hy1] at hrec S51 ht42
      simp only at hrec
      cases hy2 : textD r1 1024 with
      | error e =>
        rw [hy2] at hrec
        have : textX (snd' (.ok (f, r1))) 1024 = .error e := by simp only [snd', textX, hy2]
        rw [this] at S51
        exact k0 e _ _ _ _ h51 hrec S51 E51
      | ok y2 =>
        obtain ⟨key, r2⟩ := y2
        rw [hy2] at hrec
        simp only at hrec
        rw [if_pos hk0] at hrec
        have e2 : textX (snd' (.ok (f, r1))) 1024 = .ok (key, r2) := by simp only [snd', textX, hy2]
        rw [e2] at S51
        have := k1 _ _ h51 hrec S51 E51
        rw [hfam f r1 hy1, ht42 key r2 e2]
        exact this

theorem c35 {seq n : Int} (h0 : 0 ≤ seq) (h1 : 0 ≤ n) (h2 : n ≤ 9223372036854775807) {R : Bool → Heap → Prop} (k : R (fitsB seq n) h) :
    Call Go.Proofs.Try.prog 35 [.lf (.int .u64 seq), .lf (.int .i64 n)] h [.one .bool] R := by
  refine ok35 (Br.dec (fun hs => Br.eq (fun hn => ?_) fun hn => ?_) fun hs => ?_)
  · have : fitsB seq n = true := by simp [fitsB]; omega
    rwa [this] at k
  · rw [wi64 (by omega) (by omega), wu64 (by omega) (by omega), wu64 (by omega) (by omega)]
    have : fitsB seq n = decide (n - 1 ≤ 72057594037927935 - seq) := by
      unfold fitsB
      rw [Bool.eq_iff_iff]; simp only [decide_eq_true_eq]; omega
    rwa [this] at k
  · have : fitsB seq n = false := by simp [fitsB]; omega
    rwa [this] at k

theorem c23 {s : Slc} (a : Byt h s b) (hs : ∀ blk off, s.a = some (blk, off) → blk < h.size) {R : Int → Slc → Int → Heap → Prop}
    (k0 : ∀ e h', decD b = .error e → Ext0 h h' → R 0 ⟨none, 0, 0⟩ e h')
    (k1 : ∀ seq l s' h', decD b = .ok (seq, l) → Own 4 Rec.lfs h' s' l → Fresh h h' s' → R (seq : Nat) s' 0 h') :
    Call Go.Proofs.Try.prog 23 [.lf (.slc s)] h [.one (.int .u64), .one .slc, .one (.int .i64)] R := by
  have hlen := a.len
  have hcap := a.cap
  refine ok23 (Br.dec (fun c => k0 2 h (by unfold decD; rw [if_pos (by omega)]) (Ext.refl _ _)) fun c => ?_)
  have c1 : ¬ 4194304 < b.length := by omega
  refine c44 a.arr (m := 8) (by omega) (fun c2 => Br.t rfl (k0 4 h (by unfold decD; rw [if_neg c1, if_pos c2]) (Ext.refl _ _))) fun c2 => ?_
  have c2' : ¬ b.length < 8 := by omega
  have hl8 : (b.take 8).length = 8 := by simp; omega
  rw [fixI_le (by omega)]
  generalize hseq : Go.V.le (b.take 8) = seq at *
  refine Br.f rfl (Br.dec (fun c3 => k0 3 h (by unfold decD; rw [if_neg c1, if_neg c2', hseq, if_pos (by omega)]) (Ext.refl _ _)) fun c3 => ⟨by omega, by omega, ?_⟩)
  have c3' : ¬ 72057594037927935 < seq := by omega
  refine c44 (a.drop (lo := 8) (by omega)).arr (m := 4) (by omega) (fun c4 => ?_) fun c4 => ?_
  · rw [List.length_drop] at c4
    exact Br.t rfl (k0 4 h (by unfold decD; rw [if_neg c1, if_neg c2', hseq, if_neg c3', if_pos (by omega)]) (Ext.refl _ _))
  rw [List.length_drop] at c4
  have c4' : ¬ b.length < 12 := by omega
  have hl4 : ((b.drop 8).take 4).length = 4 := by simp; omega
  have hlt4 := Go.V.le_lt ((b.drop 8).take 4)
  rw [hl4] at hlt4
  have h4e : 256 ^ 4 = 4294967296 := rfl
  rw [fixI_le (by omega)]
  generalize hn : Go.V.le ((b.drop 8).take 4) = n at *
  have hd5 : (4096 < n ∨ fitsB seq n = false) → decD b = .error 3 := fun c5 => by unfold decD; rw [if_neg c1, if_neg c2', hseq, if_neg c3', if_neg c4', hn, if_pos c5]
  rw [wi64 (by omega) (by omega)]
  refine Br.f rfl ⟨fun c hh => c = decide (4096 < n ∨ fitsB seq n = false) ∧ h = hh, Br.dec (fun c5 => ⟨(decide_eq_true (.inl (by omega))).symm, rfl⟩) fun c5 => c35 (by omega) (by omega) (by omega) ⟨?_, rfl⟩, ?_⟩
  · cases hf : fitsB seq n with
    | true => simp; omega
    | false => simp
  rintro _ _ ⟨rfl, rfl⟩
  refine Br.dec (fun c5 => k0 3 h (hd5 c5) (Ext.refl _ _)) fun c5 => ⟨by omega, by omega, ?_⟩
  have hdec : decD b = match recsD n (b.drop 12) with
      | .error e => .error e
      | .ok (l, r) => if r = [] then .ok (seq, l) else .error 5 := by
    unfold decD; rw [if_neg c1, if_neg c2', hseq, if_neg c3', if_neg c4', hn, if_neg c5]; rfl
  have hn2 : n ≤ 4096 := by
    rcases Nat.lt_or_ge 4096 n with z | z
    · exact absurd (.inl z) c5
    · exact z
  refine New.mk fun p h12 hp hs12 e12 q12 => New.mk fun b13 h14 hb13 hs14 e14 q14 => ?_
  obtain ⟨tp, q12⟩ : ∃ t, Blk h12 p t [.slc (s.sub 1 12 s.len s.cap), .int .i64 0] := ⟨_, q12⟩
  have r12 : RdB h12 p h.size [.int .i64 0] (b.drop 12) := ⟨⟨_, tp, q12, (a.ext0 e12).drop (lo := 12) (by omega), fun blk off z => by obtain ⟨off', z⟩ := sub_inS z; have := hs blk off' z; omega⟩, by rw [List.length_drop]; omega⟩
  refine ⟨fun sl i hh d => ∃ (q : Nat) (l : List Rec) (rest : List UInt8), i = q ∧ q ≤ n ∧ l.length = q ∧ Sofar n (b.drop 12) q l rest ∧ RdB hh p h.size [.int .i64 0] rest ∧ Own 4 Rec.lfs hh sl l ∧
      (∀ blk off, sl.a = some (blk, off) → h.size ≤ blk ∧ blk ≠ p) ∧ Ext0 h hh ∧ d = n - q, ⟨_, 0, [], _, rfl, by omega, rfl, Sofar.zero _ _, r12.ext0 e14, Own.new (l := ([] : List Rec)) lfs_sized q14, (fun blk off z => by cases z; exact ⟨by omega, by omega⟩), e12.trans e14, rfl⟩, ?_⟩
  rintro sl _ h19 _ ⟨q, l, rest, rfl, hq, hlq, hso, r, o, hsl, E, rfl⟩
  have hlt := r.lt
  refine Br.dec (fun c6 => ?_) fun c6 => ?_
  · have hqn : q < n := by omega
    refine c45 r E.size (fun e f kd t v h25 he S25 ex => ?_) fun x l' h25 hx r25 ex => ?_
    · have hd : decD b = .error e := by rw [hdec, hso.err hqn he]
      have hl25 := S25.lt
      refine New.mk fun b26 h27 hb26 hs27 e27 _ => Set.mk fun h28 hs28 e28 _ => ?_
      have S28 := (StB.tmp (x := .error e) (y := b26) (by exact ⟨S25.1, S25.2.imp fun bb rr => rr.ext0 e27⟩) e28 (by omega) (by have := E.size; have := ex.size; omega) : StB h28 p h.size (.error e))
      obtain ⟨hne, bb, rr⟩ := S28
      obtain ⟨s', t', k', _, _⟩ := rr.ex
      have E28 : Ext0 h h28 := ((E.trans' ex fun i hi z => by have z : i = p := z; omega).trans e27).trans' e28 fun i hi z => by have z : i = b26 := z; have := E.size; have := ex.size; omega
      exact ⟨e, k'.cell rfl, Br.ne (fun _ => ⟨e, k'.cell rfl, k0 e h28 hd E28⟩) fun z => absurd z hne⟩
    · have hl25 := r25.lt
      have s25 := ex.size
      have sE := E.size
      refine New.mk fun b26 h27 hb26 hs27 e27 _ => Set.mk fun h28 hs28 e28 _ => ?_
      have e28' : Ext0 h25 h28 := Ext.tmp e27 e28 (by omega)
      have r28 := r25.ext0 e28'
      obtain ⟨s', t', k', _, _⟩ := r28.ex
      refine ⟨0, k'.cell rfl, Br.f rfl (New.mk fun b31 h32 hb31 hs32 e32 q32 => ?_)⟩
      have s28 := e28'.size
      have o32 := ((o.ext ex fun ⟨blk, off, z1, z2⟩ => (hsl blk off z1).2 z2).ext0 e28').ext0 e32
      have ox : Own 4 Rec.lfs h32 ⟨some (b31, 0), 1, 1⟩ [x] := Own.new (l := [x]) lfs_sized (by simpa [Rec.lfs] using q32)
      refine AppC.grow lfs_sized (by omega) rfl o32 (ox.arr lfs_sized) (by simp; omega) fun s33 h34 o34 g34 => ?_
      have hlo := o.lt
      refine ⟨g34.keep (by omega) fun off z => by have := (hlo _ _ z).1; omega, n - (q + 1), by omega, q + 1, l ++ [x], l', by rw [wi64 (by omega) (by omega)]; omega, by omega, by simp [hlq], hso.step hqn hx, ?_, o34, fun blk off z => ?_, ?_, rfl⟩
      · exact (r28.ext0 e32).ext g34.ext (fun ⟨off, z⟩ => (hsl p off z).2 rfl) fun i hi ⟨off, z⟩ => by have := (hsl i off z).1; omega
      · rcases g34.new with w | ⟨b', w, hw⟩
        · rw [w] at z; exact hsl blk off z
        · rw [w] at z; cases z; exact ⟨by omega, by omega⟩
      · exact (((E.trans' ex fun i hi z => by have z : i = p := z; omega).trans e28').trans e32).trans' g34.ext fun i hi ⟨off, z⟩ => by have := (hsl i off z).1; omega
  · obtain rfl : q = n := by omega
    have hdone := hso.done
    rw [hdone] at hdec
    simp only at hdec
    obtain ⟨sr, tr, kr, ar, nr⟩ := r.ex
    have hrl := ar.len
    refine ⟨sr, kr.cell rfl, Br.dec (fun c7 => ?_) fun c7 => ?_⟩
    · exact k0 5 h19 (by rw [hdec, if_neg (by rintro rfl; simp at hrl; omega)]) E
    · have hre : rest = [] := List.length_eq_zero_iff.1 (by omega)
      rw [if_pos hre] at hdec
      exact k1 seq l sl h19 hdec o ⟨E, fun blk off z => (hsl blk off z).1⟩
end

end Go.V.Ytclffphegfhocaa
