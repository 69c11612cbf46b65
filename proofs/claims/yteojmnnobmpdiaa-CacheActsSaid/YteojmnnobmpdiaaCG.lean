/- This text proves a part of the laws of seat Yteojmnnobmpdiaa, under no condition: C11x. -/
import Derived.Test.YteojmnnobmpdiaaED
import Derived.Test.YteojmnnobmpdiaaCF
set_option linter.unusedVariables false
set_option linter.unusedSimpArgs false
/-! The cache of texts: the same contracts. -/
namespace Go.V.Yteojmnnobmpdiaa.Strs
open Go Go.V

def bF (c : UInt8) : List Lf := [.int .u8 (c.toNat : Int)]
def pF (p : Nat) : List Lf := [.ptr (some (p, 0))]
theorem pF_sized : Sized 1 pF := fun _ => rfl
def oF (b : Bool) : List Lf := [.bool b]
def sF (s : ByteArray) : List Lf := [.str s]
theorem sF_sized : Sized 1 sF := fun _ => rfl

def big : Int := 18446744073709551615
def plusS (a b : Int) : Int := if a > big - b then big else a + b

theorem c70 {a b : Int} (ha : 0 ≤ a) (ha' : a ≤ big) (hb : 0 ≤ b) (hb' : b ≤ big) {h : Heap} {R : Int → Heap → Prop} (k : R (plusS a b) h) :
    Call Go.Proofs.Try.prog 70 [.lf (.int .u64 a), .lf (.int .u64 b)] h [.one (.int .u64)] R := by
  unfold plusS big at *
  refine ok70 ?_
  unfold vc70
  rw [wu64 (by omega) (by omega)]
  refine Br.dec (fun hh => ?_) fun hh => ?_
  · rwa [if_pos hh] at k
  · rw [wu64 (by omega) (by omega)]
    rwa [if_neg hh] at k

theorem plusS_range {a b : Int} (ha : 0 ≤ a) (ha' : a ≤ big) (hb : 0 ≤ b) (hb' : b ≤ big) : 0 ≤ plusS a b ∧ plusS a b ≤ big := by
  unfold plusS big at *; split <;> omega

/-- What a list of numbers comes to, at most the greatest. -/
def sums : List Int → Int
  | [] => 0
  | x :: l => x + sums l
def cap (n : Int) : Int := if n > big then big else n
theorem plusS_cap {s c : Int} (hs : 0 ≤ s) (hc : 0 ≤ c) (hc' : c ≤ big) : plusS (cap s) c = cap (s + c) := by
  unfold plusS cap big at *; split <;> split <;> split <;> omega
theorem sums_nonneg : ∀ {l : List Int}, (∀ x ∈ l, 0 ≤ x) → 0 ≤ sums l
  | [], _ => Int.le_refl _
  | x :: l, h => by
    have := sums_nonneg fun y hy => h y (List.mem_cons_of_mem _ hy)
    have := h x (List.mem_cons_self ..)
    simp only [sums]; omega
theorem sums_append : ∀ l m : List Int, sums (l ++ m) = sums l + sums m
  | [], m => by simp [sums]
  | x :: l, m => by simp only [List.cons_append, sums, sums_append l m]; omega
theorem sums_perm {l m : List Int} (h : l.Perm m) : sums l = sums m := by
  induction h with
  | nil => rfl
  | cons x _ ih => simp only [sums, ih]
  | swap x y l => simp only [sums]; omega
  | trans _ _ ih1 ih2 => exact ih1.trans ih2
theorem cap_range {n : Int} (h : 0 ≤ n) : 0 ≤ cap n ∧ cap n ≤ big := by unfold cap big; split <;> omega

/-- An entry. -/
structure It where
  key : ByteArray
  v : ByteArray
  ch : Int
  inn : Bool
  pins : Int
def It.lfs (x : It) : List Lf := [.str x.key, .str x.v, .int .u64 x.ch, .bool x.inn, .int .i64 x.pins]

/-- A part of the cache. -/
structure Sh where
  ins : List (ByteArray × Nat)
  all : List Nat
  waits : List Nat

structure CS where
  room : Int
  strict : Bool
  last : Int
  sh : List Sh
  pins : List (Int × Nat)
  it : Nat → Option It

/-- What a block is. -/
inductive Lab where
  | c | row | pm
  | sh (i : Nat) | im (i : Nat) | am (i : Nat) | wt (i : Nat)
  | it

structure ShR (h : Heap) (lab : Nat → Option Lab) (i b im am : Nat) (ws : Slc) (s : Sh) : Prop where
  blk : Blk h b 172 [.map (some im), .map (some am), .slc ws]
  ins : MapR h im .str (.one .ptr) pF s.ins
  all : MapR h am .ptr (.one .bool) oF (s.all.map fun p => (some (p, 0), true))
  waits : Own 1 pF h ws s.waits
  lb : lab b = some (.sh i)
  lim : lab im = some (.im i)
  lam : lab am = some (.am i)
  lws : ∀ x o, ws.a = some (x, o) → lab x = some (.wt i)

structure ItOk (x : It) : Prop where
  c0 : 0 ≤ x.ch
  c1 : x.ch ≤ big

/-- The cache in memory. -/
structure CR (h : Heap) (lab : Nat → Option Lab) (c : Nat) (row : Slc) (pm : Nat) (bs : List Nat) (σ : CS) : Prop where
  blk : Blk h c 166 [.slc row, .int .u64 σ.room, .bool σ.strict, .map (some pm), .int .i64 σ.last]
  rowo : Own 1 pF h row bs
  len : bs.length = σ.sh.length
  shs : ∀ i s b, σ.sh[i]? = some s → bs[i]? = some b → ∃ im am ws, ShR h lab i b im am ws s
  pins : MapR h pm (.int .i64) (.one .ptr) pF σ.pins
  its : ∀ p x, σ.it p = some x → Blk h p 177 x.lfs ∧ lab p = some .it ∧ ItOk x
  lc : lab c = some .c
  lrow : ∀ x o, row.a = some (x, o) → lab x = some .row
  lpm : lab pm = some .pm
  lt : ∀ b, lab b ≠ none → b < h.size
  r0 : 0 ≤ σ.room
  r1 : σ.room ≤ big
  n0 : 1 ≤ σ.sh.length
  n1 : σ.sh.length ≤ 64

theorem ShR.ext {h h' : Heap} {lab : Nat → Option Lab} {i b im am : Nat} {ws : Slc} {s : Sh} {S : Nat → Prop} (r : ShR h lab i b im am ws s) (e : Ext S h h') (hs : ∀ x l, lab x = some l → ¬ S x) : ShR h' lab i b im am ws s :=
  ⟨r.blk.ext e (hs _ _ r.lb), r.ins.ext e (hs _ _ r.lim), r.all.ext e (hs _ _ r.lam), r.waits.ext e fun ⟨x, o, hx, hS⟩ => hs _ _ (r.lws x o hx) hS, r.lb, r.lim, r.lam, r.lws⟩
theorem CR.ext {h h' : Heap} {lab : Nat → Option Lab} {c : Nat} {row : Slc} {pm : Nat} {bs : List Nat} {σ : CS} {S : Nat → Prop} (r : CR h lab c row pm bs σ) (e : Ext S h h') (hs : ∀ x l, lab x = some l → ¬ S x) : CR h' lab c row pm bs σ :=
  { r with
    blk := r.blk.ext e (hs _ _ r.lc), rowo := r.rowo.ext e fun ⟨x, o, hx, hS⟩ => hs _ _ (r.lrow x o hx) hS,
    shs := fun i s b h1 h2 => let ⟨im, am, ws, hh⟩ := r.shs i s b h1 h2; ⟨im, am, ws, hh.ext e hs⟩,
    pins := r.pins.ext e (hs _ _ r.lpm), its := fun p x hp => ⟨(r.its p x hp).1.ext e (hs _ _ (r.its p x hp).2.1), (r.its p x hp).2⟩,
    lt := fun b hb => Nat.lt_of_lt_of_le (r.lt b hb) e.size }
theorem CR.ext0 {h h' : Heap} {lab : Nat → Option Lab} {c : Nat} {row : Slc} {pm : Nat} {bs : List Nat} {σ : CS} (r : CR h lab c row pm bs σ) (e : Ext0 h h') : CR h' lab c row pm bs σ := r.ext e fun _ _ _ k => k

/-- What a part's entries take. -/
def chOf (it : Nat → Option It) (p : Nat) : Int := match it p with | some x => x.ch | none => 0
def usedS (it : Nat → Option It) (s : Sh) : Int := cap (sums (s.all.map (chOf it)))

theorem itF_typed : ∀ v : Bool, ExL (VT.one .bool).lts fun l => l = oF v := fun v => ⟨v, rfl⟩

/-- What is used of a part. -/
theorem c103 {h : Heap} {lab : Nat → Option Lab} {c : Nat} {row : Slc} {pm : Nat} {bs : List Nat} {σ : CS} (C : CR h lab c row pm bs σ) {i b : Nat} {s : Sh} (hs : σ.sh[i]? = some s) (hb : bs[i]? = some b)
    (hall : ∀ p ∈ s.all, ∃ x, σ.it p = some x) {R : Int → Heap → Prop} (k : ∀ h', Ext0 h h' → R (usedS σ.it s) h') :
    Call Go.Proofs.Try.prog 103 [.lf (.ptr (some (b, 0)))] h [.one (.int .u64)] R := by
  obtain ⟨im, am, ws, S⟩ := C.shs i s b hs hb
  refine ok103 (NilC.mk rfl ⟨some am, S.blk.cell rfl, Iter.start S.all fun b3 h4 hb3 hs4 e4 I0 => ?_⟩)
  refine ⟨fun n h' d => ∃ seen rest : List Nat, Iter h' b3 am .ptr (.one .bool) oF (s.all.map fun p => (some (p, 0), true)) (seen.map fun p => (some (p, 0), true)) ∧ s.all.Perm (seen ++ rest) ∧ d = rest.length ∧ n = cap (sums (seen.map (chOf σ.it))) ∧ Ext0 h h', ⟨_, [], s.all, I0, List.Perm.refl _, rfl, rfl, e4⟩, ?_⟩
  rintro _ h8 _ ⟨seen, rest, I, hp, rfl, rfl, e⟩
  have hinj : ∀ {l m : List Nat}, (l.map fun p => ((some (p, 0), true) : Option (Nat × Nat) × Bool)).Perm (m.map fun p => (some (p, 0), true)) → l.Perm m := by
    intro l m hlm
    have := hlm.map fun x : Option (Nat × Nat) × Bool => (x.1.getD (0, 0)).1
    simpa [List.map_map, Function.comp_def] using this
  have hch : ∀ p ∈ s.all, 0 ≤ chOf σ.it p ∧ chOf σ.it p ≤ big := fun p hp => by
    obtain ⟨x, hx⟩ := hall p hp
    have := (C.its p x hx).2.2
    simp only [chOf, hx]
    exact ⟨this.c0, this.c1⟩
  have hseen : ∀ p ∈ seen, p ∈ s.all := fun p hp' => hp.mem_iff.2 (List.mem_append.2 (.inl hp'))
  have hsn : 0 ≤ sums (seen.map (chOf σ.it)) := sums_nonneg fun x hx => by
    obtain ⟨p, hp', rfl⟩ := List.mem_map.1 hx
    exact (hch p (hseen p hp')).1
  refine I.next (fun hperm => ?_) fun x rest' h' hl hs' e' I' hE => ?_
  · have := sums_perm ((hinj hperm).map (chOf σ.it))
    have hh := k h8 e
    rw [usedS, ← this] at hh
    exact hh
  · have hx : x ∈ (s.all.map fun p => ((some (p, 0), true) : Option (Nat × Nat) × Bool)) := hl.mem_iff.2 (List.mem_append.2 (.inr (List.mem_cons_self ..)))
    obtain ⟨p, hpm, rfl⟩ := List.mem_map.1 hx
    obtain ⟨y, hy⟩ := hall p hpm
    have eh : Ext0 h h' := e.tmp e' (by have := e4.size; omega)
    have hblk := ((C.its p y hy).1.ext eh)
    have hrest : ∃ r2, s.all.Perm (seen ++ p :: r2) := by
      obtain ⟨r2, hr2⟩ : ∃ r2 : List Nat, rest'.Perm (r2.map fun p => (some (p, 0), true)) := by
        refine ⟨rest'.map fun x => (x.1.getD (0, 0)).1, ?_⟩
        have hall' : ∀ x ∈ rest', x ∈ (s.all.map fun p => ((some (p, 0), true) : Option (Nat × Nat) × Bool)) := fun x hx => hl.mem_iff.2 (List.mem_append.2 (.inr (List.mem_cons_of_mem _ hx)))
        have : rest' = (rest'.map fun x => (x.1.getD (0, 0)).1).map fun p => (some (p, 0), true) := by
          rw [List.map_map]
          conv => lhs; rw [← List.map_id rest']
          apply List.map_congr_left
          intro x hx
          obtain ⟨q, _, rfl⟩ := List.mem_map.1 (hall' x hx)
          rfl
        rw [← this]
      refine ⟨r2, hinj (hl.trans ?_)⟩
      rw [List.map_append, List.map_cons]
      exact List.Perm.append_left _ (List.Perm.cons _ hr2)
    obtain ⟨r2, hr2⟩ := hrest
    have hlen : r2.length < rest.length := by
      have h1 := hp.length_eq
      have h2 := hr2.length_eq
      simp only [List.length_append, List.length_cons] at h1 h2
      omega
    refine ⟨some (p, 0), true, hE, NilC.mk rfl ⟨y.ch, hblk.cell rfl, ?_⟩⟩
    have hc := hch p hpm
    have hcy : chOf σ.it p = y.ch := by simp only [chOf, hy]
    rw [hcy] at hc
    have hcr := cap_range hsn
    refine c70 hcr.1 hcr.2 hc.1 hc.2 ⟨_, hlen, seen ++ [p], r2, by simpa using I', by simpa using hr2, rfl, ?_, eh⟩
    rw [plusS_cap hsn hc.1 hc.2, List.map_append, sums_append]
    simp [sums, hcy]



theorem find_none {q : Nat → Bool} {l : List Nat} (h : ∀ p ∈ l, q p = false) : l.filter (fun p => !q p) = l := by
  rw [List.filter_eq_self]; intro p hp; simp [h p hp]

/-- The first element of a kind. -/
theorem c158 {h : Heap} {s : Slc} {l : List Nat} {v : Value} {q : Nat → Bool} (a : Arr 1 pF h s l) (hl : l.length ≤ 9223372036854775807)
    (hq : ∀ p ∈ l, ∀ R : Bool → Heap → Prop, R (q p) h → CallV Go.Proofs.Try.prog v [.lf (.ptr (some (p, 0)))] h [.one .bool] R)
    {R : Int → Heap → Prop} (k0 : (∀ p ∈ l, q p = false) → R (-1) h) (k1 : ∀ n (hn : n < l.length), (∀ p ∈ l.take n, q p = false) → q l[n] = true → R n h) :
    Call Go.Proofs.Try.prog 158 [.lf (.slc s), .lf (.raw v)] h [.one (.int .i64)] R := by
  have hlen := a.len
  refine ok158 ⟨fun i h' d => ∃ n : Nat, i = n ∧ n ≤ l.length ∧ d = l.length - n ∧ h' = h ∧ (∀ p ∈ l.take n, q p = false), ⟨_, 0, rfl, by omega, rfl, rfl, by simp⟩, ?_⟩
  rintro _ _ _ ⟨n, rfl, hn, rfl, rfl, hp⟩
  refine Br.dec (fun hi => ?_) fun hi => ?_
  · have hi' : n < l.length := by omega
    refine a.ix rfl (List.getElem?_eq_getElem hi') fun b o hc => ⟨_, hc, hq _ (List.getElem_mem hi') _ (Br.mk (fun ht => k1 n hi' hp ht) fun hf => ⟨_, ?_, n + 1, ?_, by omega, rfl, rfl, ?_⟩)⟩
    · show l.length - (n + 1) < l.length - n; omega
    · rw [wi64 (by omega) (by omega)]; rfl
    · intro p hpm
      rw [List.take_succ_eq_append_getElem hi'] at hpm
      rcases List.mem_append.1 hpm with hpm | hpm
      · exact hp p hpm
      · simp at hpm; rw [hpm]; exact hf
  · have : n = l.length := by omega
    subst this
    rw [List.take_length] at hp
    exact k0 hp

theorem filter_take_succ {q : Nat → Bool} {l : List Nat} {n : Nat} (hn : n < l.length) : (l.take (n + 1)).filter (fun p => !q p) = (l.take n).filter (fun p => !q p) ++ (if q l[n] = true then [] else [l[n]]) := by
  rw [List.take_succ_eq_append_getElem hn, List.filter_append]
  congr 1
  cases h : q l[n] <;> simp [h]

/-- Elements of a kind are taken out. -/
theorem c135 {h : Heap} {s : Slc} {l : List Nat} {v : Value} {q : Nat → Bool} (o : Own 1 pF h s l) (hl : l.length ≤ 9223372036854775806)
    (hq : ∀ h', h'.size = h.size → Ext (fun b => ∃ off, s.a = some (b, off)) h h' → ∀ p ∈ l, ∀ R : Bool → Heap → Prop, R (q p) h' → CallV Go.Proofs.Try.prog v [.lf (.ptr (some (p, 0)))] h' [.one .bool] R)
    {R : Slc → Heap → Prop} (k : ∀ s' h', h'.size = h.size → Own 1 pF h' s' (l.filter fun p => !q p) → Ext (fun b => ∃ off, s.a = some (b, off)) h h' → (s'.a = s.a) → R s' h') :
    Call Go.Proofs.Try.prog 135 [.lf (.slc s), .lf (.raw v)] h [.one .slc] R := by
  have hlen := o.len
  have hlec := o.lec
  refine ok135 (c158 (q := q) (o.arr pF_sized) (by omega) (hq h rfl (Ext.refl _ _)) (fun hall => Br.t rfl ?_) fun n hn hpre hqn => Br.f (by simp) ?_)
  · have := k s h rfl (by rw [find_none hall]; exact o) (Ext.refl _ _) rfl
    exact this
  · refine ⟨fun i j h' d => ∃ (a b : Nat) (L : List Nat), i = a ∧ j = b ∧ a ≤ b ∧ b ≤ l.length ∧ d = l.length - b ∧ h'.size = h.size ∧ Own 1 pF h' s L ∧ L.length = l.length ∧ L.take a = (l.take b).filter (fun p => !q p) ∧ L.drop b = l.drop b ∧ Ext (fun b => ∃ off, s.a = some (b, off)) h h',
      ⟨_, n, n + 1, l, rfl, by rw [wi64 (by omega) (by omega)]; rfl, by omega, by omega, rfl, rfl, o, rfl, ?_, rfl, Ext.refl _ _⟩, ?_⟩
    · rw [filter_take_succ hn, find_none hpre]; simp [hqn]
    rintro _ _ h6 _ ⟨a, b, L, rfl, rfl, hab, hbl, rfl, hsz, oL, hLl, hLt, hLd, e⟩
    refine Br.dec (fun hi => ?_) fun hi => ?_
    · have hi' : b < l.length := by omega
      have hLb : L[b]? = some l[b] := by
        have := congrArg (fun x => x[0]?) hLd
        simpa [List.getElem?_drop, List.getElem?_eq_getElem hi'] using this
      refine (oL.arr pF_sized).ix rfl hLb fun b1 o1 hc => ⟨_, hc, hq h6 hsz e _ (List.getElem_mem hi') _ (Br.not (fun hf => ?_) fun ht => ?_)⟩
      · refine IxC.set pF_sized oL (k := a) rfl (by omega) (x := l[b]) rfl fun h7 hs7 o7 e7 => ⟨_, ?_, a + 1, b + 1, _, ?_, ?_, by omega, by omega, rfl, by omega, o7, by simpa using hLl, ?_, ?_, e.trans e7⟩
        · show l.length - (b + 1) < l.length - b; omega
        · rw [wi64 (by omega) (by omega)]; rfl
        · rw [wi64 (by omega) (by omega)]; rfl
        · rw [filter_take_succ hi', ← hLt]
          simp only [hf, Bool.false_eq_true, if_false]
          have ha : a < L.length := by omega
          rw [List.take_succ_eq_append_getElem (by simpa using ha)]
          congr 1
          · rw [List.take_set_of_le (Nat.le_refl _)]
          · simp
        · rw [List.drop_set_of_lt (by omega)]
          have := congrArg (List.drop 1) hLd
          simpa [List.drop_drop, Nat.add_comm] using this
      · refine ⟨_, ?_, a, b + 1, L, rfl, ?_, by omega, by omega, rfl, hsz, oL, hLl, ?_, ?_, e⟩
        · show l.length - (b + 1) < l.length - b; omega
        · rw [wi64 (by omega) (by omega)]; rfl
        · rw [filter_take_succ hi', hLt]; simp [ht]
        · have := congrArg (List.drop 1) hLd
          simpa [List.drop_drop, Nat.add_comm] using this
    · have hbb : b = l.length := by omega
      subst hbb
      rw [List.take_length] at hLt
      have hac := oL.lec
      have hal := oL.len
      refine ⟨by omega, by omega, ?_⟩
      have ha : (a : Int).toNat = a := by simp
      rw [ha]
      refine ClrC.tail pF_sized oL (by omega) rfl fun h7 hs7 o7 e7 => ⟨by omega, by omega, k _ h7 (by omega) ?_ (e.trans e7) ?_⟩
      · rw [← hLt]; exact o7
      · unfold Slc.sub
        cases hsa : s.a with
        | none => simp
        | some p => simp



theorem Blk.plain {h : Heap} {b : Nat} {t : TypeId} {cs : List Lf} (k : Blk h b t cs) : plainAt h b := ⟨_, _, k⟩

theorem ShR.ext' {h h' : Heap} {lab lab' : Nat → Option Lab} {i b im am : Nat} {ws : Slc} {s : Sh} {S : Nat → Prop} (r : ShR h lab i b im am ws s) (e : Ext S h h') (hs : ∀ x l, lab x = some l → (l = .sh i ∨ l = .im i ∨ l = .am i ∨ l = .wt i) → ¬ S x)
    (hl : ∀ x l, lab x = some l → lab' x = some l) : ShR h' lab' i b im am ws s :=
  ⟨r.blk.ext e (hs _ _ r.lb (.inl rfl)), r.ins.ext e (hs _ _ r.lim (.inr (.inl rfl))), r.all.ext e (hs _ _ r.lam (.inr (.inr (.inl rfl)))), r.waits.ext e fun ⟨x, o, hx, hS⟩ => hs _ _ (r.lws x o hx) (.inr (.inr (.inr rfl))) hS,
    hl _ _ r.lb, hl _ _ r.lim, hl _ _ r.lam, fun x o hx => hl _ _ (r.lws x o hx)⟩

/-- A part of the cache is put anew. -/
theorem CR.upd {h h' : Heap} {lab lab' : Nat → Option Lab} {c : Nat} {row : Slc} {pm : Nat} {bs : List Nat} {σ : CS} {S : Nat → Prop} {i b im am : Nat} {ws : Slc} {s' : Sh} (C : CR h lab c row pm bs σ) (e : Ext S h h')
    (hS : ∀ x l, lab x = some l → S x → l = .sh i ∨ l = .im i ∨ l = .am i ∨ l = .wt i) (hl : ∀ x l, lab x = some l → lab' x = some l) (hlt : ∀ x, lab' x ≠ none → x < h'.size) (hb : bs[i]? = some b)
    (S' : ShR h' lab' i b im am ws s') : CR h' lab' c row pm bs { σ with sh := σ.sh.set i s' } := by
  have no : ∀ x l, lab x = some l → ¬ (l = .sh i ∨ l = .im i ∨ l = .am i ∨ l = .wt i) → ¬ S x := fun x l hx hn hs => hn (hS x l hx hs)
  refine ⟨C.blk.ext e (no _ _ C.lc (by simp)), C.rowo.ext e fun ⟨x, o, hx, hs⟩ => no _ _ (C.lrow x o hx) (by simp) hs, by simpa using C.len, fun j s b' h1 h2 => ?_, C.pins.ext e (no _ _ C.lpm (by simp)),
    fun p x hp => ⟨(C.its p x hp).1.ext e (no _ _ (C.its p x hp).2.1 (by simp)), hl _ _ (C.its p x hp).2.1, (C.its p x hp).2.2⟩, hl _ _ C.lc, fun x o hx => hl _ _ (C.lrow x o hx), hl _ _ C.lpm, hlt, C.r0, C.r1, by simpa using C.n0, by simpa using C.n1⟩
  simp only [List.getElem?_set] at h1
  split at h1
  · rename_i hij
    subst hij
    split at h1
    · cases h1
      rw [hb] at h2; cases h2
      exact ⟨im, am, ws, S'⟩
    · cases h1
  · rename_i hij
    obtain ⟨im', am', ws', r⟩ := C.shs j s b' h1 h2
    refine ⟨im', am', ws', r.ext' e (fun x l hx hl' hs => ?_) hl⟩
    have := hS x l hx hs
    rcases hl' with rfl | rfl | rfl | rfl <;> simp at this <;> exact hij this.symm

/-- An entry is put anew. -/
theorem CR.setIt {h h' : Heap} {lab : Nat → Option Lab} {c : Nat} {row : Slc} {pm : Nat} {bs : List Nat} {σ : CS} {x : Nat} {X : It} (C : CR h lab c row pm bs σ) (e : Ext (fun i => i = x) h h') (hx : lab x = some .it) (k : Blk h' x 177 X.lfs) (ok : ItOk X) :
    CR h' lab c row pm bs { σ with it := fun p => if p = x then some X else σ.it p } := by
  have no : ∀ y l, lab y = some l → l ≠ .it → ¬ y = x := fun y l hy hn he => by subst he; rw [hx] at hy; cases hy; exact hn rfl
  refine ⟨C.blk.ext e (no _ _ C.lc (by simp)), C.rowo.ext e fun ⟨y, o, hy, hs⟩ => no _ _ (C.lrow y o hy) (by simp) hs, C.len, fun j s b' h1 h2 => ?_, C.pins.ext e (no _ _ C.lpm (by simp)),
    fun p Y hp => ?_, C.lc, C.lrow, C.lpm, fun y hy => Nat.lt_of_lt_of_le (C.lt y hy) e.size, C.r0, C.r1, C.n0, C.n1⟩
  · obtain ⟨im', am', ws', r⟩ := C.shs j s b' h1 h2
    exact ⟨im', am', ws', r.ext' e (fun y l hy hl' hs => no y l hy (by rcases hl' with rfl | rfl | rfl | rfl <;> simp) hs) fun _ _ k => k⟩
  · simp only at hp
    split at hp
    · rename_i hpx
      subst hpx
      cases hp
      exact ⟨k, hx, ok⟩
    · rename_i hpx
      exact ⟨(C.its p Y hp).1.ext e hpx, (C.its p Y hp).2⟩

/-- The test whether it is this entry. -/
theorem v136 {h : Heap} {b0 x p : Nat} {t : TypeId} (hb : Blk h b0 t [.ptr (some (x, 0))]) (hx : plainAt h x) (hp : plainAt h p) {R : Bool → Heap → Prop} (k : R (decide (p = x)) h) :
    CallV Go.Proofs.Try.prog (.func (.func 136) #[] #[.pointer (some ⟨b0, 0, none⟩)]) [.lf (.ptr (some (p, 0)))] h [.one .bool] R := by
  refine ⟨136, [], [.lf (.ptr (some (b0, 0)))], _, _, rfl, Go.Proofs.Try.func136, rfl, ok136 ⟨_, hb.cell rfl, .inr ⟨hp, hx⟩, ?_⟩⟩
  have : ptrEq (some (p, 0)) (some (x, 0)) = decide (p = x) := by
    unfold ptrEq
    rw [Bool.eq_iff_iff]; simp
  rwa [this]

/-- An entry waits no more. -/
theorem c106 {h : Heap} {lab : Nat → Option Lab} {c : Nat} {row : Slc} {pm : Nat} {bs : List Nat} {σ : CS} (C : CR h lab c row pm bs σ) {i b x : Nat} {s : Sh} (hs : σ.sh[i]? = some s) (hb : bs[i]? = some b)
    (hx : ∃ X, σ.it x = some X) (hw : ∀ p ∈ s.waits, ∃ X, σ.it p = some X) (hl : s.waits.length ≤ 4398046511104) {R : Heap → Prop}
    (k : ∀ h', CR h' lab c row pm bs { σ with sh := σ.sh.set i { s with waits := s.waits.filter fun p => !decide (p = x) } } → Ext (fun y => lab y = some (.sh i) ∨ lab y = some (.wt i)) h h' → R h') :
    Call Go.Proofs.Try.prog 106 [.lf (.ptr (some (b, 0))), .lf (.ptr (some (x, 0)))] h [] R := by
  obtain ⟨im, am, ws, S⟩ := C.shs i s b hs hb
  obtain ⟨X, hX⟩ := hx
  refine ok106 (New.mk fun b0 h1 hb0 hs1 e1 k1 => NilC.mk rfl ⟨ws, (S.blk.ext e1).cell rfl, ?_⟩)
  have C1 := C.ext0 e1
  have S1 := S.ext e1 fun _ _ _ k => k
  have hitems : ∀ {h'}, Ext (fun b => ∃ off, ws.a = some (b, off)) h1 h' → ∀ p X, σ.it p = some X → plainAt h' p := fun e p X hp => by
    have := C1.its p X hp
    exact Blk.plain (this.1.ext e fun ⟨o, ho⟩ => by have h2 := S1.lws p o ho; rw [this.2.1] at h2; cases h2)
  refine c135 (q := fun p => decide (p = x)) S1.waits (by omega) (fun h' hs' e p hp R hR => ?_) fun s' h' hs' o' e' ha' => ?_
  · obtain ⟨Y, hY⟩ := hw p hp
    refine v136 (k1.ext e ?_) (hitems e x X hX) (hitems e p Y hY) hR
    rintro ⟨o, ho⟩
    have := C.lt b0 (by rw [S.lws b0 o ho]; simp)
    omega
  · have hbw : ∀ o, ws.a ≠ some (b, o) := fun o ho => by have := S.lws b o ho; rw [S.lb] at this; cases this
    refine NilC.mk rfl (StC.one (S1.blk.ext e' fun ⟨o, ho⟩ => hbw o ho) (by simp) fun h2 hs2 k2 e2 => ?_)
    have e12 : Ext (fun y => lab y = some (.sh i) ∨ lab y = some (.wt i)) h h2 :=
      (e1.of0.trans (e'.mono fun y ⟨o, ho⟩ => .inr (S.lws y o ho))).trans (e2.mono fun y hy => .inl (by rw [show y = b from hy]; exact S.lb))
    refine k h2 (C.upd (lab' := lab) (im := im) (am := am) (ws := s') e12 (fun y l hy hS => ?_) (fun _ _ k => k) (fun y hy => Nat.lt_of_lt_of_le (C.lt y hy) e12.size) hb ⟨k2, ?_, ?_, ?_, S.lb, S.lim, S.lam, fun y o hy => S.lws y o (ha' ▸ hy)⟩) e12
    · rcases hS with hS | hS
      · rw [hS] at hy; cases hy; exact .inl rfl
      · rw [hS] at hy; cases hy; exact .inr (.inr (.inr rfl))
    · exact S.ins.ext e12 (by rw [S.lim]; simp)
    · exact S.all.ext e12 (by rw [S.lam]; simp)
    · exact o'.ext e2 fun ⟨y, o, hy, hyb⟩ => hbw o (by rw [← show y = b from hyb, ← ha']; exact hy)



def CS.setSh (σ : CS) (i : Nat) (s : Sh) : CS := { σ with sh := σ.sh.set i s }
def CS.setIt (σ : CS) (x : Nat) (X : It) : CS := { σ with it := fun p => if p = x then some X else σ.it p }

/-- All that a part names is there. -/
structure Has (σ : CS) (s : Sh) : Prop where
  all : ∀ p ∈ s.all, ∃ X, σ.it p = some X
  waits : ∀ p ∈ s.waits, ∃ X, σ.it p = some X
  len : s.waits.length ≤ 4398046511104
  ins : ∀ e ∈ s.ins, ∃ X, σ.it e.2 = some X

theorem adel_all (x : Nat) : ∀ l : List Nat, adel .ptr (some (x, 0)) (l.map fun p => ((some (p, 0), true) : Option (Nat × Nat) × Bool)) = (l.erase x).map fun p => (some (p, 0), true)
  | [] => rfl
  | p :: l => by
    have hk : keq .ptr (some (x, 0)) ((some (p, 0), true) : Option (Nat × Nat) × Bool).1 = decide (x = p) := by
      show ptrEq _ _ = _
      unfold ptrEq
      rw [Bool.eq_iff_iff]; simp
    rw [List.map_cons, adel, hk]
    by_cases h : x = p
    · subst h; simp
    · have h' : ¬ (p == x) = true := by simpa using fun e : p = x => h e.symm
      rw [List.erase_cons_tail (by simpa using fun e : p = x => h e.symm)]
      simp only [h, decide_false, Bool.false_eq_true, if_false, List.map_cons, adel_all x l]

def goneS (σ : CS) (i : Nat) (s : Sh) (x : Nat) (X : It) : CS :=
  (if X.inn then σ.setIt x { X with inn := false } else σ).setSh i ⟨if X.inn then adel .str X.key s.ins else s.ins, s.all.erase x, s.waits.filter fun p => !decide (p = x)⟩

/-- The labels of a part of the cache. -/
def ofSh (lab : Nat → Option Lab) (i : Nat) (y : Nat) : Prop := lab y = some (.sh i) ∨ lab y = some (.im i) ∨ lab y = some (.am i) ∨ lab y = some (.wt i)

/-- An entry goes. -/
theorem c134 {h : Heap} {lab : Nat → Option Lab} {c : Nat} {row : Slc} {pm : Nat} {bs : List Nat} {σ : CS} (C : CR h lab c row pm bs σ) {i b x : Nat} {s : Sh} {X : It} (hs : σ.sh[i]? = some s) (hb : bs[i]? = some b)
    (hx : σ.it x = some X) (H : Has σ s) {R : Heap → Prop}
    (k : ∀ h', CR h' lab c row pm bs (goneS σ i s x X) → Ext (fun y => ofSh lab i y ∨ y = x) h h' → R h') :
    Call Go.Proofs.Try.prog 134 [.lf (.ptr (some (b, 0))), .lf (.ptr (some (x, 0)))] h [] R := by
  obtain ⟨im, am, ws, S⟩ := C.shs i s b hs hb
  have hi : i < σ.sh.length := by
    rcases Nat.lt_or_ge i σ.sh.length with h' | h'
    · exact h'
    · rw [List.getElem?_eq_none h'] at hs; cases hs
  have hit := C.its x X hx
  have hxl : ∀ y l, lab y = some l → l ≠ .it → y ≠ x := fun y l hy hn he => by subst he; rw [hit.2.1] at hy; cases hy; exact hn rfl
  have hpl : ∀ p ∈ s.all, plainAt h p := fun p hp => by obtain ⟨Y, hY⟩ := H.all p hp; exact Blk.plain (C.its p Y hY).1
  refine ok134 (NilC.mk rfl ⟨some am, S.blk.cell rfl, S.all.del (k := some (x, 0)) ?_ fun h1 hs1 M1 e1 => ?_⟩)
  · intro y hy
    obtain ⟨p, hp, rfl⟩ := List.mem_map.1 hy
    exact .inr ⟨Blk.plain hit.1, hpl p hp⟩
  rw [adel_all] at M1
  have e1' : Ext (fun y => lab y = some (.am i)) h h1 := e1.mono fun y hy => by rw [show y = am from hy]; exact S.lam
  have noam : ∀ y l, lab y = some l → l ≠ .am i → ¬ lab y = some (.am i) := fun y l hy hn he => by rw [hy] at he; cases he; exact hn rfl
  have S1 : ShR h1 lab i b im am ws { s with all := s.all.erase x } :=
    ⟨S.blk.ext e1' (noam _ _ S.lb (by simp)), S.ins.ext e1' (noam _ _ S.lim (by simp)), M1, S.waits.ext e1' fun ⟨y, o, hy, hY⟩ => noam _ _ (S.lws y o hy) (by simp) hY, S.lb, S.lim, S.lam, S.lws⟩
  have C1 := C.upd (lab' := lab) (s' := { s with all := s.all.erase x }) e1' (fun y l hy hS => by rw [hy] at hS; cases hS; exact .inr (.inr (.inl rfl))) (fun _ _ k => k) (fun y hy => by rw [hs1]; exact C.lt y hy) hb S1
  have hit1 := C1.its x X hx
  have hs1' : (σ.sh.set i { s with all := s.all.erase x })[i]? = some { s with all := s.all.erase x } := by simp [hi]
  refine NilC.mk rfl ⟨X.inn, hit1.1.cell rfl, Br.mk (fun hin => ?_) fun hin => ?_⟩
  · refine NilC.mk rfl ⟨some im, S1.blk.cell rfl, NilC.mk rfl ⟨X.key, hit1.1.cell rfl, S1.ins.del (k := X.key) trivial fun h2 hs2 M2 e2 => ?_⟩⟩
    have e2' : Ext (fun y => lab y = some (.im i)) h1 h2 := e2.mono fun y hy => by rw [show y = im from hy]; exact S.lim
    have noim : ∀ y l, lab y = some l → l ≠ .im i → ¬ lab y = some (.im i) := fun y l hy hn he => by rw [hy] at he; cases he; exact hn rfl
    have S2 : ShR h2 lab i b im am ws { s with all := s.all.erase x, ins := adel .str X.key s.ins } :=
      ⟨S1.blk.ext e2' (noim _ _ S.lb (by simp)), M2, S1.all.ext e2' (noim _ _ S.lam (by simp)), S1.waits.ext e2' fun ⟨y, o, hy, hY⟩ => noim _ _ (S.lws y o hy) (by simp) hY, S.lb, S.lim, S.lam, S.lws⟩
    have C2 := C1.upd (lab' := lab) (s' := { s with all := s.all.erase x, ins := adel .str X.key s.ins }) e2' (fun y l hy hS => by rw [hy] at hS; cases hS; exact .inr (.inl rfl)) (fun _ _ k => k) (fun y hy => by rw [hs2]; exact C1.lt y hy) hb S2
    simp only [List.set_set] at C2
    refine NilC.mk rfl (StC.one (C2.its x X hx).1 (by simp [It.lfs]) fun h3 hs3 k3 e3 => ?_)
    have C3 := C2.setIt (X := { X with inn := false }) e3 hit.2.1 k3 ⟨hit.2.2.c0, hit.2.2.c1⟩
    refine c106 C3 (s := { s with all := s.all.erase x, ins := adel .str X.key s.ins }) (by simp [hi]) hb ⟨{ X with inn := false }, by simp⟩ (fun p hp => ?_) H.len fun h4 C4 e4 => k h4 ?_ ?_
    · obtain ⟨Y, hY⟩ := H.waits p hp
      by_cases hpx : p = x
      · exact ⟨{ X with inn := false }, by simp [hpx]⟩
      · exact ⟨Y, by simp [hpx, hY]⟩
    · simp only [List.set_set] at C4
      simp only [goneS, hin, if_true, CS.setIt, CS.setSh]
      exact C4
    · exact (((e1'.mono fun y hy => .inl (.inr (.inr (.inl hy)))).trans (e2'.mono fun y hy => .inl (.inr (.inl hy)))).trans (e3.mono fun y hy => .inr hy)).trans (e4.mono fun y hy => .inl (hy.elim .inl fun h => .inr (.inr (.inr h))))
  · refine c106 C1 (s := { s with all := s.all.erase x }) hs1' hb ⟨X, hx⟩ (fun p hp => H.waits p hp) H.len fun h4 C4 e4 => k h4 ?_ ?_
    · simp only [List.set_set] at C4
      simp only [goneS, hin, CS.setSh, Bool.false_eq_true, if_false]
      exact C4
    · exact (e1'.mono fun y hy => .inl (.inr (.inr (.inl hy)))).trans (e4.mono fun y hy => .inl (hy.elim .inl fun h => .inr (.inr (.inr h))))



def makesS (i : Nat) (more room : Int) : Nat → CS → CS
  | 0, σ => σ
  | n + 1, σ => match σ.sh[i]? with
    | some s => (match s.waits with
      | [] => σ
      | x :: _ => if plusS (usedS σ.it s) more > room then (match σ.it x with | some X => makesS i more room n (goneS σ i s x X) | none => σ) else σ)
    | none => σ

/-- The blocks of a part of the cache, and of entries. -/
def ofShIt (lab : Nat → Option Lab) (i : Nat) (y : Nat) : Prop := ofSh lab i y ∨ lab y = some .it

theorem goneS_sh {σ : CS} {i : Nat} {s : Sh} {x : Nat} {X : It} (hs : σ.sh[i]? = some s) :
    (goneS σ i s x X).sh[i]? = some ⟨if X.inn then adel .str X.key s.ins else s.ins, s.all.erase x, s.waits.filter fun p => !decide (p = x)⟩ := by
  have hi : i < σ.sh.length := by
    rcases Nat.lt_or_ge i σ.sh.length with h' | h'
    · exact h'
    · rw [List.getElem?_eq_none h'] at hs; cases hs
  unfold goneS CS.setSh CS.setIt
  split <;> simp [hi]
theorem goneS_it {σ : CS} {i : Nat} {s : Sh} {x : Nat} {X : It} (hx : σ.it x = some X) (p : Nat) : (goneS σ i s x X).it p = if p = x then some { X with inn := false } else σ.it p := by
  unfold goneS CS.setSh CS.setIt
  split
  · rfl
  · rename_i h
    simp only
    split
    · rename_i hp; subst hp; rw [hx]; congr 1; cases X; simp at h; simp [h]
    · rfl
theorem goneS_has {σ : CS} {i : Nat} {s : Sh} {x : Nat} {X : It} (hx : σ.it x = some X) {p : Nat} (h : ∃ Y, σ.it p = some Y) : ∃ Y, (goneS σ i s x X).it p = some Y := by
  rw [goneS_it hx]
  split
  · exact ⟨_, rfl⟩
  · exact h
theorem goneS_Has {σ : CS} {i : Nat} {s : Sh} {x : Nat} {X : It} (hx : σ.it x = some X) (H : Has σ s) :
    Has (goneS σ i s x X) ⟨if X.inn then adel .str X.key s.ins else s.ins, s.all.erase x, s.waits.filter fun p => !decide (p = x)⟩ :=
  ⟨fun p hp => goneS_has hx (H.all p (List.erase_subset hp)), fun p hp => goneS_has hx (H.waits p ((List.mem_filter.1 hp).1)), Nat.le_trans (List.length_filter_le ..) H.len, fun e he => goneS_has hx (H.ins e (by
    split at he
    · exact (adel_sub _).subset he
    · exact he))⟩

theorem c101 {h : Heap} {lab : Nat → Option Lab} {c : Nat} {row : Slc} {pm : Nat} {bs : List Nat} {σ : CS} (C : CR h lab c row pm bs σ) {i b : Nat} {s : Sh} (hs : σ.sh[i]? = some s) (hb : bs[i]? = some b)
    (H : Has σ s) {more room : Int} (m0 : 0 ≤ more) (m1 : more ≤ big) {R : Heap → Prop}
    (k : ∀ h', CR h' lab c row pm bs (makesS i more room s.waits.length σ) → Ext (ofShIt lab i) h h' → R h') :
    Call Go.Proofs.Try.prog 101 [.lf (.ptr (some (b, 0))), .lf (.int .u64 more), .lf (.int .u64 room)] h [] R := by
  refine ok101 ⟨fun h' d => ∃ σ' s', CR h' lab c row pm bs σ' ∧ σ'.sh[i]? = some s' ∧ Has σ' s' ∧ s'.waits.length ≤ d ∧ makesS i more room d σ' = makesS i more room s.waits.length σ ∧ Ext (ofShIt lab i) h h', ⟨_, σ, s, C, hs, H, Nat.le_refl _, rfl, Ext.refl _ _⟩, ?_⟩
  rintro h2 d ⟨σ', s', C', hs', H', hd, hm, e⟩
  obtain ⟨im, am, ws, S⟩ := C'.shs i s' b hs' hb
  have hlen := S.waits.len
  refine ⟨fun h' => ∃ (x : Nat) (rest : List Nat) (X : It), s'.waits = x :: rest ∧ CR h' lab c row pm bs σ' ∧ Ext (ofShIt lab i) h h' ∧ plusS (usedS σ'.it s') more > room ∧ σ'.it x = some X, ?_, ?_⟩
  · refine NilC.mk rfl ⟨ws, S.blk.cell rfl, Br.dec (fun hpos => ?_) fun hneg => ?_⟩
    · obtain ⟨x, rest, hw⟩ : ∃ x rest, s'.waits = x :: rest := by
        cases hww : s'.waits with
        | nil => rw [hww] at hlen; simp at hlen; omega
        | cons x rest => exact ⟨x, rest, rfl⟩
      obtain ⟨X, hX⟩ := H'.waits x (by rw [hw]; exact List.mem_cons_self ..)
      refine c103 C' hs' hb H'.all fun h9 e9 => ?_
      have hur : 0 ≤ usedS σ'.it s' ∧ usedS σ'.it s' ≤ big := cap_range (sums_nonneg fun y hy => by
        obtain ⟨p, hp, rfl⟩ := List.mem_map.1 hy
        obtain ⟨Y, hY⟩ := H'.all p hp
        simp only [chOf, hY]; exact (C'.its p Y hY).2.2.c0)
      refine c70 hur.1 hur.2 m0 m1 (Br.dec (fun hgt => ⟨x, rest, X, hw, C'.ext0 e9, e.then0 e9, hgt, hX⟩) fun hle => ?_)
      refine k h9 ?_ (e.then0 e9)
      rw [← hm]
      cases d with
      | zero => exact C'.ext0 e9
      | succ d => simp only [makesS, hs', hw, hle, if_false]; exact C'.ext0 e9
    · have hw : s'.waits = [] := List.length_eq_zero_iff.1 (by omega)
      refine k h2 ?_ e
      rw [← hm]
      cases d with
      | zero => exact C'
      | succ d => simp only [makesS, hs', hw]; exact C'
  · rintro h12 ⟨x, rest, X, hw, C2, e2, hgt, hX⟩
    obtain ⟨im, am, ws, S⟩ := C2.shs i s' b hs' hb
    refine NilC.mk rfl ⟨ws, S.blk.cell rfl, (S.waits.arr pF_sized).ix (k := 0) rfl (by rw [hw]; rfl) fun b1 o1 hc => ⟨_, hc, c134 C2 hs' hb hX H' fun h19 C3 e3 => ?_⟩⟩
    have hxl := (C2.its x X hX).2.1
    have hfl : (s'.waits.filter fun p => !decide (p = x)).length ≤ rest.length := by
      rw [hw, List.filter_cons]
      simp only [decide_true, Bool.not_true, Bool.false_eq_true, if_false]
      exact List.length_filter_le ..
    have hwl : s'.waits.length = rest.length + 1 := by rw [hw]; rfl
    obtain ⟨n, rfl⟩ : ∃ n, d = n + 1 := ⟨d - 1, by omega⟩
    refine ⟨n, by omega, _, _, C3, goneS_sh hs', goneS_Has hX H', by simp only; omega, ?_, e2.trans (e3.mono fun y hy => hy.imp id fun h => by rw [h]; exact hxl)⟩
    rw [← hm]
    simp only [makesS, hs', hw, hgt, if_true, hX]

/-! ### Which shard -/
def shash (l : List UInt8) : Int := l.foldl (fun n c => IntKind.wrap .u32 (bitop .u32 .xor n (IntKind.wrap .u32 (c.toNat : Int)) * 16777619)) 2166136261
def shardOf (n : Nat) (key : ByteArray) : Nat := (shash key.data.toList).toNat % n

theorem wrap32_range (n : Int) : 0 ≤ IntKind.wrap .u32 n ∧ IntKind.wrap .u32 n < 4294967296 := by
  rw [IntKind.wrap_u32]; omega
theorem shash_range (l : List UInt8) : 0 ≤ shash l ∧ shash l < 4294967296 := by
  rcases List.eq_nil_or_concat l with rfl | ⟨m, c, rfl⟩
  · exact ⟨by decide, by decide⟩
  · unfold shash
    rw [List.concat_eq_append, List.foldl_append]
    exact wrap32_range _
theorem shardOf_lt {n : Nat} (hn : 1 ≤ n) (key : ByteArray) : shardOf n key < n := Nat.mod_lt _ hn

theorem c133 {h : Heap} {lab : Nat → Option Lab} {c : Nat} {row : Slc} {pm : Nat} {bs : List Nat} {σ : CS} (C : CR h lab c row pm bs σ) {key : ByteArray} (hk : key.size ≤ 9223372036854775807) {R : Int → Heap → Prop}
    (k : ∀ h', Ext0 h h' → R (shardOf σ.sh.length key : Nat) h') : Call Go.Proofs.Try.prog 133 [.lf (.ptr (some (c, 0))), .lf (.str key)] h [.one (.int .i64)] R := by
  have hn0 := C.n0
  have hn1 := C.n1
  refine ok133 (S2B.mk (f := bF) (fun _ => rfl) fun s0 h1 a1 e1 _ => ?_)
  have hlen := a1.len
  have hksz : key.data.toList.length = key.size := rfl
  refine ⟨fun n i h' d => ∃ m : Nat, i = m ∧ m ≤ key.size ∧ d = key.size - m ∧ h' = h1 ∧ n = shash (key.data.toList.take m), ⟨_, 0, rfl, by omega, rfl, rfl, rfl⟩, ?_⟩
  rintro _ _ _ _ ⟨m, rfl, hm, rfl, rfl, rfl⟩
  refine Br.dec (fun hi => ?_) fun hi => ?_
  · have hi' : m < key.data.toList.length := by omega
    refine a1.ix rfl (List.getElem?_eq_getElem hi') fun b o hc => ⟨_, hc, _, ?_, m + 1, ?_, by omega, rfl, rfl, ?_⟩
    · show key.size - (m + 1) < key.size - m; omega
    · rw [wi64 (by omega) (by omega)]; rfl
    · rw [List.take_succ_eq_append_getElem hi']; unfold shash; rw [List.foldl_append]; rfl
  · have : m = key.size := by omega
    subst this
    rw [← hksz, List.take_length]
    have hr := shash_range key.data.toList
    have hrl := (C.rowo.ext0 e1).len
    have hcl := C.len
    have hw : IntKind.wrap .u32 ((row.len : Nat) : Int) = (row.len : Int) := wu32 (by omega) (by omega)
    have hsl : row.len = σ.sh.length := by omega
    refine NilC.mk rfl ⟨row, (C.blk.ext e1).cell rfl, ?_, ?_⟩
    · rw [hw]; omega
    · rw [hw, hsl]
      obtain ⟨q, hq⟩ := Int.eq_ofNat_of_zero_le hr.1
      have := k _ e1
      unfold shardOf at this
      rw [hq] at this ⊢
      have hmod : Int.tmod (q : Int) ((σ.sh.length : Nat) : Int) = ((q % σ.sh.length : Nat) : Int) := by
        rw [Int.tmod_eq_emod_of_nonneg (by omega)]; rfl
      rw [hmod, wi64 (by omega) (by have := Nat.mod_lt q (show 0 < σ.sh.length by omega); omega)]
      simpa using this

/-- The shard of a key. -/
theorem c100 {h : Heap} {lab : Nat → Option Lab} {c : Nat} {row : Slc} {pm : Nat} {bs : List Nat} {σ : CS} (C : CR h lab c row pm bs σ) {key : ByteArray} (hk : key.size ≤ 9223372036854775807) {R : Option (Nat × Nat) → Heap → Prop}
    (k : ∀ h' b s, Ext0 h h' → bs[shardOf σ.sh.length key]? = some b → σ.sh[shardOf σ.sh.length key]? = some s → R (some (b, 0)) h') : Call Go.Proofs.Try.prog 100 [.lf (.ptr (some (c, 0))), .lf (.str key)] h [.one .ptr] R := by
  have hlt := shardOf_lt C.n0 key
  have hcl := C.len
  refine ok100 (NilC.mk rfl ⟨row, C.blk.cell rfl, c133 C hk fun h4 e4 => ⟨(C.blk.ext e4).cell rfl, ?_⟩⟩)
  refine ((C.rowo.arr pF_sized).ext0 e4).ix rfl (List.getElem?_eq_getElem (by omega)) fun b o hc => ⟨_, hc, k h4 _ _ e4 (List.getElem?_eq_getElem (by omega)) (List.getElem?_eq_getElem hlt)⟩

/-- A shard's room. -/
def share (σ : CS) : Int := σ.room / (σ.sh.length : Int)
theorem c102 {h : Heap} {lab : Nat → Option Lab} {c : Nat} {row : Slc} {pm : Nat} {bs : List Nat} {σ : CS} (C : CR h lab c row pm bs σ) {R : Int → Heap → Prop} (k : R (share σ) h) :
    Call Go.Proofs.Try.prog 102 [.lf (.ptr (some (c, 0)))] h [.one (.int .u64)] R := by
  have hn0 := C.n0
  have hn1 := C.n1
  have hcl := C.len
  have hrl := C.rowo.len
  have r0 := C.r0
  have r1 : σ.room ≤ 18446744073709551615 := C.r1
  have hsl : row.len = σ.sh.length := by omega
  have hw : IntKind.wrap .u64 ((row.len : Nat) : Int) = (row.len : Int) := wu64 (by omega) (by omega)
  refine ok102 (NilC.mk rfl ⟨_, C.blk.cell rfl, NilC.mk rfl ⟨row, C.blk.cell rfl, ?_, ?_⟩⟩)
  · rw [hw]; omega
  · rw [hw, hsl, Int.tdiv_eq_ediv_of_nonneg r0]
    have h1 : 0 ≤ σ.room / (σ.sh.length : Int) := Int.ediv_nonneg r0 (by omega)
    have h2 : σ.room / (σ.sh.length : Int) ≤ σ.room := Int.ediv_le_self _ r0
    rw [wu64 h1 (by omega)]
    exact k



def outS (σ : CS) (i : Nat) (s : Sh) (x : Nat) (X : It) : CS :=
  let s1 : Sh := { s with ins := adel .str X.key s.ins }
  let σ1 := (σ.setIt x { X with inn := false }).setSh i s1
  if X.pins = 0 then goneS σ1 i s1 x { X with inn := false } else σ1

theorem c104 {h : Heap} {lab : Nat → Option Lab} {c : Nat} {row : Slc} {pm : Nat} {bs : List Nat} {σ : CS} (C : CR h lab c row pm bs σ) {i b x : Nat} {s : Sh} {X : It} (hs : σ.sh[i]? = some s) (hb : bs[i]? = some b)
    (hx : σ.it x = some X) (H : Has σ s) {R : Heap → Prop}
    (k : ∀ h', CR h' lab c row pm bs (outS σ i s x X) → Ext (ofShIt lab i) h h' → R h') :
    Call Go.Proofs.Try.prog 104 [.lf (.ptr (some (b, 0))), .lf (.ptr (some (x, 0)))] h [] R := by
  obtain ⟨im, am, ws, S⟩ := C.shs i s b hs hb
  have hi : i < σ.sh.length := by
    rcases Nat.lt_or_ge i σ.sh.length with h' | h'
    · exact h'
    · rw [List.getElem?_eq_none h'] at hs; cases hs
  have hit := C.its x X hx
  refine ok104 (NilC.mk rfl ⟨some im, S.blk.cell rfl, NilC.mk rfl ⟨X.key, hit.1.cell rfl, S.ins.del (k := X.key) trivial fun h2 hs2 M2 e2 => ?_⟩⟩)
  have e2' : Ext (fun y => lab y = some (.im i)) h h2 := e2.mono fun y hy => by rw [show y = im from hy]; exact S.lim
  have noim : ∀ y l, lab y = some l → l ≠ .im i → ¬ lab y = some (.im i) := fun y l hy hn he => by rw [hy] at he; cases he; exact hn rfl
  have S2 : ShR h2 lab i b im am ws { s with ins := adel .str X.key s.ins } :=
    ⟨S.blk.ext e2' (noim _ _ S.lb (by simp)), M2, S.all.ext e2' (noim _ _ S.lam (by simp)), S.waits.ext e2' fun ⟨y, o, hy, hY⟩ => noim _ _ (S.lws y o hy) (by simp) hY, S.lb, S.lim, S.lam, S.lws⟩
  have C2 := C.upd (lab' := lab) (s' := { s with ins := adel .str X.key s.ins }) e2' (fun y l hy hS => by rw [hy] at hS; cases hS; exact .inr (.inl rfl)) (fun _ _ k => k) (fun y hy => by rw [hs2]; exact C.lt y hy) hb S2
  refine NilC.mk rfl (StC.one (C2.its x X hx).1 (by simp [It.lfs]) fun h3 hs3 k3 e3 => ?_)
  have C3 := C2.setIt (X := { X with inn := false }) e3 hit.2.1 k3 ⟨hit.2.2.c0, hit.2.2.c1⟩
  have e23 : Ext (ofShIt lab i) h h3 := (e2'.mono fun y hy => .inl (.inr (.inl hy))).trans (e3.mono fun y hy => .inr (by rw [show y = x from hy]; exact hit.2.1))
  have C3' : CR h3 lab c row pm bs ((σ.setIt x { X with inn := false }).setSh i { s with ins := adel .str X.key s.ins }) := C3
  have hx3 : ((σ.setIt x { X with inn := false }).setSh i { s with ins := adel .str X.key s.ins }).it x = some { X with inn := false } := by simp [CS.setIt, CS.setSh]
  refine NilC.mk rfl ⟨X.pins, (C3'.its x _ hx3).1.cell rfl, Br.eq (fun h0 => ?_) fun h0 => ?_⟩
  · have has : ∀ p, (∃ Y, σ.it p = some Y) → ∃ Y, ((σ.setIt x { X with inn := false }).setSh i { s with ins := adel .str X.key s.ins }).it p = some Y := fun p ⟨Y, hY⟩ => by
      simp only [CS.setIt, CS.setSh]
      split
      · exact ⟨_, rfl⟩
      · exact ⟨Y, hY⟩
    refine c134 C3' (s := { s with ins := adel .str X.key s.ins }) (by simp [CS.setIt, CS.setSh, hi]) hb hx3 ⟨fun p hp => has p (H.all p hp), fun p hp => has p (H.waits p hp), H.len, fun e he => has e.2 (H.ins e ((adel_sub _).subset he))⟩ fun h4 C4 e4 => k h4 ?_ ?_
    · unfold outS; rw [if_pos h0]; exact C4
    · exact e23.trans (e4.mono fun y hy => hy.imp id fun h => by rw [h]; exact hit.2.1)
  · refine k h3 ?_ e23
    unfold outS; rw [if_neg h0]; exact C3'

def pinS (σ : CS) (x : Nat) (X : It) : CS :=
  { σ.setIt x { X with pins := X.pins + 1 } with last := σ.last + 1, pins := aput (.int .i64) (σ.last + 1) x σ.pins }

theorem c105 {h : Heap} {lab : Nat → Option Lab} {c : Nat} {row : Slc} {pm : Nat} {bs : List Nat} {σ : CS} (C : CR h lab c row pm bs σ) {x : Nat} {X : It} (hx : σ.it x = some X)
    (l0 : 0 ≤ σ.last) (l1 : σ.last ≤ 4611686018427387904) (p0 : -4611686018427387904 ≤ X.pins) (p1 : X.pins ≤ 4611686018427387904) {R : Int → Heap → Prop}
    (k : ∀ h', CR h' lab c row pm bs (pinS σ x X) → Ext (fun y => lab y = some .c ∨ lab y = some .pm ∨ lab y = some .it) h h' → R (σ.last + 1) h') :
    Call Go.Proofs.Try.prog 105 [.lf (.ptr (some (c, 0))), .lf (.ptr (some (x, 0)))] h [.one (.int .i64)] R := by
  have hit := C.its x X hx
  refine ok105 (NilC.mk rfl ⟨X.pins, hit.1.cell rfl, NilC.mk rfl ?_⟩)
  rw [wi64 (by omega) (by omega)]
  refine StC.one hit.1 (by simp [It.lfs]) fun h1 hs1 k1 e1 => ?_
  have C1 := C.setIt (X := { X with pins := X.pins + 1 }) e1 hit.2.1 k1 ⟨hit.2.2.c0, hit.2.2.c1⟩
  refine NilC.mk rfl ⟨σ.last, C1.blk.cell rfl, NilC.mk rfl ?_⟩
  rw [wi64 (by omega) (by omega)]
  refine StC.one C1.blk (by simp) fun h2 hs2 k2 e2 => ?_
  have e2' : Ext (fun y => lab y = some .c) h1 h2 := e2.mono fun y hy => by rw [show y = c from hy]; exact C.lc
  have noc : ∀ y l, lab y = some l → l ≠ .c → ¬ lab y = some .c := fun y l hy hn he => by rw [hy] at he; cases he; exact hn rfl
  refine NilC.mk rfl ⟨some pm, k2.cell rfl, NilC.mk rfl ⟨σ.last + 1, k2.cell rfl, ?_⟩⟩
  refine (C1.pins.ext e2' (noc _ _ C.lpm (by simp))).put (v := x) trivial trivial rfl fun h3 hs3 M3 e3 => ?_
  have e3' : Ext (fun y => lab y = some .pm) h2 h3 := e3.mono fun y hy => by rw [show y = pm from hy]; exact C.lpm
  have nopm : ∀ y l, lab y = some l → l ≠ .pm → ¬ lab y = some .pm := fun y l hy hn he => by rw [hy] at he; cases he; exact hn rfl
  have k3 := k2.ext e3' (nopm _ _ C.lc (by simp))
  refine NilC.mk rfl ⟨σ.last + 1, k3.cell rfl, k h3 ?_ ?_⟩
  · have e23 : Ext (fun y => lab y = some .c ∨ lab y = some .pm) h1 h3 := (e2'.mono fun y hy => .inl hy).trans (e3'.mono fun y hy => .inr hy)
    have no : ∀ y l, lab y = some l → l ≠ .c → l ≠ .pm → ¬ (lab y = some .c ∨ lab y = some .pm) := fun y l hy h1 h2 hh => hh.elim (noc y l hy h1) (nopm y l hy h2)
    exact ⟨k3, C1.rowo.ext e23 fun ⟨y, o, hy, hS⟩ => no _ _ (C.lrow y o hy) (by simp) (by simp) hS, C.len,
      fun j s' b' h4 h5 => by
        obtain ⟨im', am', ws', r⟩ := C1.shs j s' b' h4 h5
        exact ⟨im', am', ws', r.ext' e23 (fun y l hy hl => no y l hy (by rcases hl with rfl | rfl | rfl | rfl <;> simp) (by rcases hl with rfl | rfl | rfl | rfl <;> simp)) fun _ _ k => k⟩,
      M3, fun p Y hp => ⟨(C1.its p Y hp).1.ext e23 (no _ _ (C1.its p Y hp).2.1 (by simp) (by simp)), (C1.its p Y hp).2⟩, C.lc, C.lrow, C.lpm,
      fun y hy => Nat.lt_of_lt_of_le (C1.lt y hy) e23.size, C.r0, C.r1, C.n0, C.n1⟩
  · exact ((e1.mono fun y hy => .inr (.inr (by rw [show y = x from hy]; exact hit.2.1))).trans (e2'.mono fun y hy => .inl hy)).trans (e3'.mono fun y hy => .inr (.inl hy))

/-- A pin's value. -/
theorem c62 {h : Heap} {lab : Nat → Option Lab} {c : Nat} {row : Slc} {pm : Nat} {bs : List Nat} {σ : CS} (C : CR h lab c row pm bs σ) {n : Int} {R : ByteArray → Int → Heap → Prop}
    (k0 : (∀ y ∈ σ.pins, y.1 ≠ n) → R ⟨#[]⟩ 111 h) (k1 : ∀ x, (n, x) ∈ σ.pins → ∃ X, σ.it x = some X ∧ R X.v 0 h) :
    Call Go.Proofs.Try.prog 62 [.lf (.ptr (some (c, 0))), .lf (.int .i64 n)] h [.one .str, .one (.int .i64)] R := by
  refine ok62 (NilC.mk rfl ⟨some pm, C.blk.cell rfl, ?_⟩)
  by_cases hm : ∃ x, (n, x) ∈ σ.pins
  · obtain ⟨x, hx⟩ := hm
    obtain ⟨X, hX, hR⟩ := k1 x hx
    exact ⟨some (x, 0), true, C.pins.hit trivial hx trivial _ rfl, Br.f rfl (NilC.mk rfl ⟨X.v, (C.its x X hX).1.cell rfl, hR⟩)⟩
  · have hm' : ∀ y ∈ σ.pins, y.1 ≠ n := fun y hy he => hm ⟨y.2, by rw [← he]; exact hy⟩
    exact ⟨none, false, C.pins.miss trivial hm' trivial _, Br.t rfl (k0 hm')⟩



def CS.shAt (σ : CS) (i : Nat) : Sh := σ.sh[i]?.getD ⟨[], [], []⟩

/-- What making room leaves as it is. -/
structure Same (σ σ' : CS) : Prop where
  room : σ'.room = σ.room
  strict : σ'.strict = σ.strict
  last : σ'.last = σ.last
  pins : σ'.pins = σ.pins
  len : σ'.sh.length = σ.sh.length

theorem Same.refl (σ : CS) : Same σ σ := ⟨rfl, rfl, rfl, rfl, rfl⟩
theorem Same.trans {a b c : CS} (h : Same a b) (k : Same b c) : Same a c := ⟨k.room.trans h.room, k.strict.trans h.strict, k.last.trans h.last, k.pins.trans h.pins, k.len.trans h.len⟩
theorem goneS_same (σ : CS) (i : Nat) (s : Sh) (x : Nat) (X : It) : Same σ (goneS σ i s x X) := by
  unfold goneS CS.setSh CS.setIt; split <;> exact ⟨rfl, rfl, rfl, rfl, by simp⟩
theorem makesS_same (i : Nat) (more room : Int) : ∀ (n : Nat) (σ : CS), Same σ (makesS i more room n σ)
  | 0, σ => Same.refl σ
  | n + 1, σ => by
    unfold makesS
    split
    · split
      · exact Same.refl σ
      · split
        · split
          · exact (goneS_same ..).trans (makesS_same i more room n _)
          · exact Same.refl σ
        · exact Same.refl σ
    · exact Same.refl σ
theorem makesS_Has (i : Nat) (more room : Int) : ∀ (n : Nat) (σ : CS) (s : Sh), σ.sh[i]? = some s → Has σ s → ∃ s', (makesS i more room n σ).sh[i]? = some s' ∧ Has (makesS i more room n σ) s'
  | 0, σ, s, hs, H => ⟨s, hs, H⟩
  | n + 1, σ, s, hs, H => by
    unfold makesS
    rw [hs]
    simp only
    split
    · exact ⟨s, hs, H⟩
    · split
      · split
        · rename_i X hX
          exact makesS_Has i more room n _ _ (goneS_sh hs) (goneS_Has hX H)
        · exact ⟨s, hs, H⟩
      · exact ⟨s, hs, H⟩
theorem outS_same (σ : CS) (i : Nat) (s : Sh) (x : Nat) (X : It) : Same σ (outS σ i s x X) := by
  have h1 : Same σ ((σ.setIt x { X with inn := false }).setSh i { s with ins := adel .str X.key s.ins }) := ⟨rfl, rfl, rfl, rfl, by simp [CS.setSh, CS.setIt]⟩
  unfold outS
  split
  · exact h1.trans (goneS_same ..)
  · exact h1
theorem outS_Has {σ : CS} {i : Nat} {s : Sh} {x : Nat} {X : It} (hs : σ.sh[i]? = some s) (H : Has σ s) : ∃ s', (outS σ i s x X).sh[i]? = some s' ∧ Has (outS σ i s x X) s' := by
  have hi : i < σ.sh.length := by
    rcases Nat.lt_or_ge i σ.sh.length with h' | h'
    · exact h'
    · rw [List.getElem?_eq_none h'] at hs; cases hs
  have has : ∀ p, (∃ Y, σ.it p = some Y) → ∃ Y, ((σ.setIt x { X with inn := false }).setSh i { s with ins := adel .str X.key s.ins }).it p = some Y := fun p ⟨Y, hY⟩ => by
    simp only [CS.setIt, CS.setSh]
    split
    · exact ⟨_, rfl⟩
    · exact ⟨Y, hY⟩
  have hs1 : ((σ.setIt x { X with inn := false }).setSh i { s with ins := adel .str X.key s.ins }).sh[i]? = some { s with ins := adel .str X.key s.ins } := by simp [CS.setIt, CS.setSh, hi]
  have H1 : Has ((σ.setIt x { X with inn := false }).setSh i { s with ins := adel .str X.key s.ins }) { s with ins := adel .str X.key s.ins } :=
    ⟨fun p hp => has p (H.all p hp), fun p hp => has p (H.waits p hp), H.len, fun e he => has e.2 (H.ins e ((adel_sub _).subset he))⟩
  have hx1 : ((σ.setIt x { X with inn := false }).setSh i { s with ins := adel .str X.key s.ins }).it x = some { X with inn := false } := by simp [CS.setIt, CS.setSh]
  unfold outS
  split
  · exact ⟨_, goneS_sh hs1, goneS_Has hx1 H1⟩
  · exact ⟨_, hs1, H1⟩

def lookK (key : ByteArray) (l : List (ByteArray × Nat)) : Option Nat := (l.find? fun e => strEq key e.1).map (·.2)
theorem lookK_some {key : ByteArray} {l : List (ByteArray × Nat)} {q : Nat} (h : lookK key l = some q) : (key, q) ∈ l := by
  unfold lookK at h
  cases hf : l.find? fun e => strEq key e.1 with
  | none => rw [hf] at h; cases h
  | some e =>
    rw [hf] at h
    have h1 := List.mem_of_find?_eq_some hf
    have h2 := List.find?_some hf
    have h3 := (MapKept.bytes_beq key e.1).1 h2
    simp only [Option.map_some, Option.some.injEq] at h
    rw [h3, ← h]; exact h1
theorem lookK_none {key : ByteArray} {l : List (ByteArray × Nat)} (h : lookK key l = none) : ∀ e ∈ l, e.1 ≠ key := by
  unfold lookK at h
  simp only [Option.map_eq_none_iff, List.find?_eq_none] at h
  intro e he hk
  exact h e he ((MapKept.bytes_beq key e.1).2 hk.symm)

theorem aput_all {x : Nat} {l : List Nat} (hx : x ∉ l) : aput .ptr (some (x, 0)) true (l.map fun p => ((some (p, 0), true) : Option (Nat × Nat) × Bool)) = (l ++ [x]).map fun p => (some (p, 0), true) := by
  rw [aput_new (kt := .ptr) trivial]
  · simp
  · intro y hy
    obtain ⟨p, hp, rfl⟩ := List.mem_map.1 hy
    intro he
    simp at he
    subst he; exact hx hp

/-- A new entry. -/
theorem CR.newIt {h h' : Heap} {lab : Nat → Option Lab} {c : Nat} {row : Slc} {pm : Nat} {bs : List Nat} {σ : CS} {b : Nat} {X : It} (C : CR h lab c row pm bs σ) (e : Ext0 h h') (hb : b = h.size) (k : Blk h' b 177 X.lfs) (ok : ItOk X) :
    CR h' (fun y => if y = b then some .it else lab y) c row pm bs (σ.setIt b X) ∧ ∀ y l, lab y = some l → (fun y => if y = b then some Lab.it else lab y) y = some l := by
  have hl : ∀ y l, lab y = some l → (fun y => if y = b then some Lab.it else lab y) y = some l := fun y l hy => by
    have := C.lt y (by rw [hy]; simp)
    show (if y = b then some Lab.it else lab y) = some l
    rw [if_neg (by omega)]; exact hy
  refine ⟨⟨C.blk.ext e, C.rowo.ext0 e, C.len, fun i s b' h1 h2 => ?_, C.pins.ext e, fun p Y hp => ?_, hl _ _ C.lc, fun x o hx => hl _ _ (C.lrow x o hx), hl _ _ C.lpm, fun y hy => ?_, C.r0, C.r1, C.n0, C.n1⟩, hl⟩
  · obtain ⟨im, am, ws, r⟩ := C.shs i s b' h1 h2
    exact ⟨im, am, ws, r.ext' e (fun _ _ _ _ x => x) hl⟩
  · simp only [CS.setIt] at hp
    split at hp
    · rename_i hpb
      cases hp
      exact ⟨hpb ▸ k, by simp [hpb], ok⟩
    · have := C.its p Y hp
      exact ⟨this.1.ext e, hl _ _ this.2.1, this.2.2⟩
  · have hy : (if y = b then some Lab.it else lab y) ≠ none := hy
    split at hy
    · rename_i hyb; rw [hyb]; exact k.lt
    · exact Nat.lt_of_lt_of_le (C.lt y hy) e.size

/-- Put, behind the room that was made. -/
def putT (σ : CS) (i : Nat) (key : ByteArray) (v : ByteArray) (ch : Int) (p : Nat) : CS :=
  let σ2 := match lookK key (σ.shAt i).ins with
    | some q => (match σ.it q with | some X => outS σ i (σ.shAt i) q X | none => σ)
    | none => σ
  let σ3 := (σ2.setIt p ⟨key, v, ch, true, 0⟩).setSh i ⟨aput .str key p (σ2.shAt i).ins, (σ2.shAt i).all ++ [p], (σ2.shAt i).waits⟩
  pinS σ3 p ⟨key, v, ch, true, 0⟩
def putM (σ : CS) (key : ByteArray) (ch : Int) : CS := makesS (shardOf σ.sh.length key) ch (share σ) (σ.shAt (shardOf σ.sh.length key)).waits.length σ

theorem shAt_of {σ : CS} {i : Nat} {s : Sh} (h : σ.sh[i]? = some s) : σ.shAt i = s := by simp [CS.shAt, h]
theorem share_same {σ σ' : CS} (h : Same σ σ') : share σ' = share σ := by unfold share; rw [h.room, h.len]

/-- A cache's labels go on. -/
structure Grows (lab lab' : Nat → Option Lab) (h : Heap) : Prop where
  old : ∀ y l, lab y = some l → lab' y = some l
  new : ∀ y, lab' y ≠ none → lab y ≠ none ∨ h.size ≤ y

theorem c61 {h : Heap} {lab : Nat → Option Lab} {c : Nat} {row : Slc} {pm : Nat} {bs : List Nat} {σ : CS} (C : CR h lab c row pm bs σ) {key : ByteArray} {v : ByteArray} {ch : Int} (hc0 : 0 ≤ ch) (hc1 : ch ≤ big) (hk : key.size ≤ 9223372036854775807)
    (H : ∀ (i : Nat) (s : Sh), σ.sh[i]? = some s → Has σ s) (l0 : 0 ≤ σ.last) (l1 : σ.last ≤ 4611686018427387904) {R : Int → Int → Heap → Prop}
    (k0 : key.size > 1024 → R 0 2 h)
    (k1 : key.size ≤ 1024 → σ.strict = true → plusS (usedS (putM σ key ch).it ((putM σ key ch).shAt (shardOf σ.sh.length key))) ch > share σ → ∀ h', CR h' lab c row pm bs (putM σ key ch) → Ext (fun y => lab y ≠ none) h h' → R 0 110 h')
    (k2 : key.size ≤ 1024 → ¬ (σ.strict = true ∧ plusS (usedS (putM σ key ch).it ((putM σ key ch).shAt (shardOf σ.sh.length key))) ch > share σ) → ∀ h' p lab', h.size ≤ p → lab' p = some .it →
      CR h' lab' c row pm bs (putT (putM σ key ch) (shardOf σ.sh.length key) key v ch p) → Grows lab lab' h → Ext (fun y => lab y ≠ none) h h' → R (σ.last + 1) 0 h') :
    Call Go.Proofs.Try.prog 61 [.lf (.ptr (some (c, 0))), .lf (.str key), .lf (.str v), .lf (.int .u64 ch)] h [.one (.int .i64), .one (.int .i64)] R := by
  refine ok61 (Br.dec (fun hb => k0 (by omega)) fun hb => ?_)
  have hks : key.size ≤ 1024 := by omega
  refine c100 C hk fun h1 b s e1 hbs hs => ?_
  have C1 := C.ext0 e1
  refine c102 C1 ?_
  have Hs := H _ s hs
  have hsh := shAt_of hs
  refine c101 C1 hs hbs Hs hc0 hc1 fun h4 C4 e4 => ?_
  have hM : makesS (shardOf σ.sh.length key) ch (share σ) s.waits.length σ = putM σ key ch := by unfold putM; rw [hsh]
  rw [hM] at C4
  have sameM : Same σ (putM σ key ch) := makesS_same ..
  obtain ⟨s4, hs4, H4⟩ : ∃ s', (putM σ key ch).sh[shardOf σ.sh.length key]? = some s' ∧ Has (putM σ key ch) s' := by rw [← hM]; exact makesS_Has _ _ _ _ _ _ hs Hs
  have hsh4 := shAt_of hs4
  generalize hσ : putM σ key ch = τ at *
  generalize hii : shardOf σ.sh.length key = i at *
  have e4' : Ext (fun y => lab y ≠ none) h h4 := e1.of0.trans (e4.mono fun y hy => by rcases hy with (h | h | h | h) | h <;> rw [h] <;> simp)
  have hur : 0 ≤ usedS τ.it s4 ∧ usedS τ.it s4 ≤ big := cap_range (sums_nonneg fun y hy => by
    obtain ⟨p, hp, rfl⟩ := List.mem_map.1 hy
    obtain ⟨Y, hY⟩ := H4.all p hp
    simp only [chOf, hY]; exact (C4.its p Y hY).2.2.c0)
  refine ⟨fun cc h' => CR h' lab c row pm bs τ ∧ Ext (fun y => lab y ≠ none) h h' ∧ (cc = true ↔ σ.strict = true ∧ plusS (usedS τ.it (τ.shAt i)) ch > share σ), ?_, ?_⟩
  · refine NilC.mk rfl ⟨τ.strict, C4.blk.cell rfl, Br.mk (fun hst => ?_) fun hst => ⟨C4, e4', by rw [← sameM.strict]; simp [hst]⟩⟩
    refine c103 C4 hs4 hbs H4.all fun h10 e10 => c70 hur.1 hur.2 hc0 hc1 (c102 (C4.ext0 e10) ⟨C4.ext0 e10, e4'.then0 e10, ?_⟩)
    rw [share_same sameM, ← sameM.strict, hsh4]
    simp [hst]
  · rintro cc h16 ⟨C16, e16, hcc⟩
    refine Br.mk (fun ht => ?_) fun hf => ?_
    · obtain ⟨h1, h2⟩ := hcc.1 ht
      exact k1 hks h1 h2 h16 C16 e16
    · have hno : ¬ (σ.strict = true ∧ plusS (usedS τ.it (τ.shAt i)) ch > share σ) := fun hh => by rw [hcc.2 hh] at hf; cases hf
      let σ2 : CS := match lookK key s4.ins with
        | some q => (match τ.it q with | some X => outS τ i s4 q X | none => τ)
        | none => τ
      obtain ⟨im, am, ws, S⟩ := C16.shs i s4 b hs4 hbs
      refine ⟨fun h' => CR h' lab c row pm bs σ2 ∧ Ext (fun y => lab y ≠ none) h h' ∧ Same τ σ2 ∧ ∃ s2, σ2.sh[i]? = some s2 ∧ Has σ2 s2, NilC.mk rfl ⟨some im, S.blk.cell rfl, ?_⟩, ?_⟩
      · cases hl : lookK key s4.ins with
        | none =>
          have : σ2 = τ := by simp only [σ2, hl]
          rw [this]
          exact ⟨none, false, S.ins.miss trivial (lookK_none hl) trivial _, Br.f rfl ⟨C16, e16, Same.refl _, s4, hs4, H4⟩⟩
        | some q =>
          have hq := lookK_some hl
          obtain ⟨X, hX⟩ := H4.ins _ hq
          have : σ2 = outS τ i s4 q X := by simp only [σ2, hl, hX]
          rw [this]
          refine ⟨some (q, 0), true, S.ins.hit trivial hq trivial _ rfl, Br.t rfl (c104 C16 hs4 hbs hX H4 fun h23 C23 e23 => ⟨C23, e16.trans (e23.mono fun y hy => by rcases hy with (h | h | h | h) | h <;> rw [h] <;> simp), outS_same .., outS_Has hs4 H4⟩)⟩
      · rintro h24 ⟨C24, e24, same2, s2, hs2, H2⟩
        have hi2 : i < σ2.sh.length := by
          rcases Nat.lt_or_ge i σ2.sh.length with h' | h'
          · exact h'
          · rw [List.getElem?_eq_none h'] at hs2; cases hs2
        refine New.mk fun p h26 hp hs26 e26 k26 => ?_
        obtain ⟨C26, hlab⟩ := C24.newIt (X := ⟨key, v, ch, true, 0⟩) e26 hp k26 ⟨hc0, hc1⟩
        generalize hlab' : (fun y => if y = p then some Lab.it else lab y) = lab' at *
        have hlp : lab' p = some .it := by rw [← hlab']; simp
        obtain ⟨im, am, ws, S⟩ := C26.shs i s2 b hs2 hbs
        have hpall : p ∉ s2.all := fun hm => by
          obtain ⟨Y, hY⟩ := H2.all p hm
          have := (C24.its p Y hY).1.lt
          omega
        refine NilC.mk rfl ⟨some im, S.blk.cell rfl, NilC.mk rfl ⟨some am, S.blk.cell rfl, ?_⟩⟩
        refine S.ins.ent (v := p) trivial trivial (fun q => ⟨some (q, 0), rfl⟩) rfl ⟨none, rfl⟩ fun h36 hs36 M36 e36 => ?_
        have e36' : Ext (fun y => lab' y = some (.im i)) h26 h36 := e36.mono fun y hy => by rw [show y = im from hy]; exact S.lim
        have noim : ∀ y l, lab' y = some l → l ≠ .im i → ¬ lab' y = some (.im i) := fun y l hy hn he => by rw [hy] at he; cases he; exact hn rfl
        have k36 := k26.ext e36' (noim _ _ hlp (by simp))
        refine (S.all.ext e36' (noim _ _ S.lam (by simp))).ent (v := true) (k := some (p, 0)) trivial ?_ (fun q => ⟨q, rfl⟩) rfl ⟨false, rfl⟩ fun h40 hs40 M40 e40 => ?_
        · intro y hy
          obtain ⟨q, hq, rfl⟩ := List.mem_map.1 hy
          obtain ⟨Y, hY⟩ := H2.all q hq
          have hqp : q ≠ p := fun he => hpall (he ▸ hq)
          have hC := C26.its q Y (by simp [CS.setIt, hqp, hY])
          exact .inr ⟨Blk.plain k36, Blk.plain (hC.1.ext e36' (noim _ _ hC.2.1 (by simp)))⟩
        have e40' : Ext (fun y => lab' y = some (.am i)) h36 h40 := e40.mono fun y hy => by rw [show y = am from hy]; exact S.lam
        have e2640 : Ext (fun y => lab' y = some (.im i) ∨ lab' y = some (.am i)) h26 h40 := (e36'.mono fun y hy => .inl hy).trans (e40'.mono fun y hy => .inr hy)
        have noam : ∀ y l, lab' y = some l → l ≠ .am i → ¬ lab' y = some (.am i) := fun y l hy hn he => by rw [hy] at he; cases he; exact hn rfl
        have no2 : ∀ y l, lab' y = some l → l ≠ .im i → l ≠ .am i → ¬ (lab' y = some (.im i) ∨ lab' y = some (.am i)) := fun y l hy h1 h2 hh => hh.elim (noim y l hy h1) (noam y l hy h2)
        rw [aput_all hpall] at M40
        have S40 : ShR h40 lab' i b im am ws ⟨aput .str key p s2.ins, s2.all ++ [p], s2.waits⟩ :=
          ⟨S.blk.ext e2640 (no2 _ _ S.lb (by simp) (by simp)), M36.ext e40' (noam _ _ S.lim (by simp)), M40, S.waits.ext e2640 fun ⟨y, o, hy, hY⟩ => no2 _ _ (S.lws y o hy) (by simp) (by simp) hY, S.lb, S.lim, S.lam, S.lws⟩
        have C40 := C26.upd (lab' := lab') e2640 (fun y l hy hS => by
          rcases hS with hS | hS
          · rw [hy] at hS; cases hS; exact .inr (.inl rfl)
          · rw [hy] at hS; cases hS; exact .inr (.inr (.inl rfl))) (fun _ _ k => k) (fun y hy => Nat.lt_of_lt_of_le (C26.lt y hy) e2640.size) hbs S40
        refine c105 C40 (x := p) (X := ⟨key, v, ch, true, 0⟩) (by simp [CS.setIt]) ?_ ?_ (show (-4611686018427387904 : Int) ≤ 0 by decide) (show (0 : Int) ≤ 4611686018427387904 by decide) fun h42 C42 e42 => ?_
        · show 0 ≤ σ2.last; rw [same2.last, sameM.last]; exact l0
        · show σ2.last ≤ _; rw [same2.last, sameM.last]; exact l1
        have hlast : ({ (σ2.setIt p ⟨key, v, ch, true, 0⟩) with sh := (σ2.setIt p ⟨key, v, ch, true, 0⟩).sh.set i ⟨aput .str key p s2.ins, s2.all ++ [p], s2.waits⟩ } : CS).last = σ.last := by
          show σ2.last = σ.last; rw [same2.last, sameM.last]
        rw [hlast]
        have hnew : ∀ y, lab' y ≠ none → lab y ≠ none ∨ h.size ≤ y := fun y hy => by
          rw [← hlab'] at hy
          simp only at hy
          split at hy
          · rename_i hyp; right; have := e24.size; omega
          · exact .inl hy
        have e2442 : Ext (fun y => lab' y ≠ none) h24 h42 := (e26.of0.trans (e2640.mono fun y hy => by rcases hy with h | h <;> rw [h] <;> simp)).trans (e42.mono fun y hy => by rcases hy with h | h | h <;> rw [h] <;> simp)
        refine k2 hks hno h42 p lab' (by have := e24.size; omega) hlp ?_ ⟨hlab, hnew⟩ (e24.trans' e2442 fun y hy hl => (hnew y hl).elim id fun hh => by omega)
        have hput : putT τ i key v ch p = pinS { (σ2.setIt p ⟨key, v, ch, true, 0⟩) with sh := (σ2.setIt p ⟨key, v, ch, true, 0⟩).sh.set i ⟨aput .str key p s2.ins, s2.all ++ [p], s2.waits⟩ } p ⟨key, v, ch, true, 0⟩ := by
          have h2 : (match lookK key (τ.shAt i).ins with
            | some q => (match τ.it q with | some X => outS τ i (τ.shAt i) q X | none => τ)
            | none => τ) = σ2 := by rw [hsh4]
          unfold putT
          rw [h2]
          simp only [shAt_of hs2]
          rfl
        rw [hput]
        exact C42



theorem ofShIt_ne {lab : Nat → Option Lab} {i y : Nat} (h : ofShIt lab i y) : lab y ≠ none := by
  rcases h with (h | h | h | h) | h <;> rw [h] <;> simp

/-- A shard of the cache, its block. -/
theorem CR.sh {h : Heap} {lab : Nat → Option Lab} {c : Nat} {row : Slc} {pm : Nat} {bs : List Nat} {σ : CS} (C : CR h lab c row pm bs σ) {i b : Nat} (hb : bs[i]? = some b) : ∃ s, σ.sh[i]? = some s := by
  have hi : i < bs.length := by
    rcases Nat.lt_or_ge i bs.length with h' | h'
    · exact h'
    · rw [List.getElem?_eq_none h'] at hb; cases hb
  exact ⟨σ.sh[i]'(by rw [← C.len]; exact hi), List.getElem?_eq_getElem _⟩

def busyS (σ : CS) (i : Nat) (s : Sh) (x : Nat) : CS := σ.setSh i { s with waits := s.waits.filter fun p => !decide (p = x) }
def getS (σ : CS) (key : ByteArray) : Int × ByteArray × Bool × CS :=
  let i := shardOf σ.sh.length key
  match lookK key (σ.shAt i).ins with
  | some q => (match σ.it q with | some X => (σ.last + 1, X.v, true, pinS (busyS σ i (σ.shAt i) q) q X) | none => (0, ⟨#[]⟩, false, σ))
  | none => (0, ⟨#[]⟩, false, σ)

/-- Get. -/
theorem c63 {h : Heap} {lab : Nat → Option Lab} {c : Nat} {row : Slc} {pm : Nat} {bs : List Nat} {σ : CS} (C : CR h lab c row pm bs σ) {key : ByteArray} (hk : key.size ≤ 9223372036854775807)
    (H : ∀ (i : Nat) (s : Sh), σ.sh[i]? = some s → Has σ s) (l0 : 0 ≤ σ.last) (l1 : σ.last ≤ 4611686018427387904) (hp : ∀ p X, σ.it p = some X → -4611686018427387904 ≤ X.pins ∧ X.pins ≤ 4611686018427387904)
    {R : Int → ByteArray → Bool → Heap → Prop}
    (k : ∀ h', CR h' lab c row pm bs (getS σ key).2.2.2 → Ext (fun y => lab y ≠ none) h h' → R (getS σ key).1 (getS σ key).2.1 (getS σ key).2.2.1 h') :
    Call Go.Proofs.Try.prog 63 [.lf (.ptr (some (c, 0))), .lf (.str key)] h [.one (.int .i64), .one .str, .one .bool] R := by
  refine ok63 (c100 C hk fun h1 b s e1 hbs hs => ?_)
  have C1 := C.ext0 e1
  have Hs := H _ s hs
  obtain ⟨im, am, ws, S⟩ := C1.shs _ s b hs hbs
  refine NilC.mk rfl ⟨some im, S.blk.cell rfl, ?_⟩
  have hsh := shAt_of hs
  unfold getS at k
  simp only [hsh] at k
  cases hl : lookK key s.ins with
  | none =>
    rw [hl] at k
    exact ⟨none, false, S.ins.miss trivial (lookK_none hl) trivial _, Br.t rfl (k h1 C1 e1.of0)⟩
  | some q =>
    have hq := lookK_some hl
    obtain ⟨X, hX⟩ := Hs.ins _ hq
    have hX' : σ.it q = some X := hX
    rw [hl] at k
    simp only [hX'] at k
    have hpp := hp q X hX'
    refine ⟨some (q, 0), true, S.ins.hit trivial hq trivial _ rfl, Br.f rfl (c106 C1 hs hbs ⟨X, hX'⟩ Hs.waits Hs.len fun h7 C7 e7 => NilC.mk rfl ⟨X.v, (C7.its q X hX').1.cell rfl, ?_⟩)⟩
    refine c105 C7 hX' l0 l1 hpp.1 hpp.2 fun h12 C12 e12 => ⟨(C12.its q { X with pins := X.pins + 1 } (by simp [pinS, CS.setIt])).1.cell rfl, k h12 C12 ?_⟩
    exact (e1.of0.trans (e7.mono fun y hy => by rcases hy with h | h <;> rw [h] <;> simp)).trans (e12.mono fun y hy => by rcases hy with h | h | h <;> rw [h] <;> simp)

/-- What is used of all. -/
def chargeS (σ : CS) : Int := (σ.sh.map (usedS σ.it)).foldl plusS 0

theorem usedS_range {σ : CS} {s : Sh} (hit : ∀ p X, σ.it p = some X → ItOk X) (H : Has σ s) : 0 ≤ usedS σ.it s ∧ usedS σ.it s ≤ big := cap_range (sums_nonneg fun y hy => by
    obtain ⟨p, hp, rfl⟩ := List.mem_map.1 hy
    obtain ⟨Y, hY⟩ := H.all p hp
    simp only [chOf, hY]; exact (hit p Y hY).c0)

theorem fold_range : ∀ {l : List Int} {a : Int}, 0 ≤ a → a ≤ big → (∀ x ∈ l, 0 ≤ x ∧ x ≤ big) → 0 ≤ l.foldl plusS a ∧ l.foldl plusS a ≤ big
  | [], a, h0, h1, _ => ⟨h0, h1⟩
  | x :: l, a, h0, h1, h => by
    have hx := h x (List.mem_cons_self ..)
    have := plusS_range h0 h1 hx.1 hx.2
    rw [List.foldl_cons]
    exact fold_range (l := l) (a := plusS a x) this.1 this.2 fun y hy => h y (List.mem_cons_of_mem _ hy)

/-- Charge. -/
theorem c64 {h : Heap} {lab : Nat → Option Lab} {c : Nat} {row : Slc} {pm : Nat} {bs : List Nat} {σ : CS} (C : CR h lab c row pm bs σ) (H : ∀ (i : Nat) (s : Sh), σ.sh[i]? = some s → Has σ s) {R : Int → Heap → Prop}
    (k : ∀ h', Ext0 h h' → R (chargeS σ) h') : Call Go.Proofs.Try.prog 64 [.lf (.ptr (some (c, 0)))] h [.one (.int .u64)] R := by
  have hrl := C.rowo.len
  have hcl := C.len
  have hn1 := C.n1
  have hit : ∀ p X, σ.it p = some X → ItOk X := fun p X hp => (C.its p X hp).2.2
  have hur : ∀ x ∈ σ.sh.map (usedS σ.it), 0 ≤ x ∧ x ≤ big := fun x hx => by
    obtain ⟨s, hs, rfl⟩ := List.mem_map.1 hx
    obtain ⟨i, hi⟩ := List.mem_iff_getElem?.1 hs
    exact usedS_range hit (H i s hi)
  refine ok64 (NilC.mk rfl ⟨row, C.blk.cell rfl, fun n i h' d => ∃ m : Nat, i = m ∧ m ≤ σ.sh.length ∧ d = σ.sh.length - m ∧ n = ((σ.sh.take m).map (usedS σ.it)).foldl plusS 0 ∧ Ext0 h h', ⟨_, 0, rfl, by omega, rfl, rfl, Ext.refl _ _⟩, ?_⟩)
  rintro _ _ h7 _ ⟨m, rfl, hm, rfl, rfl, e⟩
  refine Br.dec (fun hi => ?_) fun hi => ?_
  · have hi' : m < σ.sh.length := by omega
    have hbs : bs[m]? = some (bs[m]'(by omega)) := List.getElem?_eq_getElem _
    have hs : σ.sh[m]? = some σ.sh[m] := List.getElem?_eq_getElem hi'
    refine ((C.rowo.arr pF_sized).ext0 e).ix rfl hbs fun b o hc => ⟨_, hc, c103 (C.ext0 e) hs hbs (H _ _ hs).all fun h13 e13 => ?_⟩
    have hpre := fold_range (l := (σ.sh.take m).map (usedS σ.it)) (a := 0) (by decide) (by decide) fun x hx => hur x (by
      obtain ⟨s, hs, rfl⟩ := List.mem_map.1 hx
      exact List.mem_map.2 ⟨s, List.mem_of_mem_take hs, rfl⟩)
    have hu := usedS_range hit (H _ _ hs)
    refine c70 hpre.1 hpre.2 hu.1 hu.2 ⟨_, ?_, m + 1, ?_, by omega, rfl, ?_, e.trans e13⟩
    · show σ.sh.length - (m + 1) < σ.sh.length - m; omega
    · rw [wi64 (by omega) (by omega)]; rfl
    · rw [List.take_succ_eq_append_getElem hi', List.map_append, List.foldl_append]; rfl
  · have : m = σ.sh.length := by omega
    subst this
    have := k h7 e
    unfold chargeS at this
    rw [List.take_length]; exact this



def emptySh : Sh := ⟨[], [], []⟩
def newS (n : Nat) (room : Int) (strict : Bool) : CS := ⟨room, strict, 0, List.replicate n emptySh, [], fun _ => none⟩

/-- Labels of a new part of the cache. -/
def shLab (lab : Nat → Option Lab) (m im am b : Nat) (a : Option (Nat × Nat)) (y : Nat) : Option Lab :=
  if y = im then some (.im m) else if y = am then some (.am m) else if y = b then some (.sh m) else match a with
  | some (q, _) => if y = q then some .row else lab y
  | none => lab y

theorem c60 {h : Heap} {n room : Int} {strict : Bool} (r0 : 0 ≤ room) (r1 : room ≤ big) (hn0 : -9223372036854775808 ≤ n) (hn1 : n ≤ 9223372036854775807) {R : Option (Nat × Nat) → Int → Heap → Prop}
    (k0 : n < 1 ∨ n > 64 → R none 1 h)
    (k1 : 1 ≤ n → n ≤ 64 → ∀ h' lab c row pm bs, CR h' lab c row pm bs (newS n.toNat room strict) → Ext0 h h' → (∀ y, lab y ≠ none → h.size ≤ y) → R (some (c, 0)) 0 h') :
    Call Go.Proofs.Try.prog 60 [.lf (.int .i64 n), .lf (.int .u64 room), .lf (.bool strict)] h [.one .ptr, .one (.int .i64)] R := by
  refine ok60 ⟨fun cc h' => h = h' ∧ (cc = true ↔ n < 1 ∨ n > 64), Br.dec (fun hh => ⟨rfl, by simp [hh]⟩) fun hh => ⟨rfl, by simp; omega⟩, ?_⟩
  rintro cc _ ⟨rfl, hcc⟩
  refine Br.mk (fun ht => k0 (hcc.1 ht)) fun hf => ?_
  have hn : 1 ≤ n ∧ n ≤ 64 := by
    have : ¬ (n < 1 ∨ n > 64) := fun hh => by rw [hcc.2 hh] at hf; cases hf
    omega
  refine NewM.mk fun b3 h4 hb3 hs4 e4 m4 => New.mk fun b5 h6 hb5 hs6 e6 k6 => ?_
  have M6 : MapR (β := Nat) h6 b3 (.int .i64) (.one .ptr) pF [] := (MapR.new m4).ext e6
  refine ⟨fun i h' d => ∃ (m : Nat) (lab : Nat → Option Lab) (row : Slc) (bs : List Nat), i = m ∧ (m : Int) ≤ n ∧ d = n.toNat - m ∧ Blk h' b5 166 [.slc row, .int .u64 room, .bool strict, .map (some b3), .int .i64 0] ∧
      Own 1 pF h' row bs ∧ bs.length = m ∧ (∀ j b, bs[j]? = some b → ∃ im am ws, ShR h' lab j b im am ws emptySh) ∧ MapR (β := Nat) h' b3 (.int .i64) (.one .ptr) pF [] ∧ lab b5 = some .c ∧ (∀ x o, row.a = some (x, o) → lab x = some .row) ∧ lab b3 = some .pm ∧
      (∀ y, lab y ≠ none → y < h'.size ∧ h.size ≤ y) ∧ Ext0 h h',
    ⟨_, 0, fun y => if y = b5 then some .c else if y = b3 then some .pm else none, ⟨none, 0, 0⟩, [], rfl, by omega, rfl, k6, Own.nil _ _ _, rfl, by simp, M6, by simp, by simp, by (have : b3 ≠ b5 := by omega); simp [this], ?_, e4.trans e6⟩, ?_⟩
  · intro y hy
    simp only at hy
    split at hy
    · omega
    · split at hy
      · omega
      · exact absurd rfl hy
  rintro _ h10 _ ⟨m, lab, row, bs, rfl, hm, rfl, kc, orow, hbl, hsh, M, lc, lrow, lpm, hlt, e⟩
  refine Br.dec (fun hi => ?_) fun hi => ?_
  · refine ⟨row, kc.cell rfl, NewM.mk fun b13 h14 hb13 hs14 e14 m14 => NewM.mk fun b15 h16 hb15 hs16 e16 m16 => New.mk fun b17 h18 hb17 hs18 e18 k18 => New.mk fun b19 h20 hb19 hs20 e20 k20 => ?_⟩
    have e1020 : Ext0 h10 h20 := ((e14.trans e16).trans e18).trans e20
    refine AppC.grow pF_sized (by decide) rfl (orow.ext0 e1020) ((Own.new (l := [b17]) pF_sized k20).arr pF_sized) (by simp only [List.length_singleton]; omega) fun row' h22 o22 g22 => ?_
    have hrow5 : ∀ o, row.a ≠ some (b5, o) := fun o ho => by have := lrow b5 o ho; rw [lc] at this; cases this
    have kc22 := (kc.ext e1020).ext g22.ext fun ⟨o, ho⟩ => hrow5 o ho
    refine StC.one kc22 (by simp) fun h23 hs23 k23 e23 => ?_
    obtain ⟨lab', hlab'⟩ : ∃ lab', lab' = shLab lab m b13 b15 b17 row'.a := ⟨_, rfl⟩
    have hold : ∀ y l, lab y = some l → y < h10.size := fun y l hy => (hlt y (by rw [hy]; simp)).1
    have hrowb : ∀ q o, row'.a = some (q, o) → lab q = some .row ∨ h20.size ≤ q := fun q o hq => by
      rcases g22.new with h1 | ⟨b', h1, h2⟩
      · exact .inl (lrow q o (h1 ▸ hq))
      · rw [h1] at hq; cases hq; exact .inr h2
    have hl : ∀ y l, lab y = some l → lab' y = some l := fun y l hy => by
      have := hold y l hy
      rw [hlab']
      unfold shLab
      rw [if_neg (by omega), if_neg (by omega), if_neg (by omega)]
      split
      · rename_i q o hq
        split
        · rename_i hyq
          subst hyq
          rcases hrowb y o hq with h1 | h1
          · rw [h1] at hy; exact hy
          · omega
        · exact hy
      · exact hy
    have hn17 : ∀ q o, row'.a = some (q, o) → q ≠ b13 ∧ q ≠ b15 ∧ q ≠ b17 := fun q o hq => by
      rcases hrowb q o hq with h1 | h1
      · have := hold q _ h1; omega
      · omega
    have hlrow : ∀ x o, row'.a = some (x, o) → lab' x = some .row := fun x o hx => by
      obtain ⟨h1, h2, h3⟩ := hn17 x o hx
      rw [hlab']; simp [shLab, h1, h2, h3, hx]
    have l13 : lab' b13 = some (.im m) := by rw [hlab']; simp [shLab]
    have l15 : lab' b15 = some (.am m) := by rw [hlab']; simp [shLab, show b15 ≠ b13 by omega]
    have l17 : lab' b17 = some (.sh m) := by rw [hlab']; simp [shLab, show b17 ≠ b13 by omega, show b17 ≠ b15 by omega]
    have e2023 : Ext (fun y => lab' y = some .row ∨ lab' y = some .c) h20 h23 := (g22.ext.mono fun y ⟨o, ho⟩ => .inl (hl y _ (lrow y o ho))).trans (e23.mono fun y hy => .inr (by rw [show y = b5 from hy]; exact hl _ _ lc))
    have no : ∀ y l, lab' y = some l → l ≠ .row → l ≠ .c → ¬ (lab' y = some .row ∨ lab' y = some .c) := fun y l hy h1 h2 hh => by
      rcases hh with hh | hh
      · rw [hy] at hh; cases hh; exact h1 rfl
      · rw [hy] at hh; cases hh; exact h2 rfl
    refine ⟨_, ?_, m + 1, lab', row', bs ++ [b17], ?_, by omega, rfl, k23, ?_, by simp [hbl], ?_, (M.ext e1020).ext e2023 (no _ _ (hl _ _ lpm) (by simp) (by simp)), hl _ _ lc, hlrow, hl _ _ lpm, ?_, ?_⟩
    · show n.toNat - (m + 1) < n.toNat - m; omega
    · rw [wi64 (by omega) (by omega)]; rfl
    · refine o22.ext e23 fun ⟨y, o, hy, hyb⟩ => ?_
      have h1 := hlrow y o hy
      rw [show y = b5 from hyb, hl _ _ lc] at h1; cases h1
    · intro j b hj
      rw [List.getElem?_append] at hj
      split at hj
      · obtain ⟨im, am, ws, r⟩ := hsh j b hj
        exact ⟨im, am, ws, (r.ext e1020 fun _ _ _ k => k).ext' e2023 (fun y l hy hl' => no y l (hl y l hy) (by rcases hl' with rfl | rfl | rfl | rfl <;> simp) (by rcases hl' with rfl | rfl | rfl | rfl <;> simp)) hl⟩
      · rename_i hge
        rw [List.getElem?_singleton] at hj
        split at hj
        · cases hj
          have hjm : j = m := by omega
          subst hjm
          have k18' : Blk h20 b17 172 [.map (some b13), .map (some b15), .slc ⟨none, 0, 0⟩] := k18.ext e20
          refine ⟨b13, b15, ⟨none, 0, 0⟩, k18'.ext e2023 (no _ _ l17 (by simp) (by simp)), ?_, ?_, Own.nil _ _ _, l17, l13, l15, by simp⟩
          · exact ((MapR.new (β := Nat) m14).ext ((e16.trans e18).trans e20)).ext e2023 (no _ _ l13 (by simp) (by simp))
          · exact ((MapR.new (β := Bool) m16).ext (e18.trans e20)).ext e2023 (no _ _ l15 (by simp) (by simp))
        · cases hj
    · intro y hy
      have hs2022 := g22.ext.size
      have hhs := e.size
      rw [hlab'] at hy
      unfold shLab at hy
      split at hy
      · omega
      · split at hy
        · omega
        · split at hy
          · omega
          · split at hy
            · rename_i q o hq
              split at hy
              · rename_i hyq
                subst hyq
                have h1 := (o22.lt y o hq).1
                rcases hrowb y o hq with h2 | h2
                · have := hlt y (by rw [h2]; simp); omega
                · omega
              · have := hlt y hy; omega
            · have := hlt y hy; omega
    · refine (e.trans e1020).trans' e2023 fun y hy hl' => ?_
      have hlt' : lab y ≠ none := by
        rw [hlab'] at hl'
        have hs10 := e.size
        have hne : y ≠ b13 ∧ y ≠ b15 ∧ y ≠ b17 := by omega
        simp only [shLab, hne.1, hne.2.1, hne.2.2, if_false] at hl'
        split at hl'
        · rename_i q o hq
          split at hl'
          · rename_i hyq
            subst hyq
            rcases hrowb y o hq with h2 | h2
            · rw [h2]; simp
            · omega
          · rcases hl' with h | h <;> rw [h] <;> simp
        · rcases hl' with h | h <;> rw [h] <;> simp
      have := hlt y hlt'
      omega
  · have hmn : m = n.toNat := by omega
    subst hmn
    refine k1 hn.1 hn.2 h10 lab b5 row b3 bs ⟨kc, orow, by simp [newS, hbl], fun i s b h1 h2 => ?_, M, fun p x hp => by simp [newS] at hp, lc, lrow, lpm, fun y hy => (hlt y hy).1, r0, r1, by simp [newS]; omega, by simp [newS]; omega⟩ e fun y hy => (hlt y hy).2
    have : s = emptySh := by
      simp only [newS] at h1
      rw [List.getElem?_replicate] at h1
      split at h1
      · cases h1; rfl
      · cases h1
    subst this
    exact hsh i b h2


def AllHas (σ : CS) : Prop := ∀ (i : Nat) (s : Sh), σ.sh[i]? = some s → Has σ s

def pchOf (it : Nat → Option It) (p : Nat) : Int := match it p with | some x => if x.pins > 0 then x.ch else 0 | none => 0
def pinnedT (σ : CS) (l : List Sh) : Int := sums (l.map fun s => sums (s.all.map (pchOf σ.it)))
def pinnedS (σ : CS) : Int := cap (pinnedT σ σ.sh)

theorem rest_perm {l seen : List Nat} {p : Nat} {rest' : List (Option (Nat × Nat) × Bool)} (hl : (l.map fun p => ((some (p, 0), true) : Option (Nat × Nat) × Bool)).Perm ((seen.map fun p => (some (p, 0), true)) ++ (some (p, 0), true) :: rest')) :
    ∃ r2, l.Perm (seen ++ p :: r2) := by
  have hinj : ∀ {l m : List Nat}, (l.map fun p => ((some (p, 0), true) : Option (Nat × Nat) × Bool)).Perm (m.map fun p => (some (p, 0), true)) → l.Perm m := by
    intro l m hlm
    have := hlm.map fun x : Option (Nat × Nat) × Bool => (x.1.getD (0, 0)).1
    simpa [List.map_map, Function.comp_def] using this
  have hall' : ∀ x ∈ rest', x ∈ (l.map fun p => ((some (p, 0), true) : Option (Nat × Nat) × Bool)) := fun x hx => hl.mem_iff.2 (List.mem_append.2 (.inr (List.mem_cons_of_mem _ hx)))
  have hr2 : rest' = (rest'.map fun x => (x.1.getD (0, 0)).1).map fun p => (some (p, 0), true) := by
    rw [List.map_map]
    conv => lhs; rw [← List.map_id rest']
    apply List.map_congr_left
    intro x hx
    obtain ⟨q, _, rfl⟩ := List.mem_map.1 (hall' x hx)
    rfl
  refine ⟨rest'.map fun x => (x.1.getD (0, 0)).1, hinj ?_⟩
  rw [List.map_append, List.map_cons, ← hr2]
  exact hl

theorem perm_inj {l m : List Nat} (hlm : (l.map fun p => ((some (p, 0), true) : Option (Nat × Nat) × Bool)).Perm (m.map fun p => (some (p, 0), true))) : l.Perm m := by
  have := hlm.map fun x : Option (Nat × Nat) × Bool => (x.1.getD (0, 0)).1
  simpa [List.map_map, Function.comp_def] using this

theorem c65 {h : Heap} {lab : Nat → Option Lab} {c : Nat} {row : Slc} {pm : Nat} {bs : List Nat} {σ : CS} (C : CR h lab c row pm bs σ) (H : AllHas σ) {R : Int → Heap → Prop}
    (k : ∀ h', Ext0 h h' → R (pinnedS σ) h') : Call Go.Proofs.Try.prog 65 [.lf (.ptr (some (c, 0)))] h [.one (.int .u64)] R := by
  have hrl := C.rowo.len
  have hcl := C.len
  have hn1 := C.n1
  have hpc : ∀ p, 0 ≤ pchOf σ.it p ∧ pchOf σ.it p ≤ big := fun p => by
    unfold pchOf
    split
    · rename_i x hx
      have := (C.its p x hx).2.2
      split
      · exact ⟨this.c0, this.c1⟩
      · exact ⟨by decide, by decide⟩
    · exact ⟨by decide, by decide⟩
  have hsn : ∀ l : List Nat, 0 ≤ sums (l.map (pchOf σ.it)) := fun l => sums_nonneg fun x hx => by
    obtain ⟨p, _, rfl⟩ := List.mem_map.1 hx; exact (hpc p).1
  have hTn : ∀ l : List Sh, 0 ≤ pinnedT σ l := fun l => sums_nonneg fun x hx => by
    obtain ⟨s, _, rfl⟩ := List.mem_map.1 hx; exact hsn _
  refine ok65 (NilC.mk rfl ⟨row, C.blk.cell rfl, fun n i h' d => ∃ m : Nat, i = m ∧ m ≤ σ.sh.length ∧ d = σ.sh.length - m ∧ n = cap (pinnedT σ (σ.sh.take m)) ∧ Ext0 h h', ⟨_, 0, rfl, by omega, rfl, rfl, Ext.refl _ _⟩, ?_⟩)
  rintro _ _ h7 _ ⟨m, rfl, hm, rfl, rfl, e⟩
  refine Br.dec (fun hi => ?_) fun hi => ?_
  · have hi' : m < σ.sh.length := by omega
    have hbs : bs[m]? = some (bs[m]'(by omega)) := List.getElem?_eq_getElem _
    have hs : σ.sh[m]? = some σ.sh[m] := List.getElem?_eq_getElem hi'
    generalize hss : σ.sh[m] = s at *
    have hstep : pinnedT σ (σ.sh.take (m + 1)) = pinnedT σ (σ.sh.take m) + sums (s.all.map (pchOf σ.it)) := by
      rw [List.take_succ_eq_append_getElem hi', hss]
      unfold pinnedT
      rw [List.map_append, sums_append]
      simp [sums]
    refine ((C.rowo.arr pF_sized).ext0 e).ix rfl hbs fun b o hc => ⟨_, hc, ?_⟩
    obtain ⟨im, am, ws, S⟩ := (C.ext0 e).shs m s _ hs hbs
    refine NilC.mk rfl ⟨some am, S.blk.cell rfl, Iter.start S.all fun b3 h4 hb3 hs4 e4 I0 => ?_⟩
    refine ⟨fun n h' d => ∃ seen rest : List Nat, Iter h' b3 am .ptr (.one .bool) oF (s.all.map fun p => (some (p, 0), true)) (seen.map fun p => (some (p, 0), true)) ∧ s.all.Perm (seen ++ rest) ∧ d = rest.length ∧ n = cap (pinnedT σ (σ.sh.take m) + sums (seen.map (pchOf σ.it))) ∧ Ext0 h h' ∧ b3 < h'.size,
      ⟨_, [], s.all, I0, List.Perm.refl _, rfl, by simp [sums], e.trans e4, by omega⟩, ?_⟩
    rintro _ h8 _ ⟨seen, rest, I, hp, rfl, rfl, e8, hb8⟩
    have hT0 := hTn (σ.sh.take m)
    have hS0 := hsn seen
    refine I.next (fun hperm => ⟨_, ?_, m + 1, ?_, by omega, rfl, ?_, e8⟩) fun x rest' h' hl hs' e' I' hE => ?_
    · show σ.sh.length - (m + 1) < σ.sh.length - m; omega
    · rw [wi64 (by omega) (by omega)]; rfl
    · rw [hstep, sums_perm ((perm_inj hperm).map (pchOf σ.it))]
    · have hx : x ∈ (s.all.map fun p => ((some (p, 0), true) : Option (Nat × Nat) × Bool)) := hl.mem_iff.2 (List.mem_append.2 (.inr (List.mem_cons_self ..)))
      obtain ⟨p, hpm, rfl⟩ := List.mem_map.1 hx
      obtain ⟨y, hy⟩ := (H m s hs).all p hpm
      have eh : Ext0 h h' := e8.tmp e' (by have := e.size; omega)
      have hblk := ((C.its p y hy).1.ext eh)
      obtain ⟨r2, hr2⟩ := rest_perm hl
      have hlen : r2.length < rest.length := by
        have h1 := hp.length_eq
        have h2 := hr2.length_eq
        simp only [List.length_append, List.length_cons] at h1 h2
        omega
      have hcy : pchOf σ.it p = if y.pins > 0 then y.ch else 0 := by simp only [pchOf, hy]
      have hnext : pinnedT σ (σ.sh.take m) + sums ((seen ++ [p]).map (pchOf σ.it)) = pinnedT σ (σ.sh.take m) + sums (seen.map (pchOf σ.it)) + pchOf σ.it p := by
        rw [List.map_append, sums_append]; simp [sums]; omega
      refine ⟨some (p, 0), true, hE, NilC.mk rfl ⟨y.pins, hblk.cell rfl, Br.dec (fun hgt => ?_) fun hle => ?_⟩⟩
      · rw [if_pos hgt] at hcy
        have hc := hpc p
        rw [hcy] at hc
        have hcr := cap_range (show 0 ≤ pinnedT σ (σ.sh.take m) + sums (seen.map (pchOf σ.it)) by omega)
        refine NilC.mk rfl ⟨y.ch, hblk.cell rfl, c70 hcr.1 hcr.2 hc.1 hc.2 ⟨_, hlen, seen ++ [p], r2, by simpa using I', by simpa using hr2, rfl, ?_, eh, by have := e'.size; omega⟩⟩
        rw [plusS_cap (by omega) hc.1 hc.2, hnext, hcy]
      · rw [if_neg hle] at hcy
        refine ⟨_, hlen, seen ++ [p], r2, by simpa using I', by simpa using hr2, rfl, ?_, eh, by have := e'.size; omega⟩
        rw [hnext, hcy, Int.add_zero]
  · have : m = σ.sh.length := by omega
    subst this
    rw [List.take_length]
    exact k h7 e



def lenS (σ : CS) : Int := sums (σ.sh.map fun s => (s.ins.length : Int))

/-- Len. -/
theorem c66 {h : Heap} {lab : Nat → Option Lab} {c : Nat} {row : Slc} {pm : Nat} {bs : List Nat} {σ : CS} (C : CR h lab c row pm bs σ) (H : ∀ s ∈ σ.sh, s.ins.length ≤ 4398046511104) {R : Int → Heap → Prop}
    (k : R (lenS σ) h) : Call Go.Proofs.Try.prog 66 [.lf (.ptr (some (c, 0)))] h [.one (.int .i64)] R := by
  have hrl := C.rowo.len
  have hcl := C.len
  have hn1 := C.n1
  refine ok66 (NilC.mk rfl ⟨row, C.blk.cell rfl, fun n i h' d => ∃ m : Nat, i = m ∧ m ≤ σ.sh.length ∧ d = σ.sh.length - m ∧ n = sums ((σ.sh.take m).map fun s => (s.ins.length : Int)) ∧ 0 ≤ n ∧ n ≤ 4398046511104 * (m : Int) ∧ h' = h, ⟨_, 0, rfl, by omega, rfl, rfl, by simp [sums], by simp [sums], rfl⟩, ?_⟩)
  rintro n _ _ _ ⟨m, rfl, hm, rfl, hn, hn0, hn2, rfl⟩
  refine Br.dec (fun hi => ?_) fun hi => ?_
  · have hi' : m < σ.sh.length := by omega
    have hbs : bs[m]? = some (bs[m]'(by omega)) := List.getElem?_eq_getElem _
    have hs : σ.sh[m]? = some σ.sh[m] := List.getElem?_eq_getElem hi'
    have hl := H _ (List.getElem_mem hi')
    have hstep : sums ((σ.sh.take (m + 1)).map fun s => (s.ins.length : Int)) = n + (σ.sh[m].ins.length : Int) := by
      rw [List.take_succ_eq_append_getElem hi', List.map_append, sums_append, ← hn]
      simp [sums]
    generalize hss : σ.sh[m] = s at *
    refine (C.rowo.arr pF_sized).ix rfl hbs fun b o hc => ⟨_, hc, ?_⟩
    obtain ⟨im, am, ws, S⟩ := C.shs m s _ hs hbs
    refine NilC.mk rfl ⟨some im, S.blk.cell rfl, _, S.ins.len, _, ?_, m + 1, ?_, by omega, rfl, ?_, ?_, ?_, rfl⟩
    · show σ.sh.length - (m + 1) < σ.sh.length - m; omega
    · rw [wi64 (by omega) (by omega)]; rfl
    · rw [wi64 (by omega) (by omega), hstep]
    · rw [wi64 (by omega) (by omega)]; omega
    · rw [wi64 (by omega) (by omega)]; omega
  · have : m = σ.sh.length := by omega
    subst this
    rw [List.take_length] at hn
    rw [hn]; exact k


end Go.V.Yteojmnnobmpdiaa.Strs
