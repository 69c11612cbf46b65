/- This text proves a part of the laws of seat Yteojmnnobmpdiaa, under no condition: C11b C11c C11d C11e C11f C11g. -/
import Derived.Test.YteojmnnobmpdiaaED
import Derived.Test.YteojmnnobmpdiaaCA
set_option linter.unusedVariables false
set_option linter.unusedSimpArgs false
/-! The cache: what it is in memory; what is used. -/
namespace Go.V.Yteojmnnobmpdiaa
open Go Go.V

def bF (c : UInt8) : List Lf := [.int .u8 (c.toNat : Int)]
def pF (p : Nat) : List Lf := [.ptr (some (p, 0))]
theorem pF_sized : Sized 1 pF := fun _ => rfl
def oF (b : Bool) : List Lf := [.bool b]
def sF (s : ByteArray) : List Lf := [.str s]
theorem sF_sized : Sized 1 sF := fun _ => rfl

def big : Int := 18446744073709551615
def plusS (a b : Int) : Int := if a > big - b then big else a + b

theorem c70 {a b : Int} (ha : 0 ≤ a) (ha' : a ≤ big) (hb : 0 ≤ b) (hb' : b ≤ big) {h : Heap} {R : Int → Heap → Prop} (k : R (plusS a b) h) :
    Call Go.Proofs.Try.prog 70 [.lf (.int .u64 a), .lf (.int .u64 b)] h [.one (.int .u64)] R := by
  unfold plusS big at *
  refine ok70 ?_
  unfold vc70
  rw [wu64 (by omega) (by omega)]
  refine Br.dec (fun hh => ?_) fun hh => ?_
  · rwa [if_pos hh] at k
  · rw [wu64 (by omega) (by omega)]
    rwa [if_neg hh] at k

theorem plusS_range {a b : Int} (ha : 0 ≤ a) (ha' : a ≤ big) (hb : 0 ≤ b) (hb' : b ≤ big) : 0 ≤ plusS a b ∧ plusS a b ≤ big := by
  unfold plusS big at *; split <;> omega

/-- What a list of numbers comes to, at most the greatest. -/
def sums : List Int → Int
  | [] => 0
  | x :: l => x + sums l
def cap (n : Int) : Int := if n > big then big else n
theorem plusS_cap {s c : Int} (hs : 0 ≤ s) (hc : 0 ≤ c) (hc' : c ≤ big) : plusS (cap s) c = cap (s + c) := by
  unfold plusS cap big at *; split <;> split <;> split <;> omega
theorem sums_nonneg : ∀ {l : List Int}, (∀ x ∈ l, 0 ≤ x) → 0 ≤ sums l
  | [], _ => Int.le_refl _
  | x :: l, h => by
    have := sums_nonneg fun y hy => h y (List.mem_cons_of_mem _ hy)
    have := h x (List.mem_cons_self ..)
    simp only [sums]; omega
theorem sums_append : ∀ l m : List Int, sums (l ++ m) = sums l + sums m
  | [], m => by simp [sums]
  | x :: l, m => by simp only [List.cons_append, sums, sums_append l m]; omega
theorem sums_perm {l m : List Int} (h : l.Perm m) : sums l = sums m := by
  induction h with
  | nil => rfl
  | cons x _ ih => simp only [sums, ih]
  | swap x y l => simp only [sums]; omega
  | trans _ _ ih1 ih2 => exact ih1.trans ih2
theorem cap_range {n : Int} (h : 0 ≤ n) : 0 ≤ cap n ∧ cap n ≤ big := by unfold cap big; split <;> omega

/-- An entry. -/
structure It where
  key : ByteArray
  v : Int
  ch : Int
  inn : Bool
  pins : Int
def It.lfs (x : It) : List Lf := [.str x.key, .int .u64 x.v, .int .u64 x.ch, .bool x.inn, .int .i64 x.pins]

/-- A part of the cache. -/
structure Sh where
  ins : List (ByteArray × Nat)
  all : List Nat
  waits : List Nat

structure CS where
  room : Int
  strict : Bool
  last : Int
  sh : List Sh
  pins : List (Int × Nat)
  it : Nat → Option It

/-- What a block is. -/
inductive Lab where
  | c | row | pm
  | sh (i : Nat) | im (i : Nat) | am (i : Nat) | wt (i : Nat)
  | it

structure ShR (h : Heap) (lab : Nat → Option Lab) (i b im am : Nat) (ws : Slc) (s : Sh) : Prop where
  blk : Blk h b 109 [.map (some im), .map (some am), .slc ws]
  ins : MapR h im .str (.one .ptr) pF s.ins
  all : MapR h am .ptr (.one .bool) oF (s.all.map fun p => (some (p, 0), true))
  waits : Own 1 pF h ws s.waits
  lb : lab b = some (.sh i)
  lim : lab im = some (.im i)
  lam : lab am = some (.am i)
  lws : ∀ x o, ws.a = some (x, o) → lab x = some (.wt i)

structure ItOk (x : It) : Prop where
  v0 : 0 ≤ x.v
  v1 : x.v ≤ big
  c0 : 0 ≤ x.ch
  c1 : x.ch ≤ big

/-- The cache in memory. -/
structure CR (h : Heap) (lab : Nat → Option Lab) (c : Nat) (row : Slc) (pm : Nat) (bs : List Nat) (σ : CS) : Prop where
  blk : Blk h c 103 [.slc row, .int .u64 σ.room, .bool σ.strict, .map (some pm), .int .i64 σ.last]
  rowo : Own 1 pF h row bs
  len : bs.length = σ.sh.length
  shs : ∀ i s b, σ.sh[i]? = some s → bs[i]? = some b → ∃ im am ws, ShR h lab i b im am ws s
  pins : MapR h pm (.int .i64) (.one .ptr) pF σ.pins
  its : ∀ p x, σ.it p = some x → Blk h p 124 x.lfs ∧ lab p = some .it ∧ ItOk x
  lc : lab c = some .c
  lrow : ∀ x o, row.a = some (x, o) → lab x = some .row
  lpm : lab pm = some .pm
  lt : ∀ b, lab b ≠ none → b < h.size
  r0 : 0 ≤ σ.room
  r1 : σ.room ≤ big
  n0 : 1 ≤ σ.sh.length
  n1 : σ.sh.length ≤ 64

theorem ShR.ext {h h' : Heap} {lab : Nat → Option Lab} {i b im am : Nat} {ws : Slc} {s : Sh} {S : Nat → Prop} (r : ShR h lab i b im am ws s) (e : Ext S h h') (hs : ∀ x l, lab x = some l → ¬ S x) : ShR h' lab i b im am ws s :=
  ⟨r.blk.ext e (hs _ _ r.lb), r.ins.ext e (hs _ _ r.lim), r.all.ext e (hs _ _ r.lam), r.waits.ext e fun ⟨x, o, hx, hS⟩ => hs _ _ (r.lws x o hx) hS, r.lb, r.lim, r.lam, r.lws⟩
theorem CR.ext {h h' : Heap} {lab : Nat → Option Lab} {c : Nat} {row : Slc} {pm : Nat} {bs : List Nat} {σ : CS} {S : Nat → Prop} (r : CR h lab c row pm bs σ) (e : Ext S h h') (hs : ∀ x l, lab x = some l → ¬ S x) : CR h' lab c row pm bs σ :=
  { r with
    blk := r.blk.ext e (hs _ _ r.lc), rowo := r.rowo.ext e fun ⟨x, o, hx, hS⟩ => hs _ _ (r.lrow x o hx) hS,
    shs := fun i s b h1 h2 => let ⟨im, am, ws, hh⟩ := r.shs i s b h1 h2; ⟨im, am, ws, hh.ext e hs⟩,
    pins := r.pins.ext e (hs _ _ r.lpm), its := fun p x hp => ⟨(r.its p x hp).1.ext e (hs _ _ (r.its p x hp).2.1), (r.its p x hp).2⟩,
    lt := fun b hb => Nat.lt_of_lt_of_le (r.lt b hb) e.size }
theorem CR.ext0 {h h' : Heap} {lab : Nat → Option Lab} {c : Nat} {row : Slc} {pm : Nat} {bs : List Nat} {σ : CS} (r : CR h lab c row pm bs σ) (e : Ext0 h h') : CR h' lab c row pm bs σ := r.ext e fun _ _ _ k => k

/-- What a part's entries take. -/
def chOf (it : Nat → Option It) (p : Nat) : Int := match it p with | some x => x.ch | none => 0
def usedS (it : Nat → Option It) (s : Sh) : Int := cap (sums (s.all.map (chOf it)))

theorem itF_typed : ∀ v : Bool, ExL (VT.one .bool).lts fun l => l = oF v := fun v => ⟨v, rfl⟩

/-- What is used of a part. -/
theorem c71 {h : Heap} {lab : Nat → Option Lab} {c : Nat} {row : Slc} {pm : Nat} {bs : List Nat} {σ : CS} (C : CR h lab c row pm bs σ) {i b : Nat} {s : Sh} (hs : σ.sh[i]? = some s) (hb : bs[i]? = some b)
    (hall : ∀ p ∈ s.all, ∃ x, σ.it p = some x) {R : Int → Heap → Prop} (k : ∀ h', Ext0 h h' → R (usedS σ.it s) h') :
    Call Go.Proofs.Try.prog 71 [.lf (.ptr (some (b, 0)))] h [.one (.int .u64)] R := by
  obtain ⟨im, am, ws, S⟩ := C.shs i s b hs hb
  refine ok71 (NilC.mk rfl ⟨some am, S.blk.cell rfl, Iter.start S.all fun b3 h4 hb3 hs4 e4 I0 => ?_⟩)
  refine ⟨fun n h' d => ∃ seen rest : List Nat, Iter h' b3 am .ptr (.one .bool) oF (s.all.map fun p => (some (p, 0), true)) (seen.map fun p => (some (p, 0), true)) ∧ s.all.Perm (seen ++ rest) ∧ d = rest.length ∧ n = cap (sums (seen.map (chOf σ.it))) ∧ Ext0 h h', ⟨_, [], s.all, I0, List.Perm.refl _, rfl, rfl, e4⟩, ?_⟩
  rintro _ h8 _ ⟨seen, rest, I, hp, rfl, rfl, e⟩
  have hinj : ∀ {l m : List Nat}, (l.map fun p => ((some (p, 0), true) : Option (Nat × Nat) × Bool)).Perm (m.map fun p => (some (p, 0), true)) → l.Perm m := by
    intro l m hlm
    have := hlm.map fun x : Option (Nat × Nat) × Bool => (x.1.getD (0, 0)).1
    simpa [List.map_map, Function.comp_def] using this
  have hch : ∀ p ∈ s.all, 0 ≤ chOf σ.it p ∧ chOf σ.it p ≤ big := fun p hp => by
    obtain ⟨x, hx⟩ := hall p hp
    have := (C.its p x hx).2.2
    simp only [chOf, hx]
    exact ⟨this.c0, this.c1⟩
  have hseen : ∀ p ∈ seen, p ∈ s.all := fun p hp' => hp.mem_iff.2 (List.mem_append.2 (.inl hp'))
  have hsn : 0 ≤ sums (seen.map (chOf σ.it)) := sums_nonneg fun x hx => by
    obtain ⟨p, hp', rfl⟩ := List.mem_map.1 hx
    exact (hch p (hseen p hp')).1
  refine I.next (fun hperm => ?_) fun x rest' h' hl hs' e' I' hE => ?_
  · have := sums_perm ((hinj hperm).map (chOf σ.it))
    have hh := k h8 e
    rw [usedS, ← this] at hh
    exact hh
  · have hx : x ∈ (s.all.map fun p => ((some (p, 0), true) : Option (Nat × Nat) × Bool)) := hl.mem_iff.2 (List.mem_append.2 (.inr (List.mem_cons_self ..)))
    obtain ⟨p, hpm, rfl⟩ := List.mem_map.1 hx
    obtain ⟨y, hy⟩ := hall p hpm
    have eh : Ext0 h h' := e.tmp e' (by have := e4.size; omega)
    have hblk := ((C.its p y hy).1.ext eh)
    have hrest : ∃ r2, s.all.Perm (seen ++ p :: r2) := by
      obtain ⟨r2, hr2⟩ : ∃ r2 : List Nat, rest'.Perm (r2.map fun p => (some (p, 0), true)) := by
        refine ⟨rest'.map fun x => (x.1.getD (0, 0)).1, ?_⟩
        have hall' : ∀ x ∈ rest', x ∈ (s.all.map fun p => ((some (p, 0), true) : Option (Nat × Nat) × Bool)) := fun x hx => hl.mem_iff.2 (List.mem_append.2 (.inr (List.mem_cons_of_mem _ hx)))
        have : rest' = (rest'.map fun x => (x.1.getD (0, 0)).1).map fun p => (some (p, 0), true) := by
          rw [List.map_map]
          conv => lhs; rw [← List.map_id rest']
          apply List.map_congr_left
          intro x hx
          obtain ⟨q, _, rfl⟩ := List.mem_map.1 (hall' x hx)
          rfl
        rw [← this]
      refine ⟨r2, hinj (hl.trans ?_)⟩
      rw [List.map_append, List.map_cons]
      exact List.Perm.append_left _ (List.Perm.cons _ hr2)
    obtain ⟨r2, hr2⟩ := hrest
    have hlen : r2.length < rest.length := by
      have h1 := hp.length_eq
      have h2 := hr2.length_eq
      simp only [List.length_append, List.length_cons] at h1 h2
      omega
    refine ⟨some (p, 0), true, hE, NilC.mk rfl ⟨y.ch, hblk.cell rfl, ?_⟩⟩
    have hc := hch p hpm
    have hcy : chOf σ.it p = y.ch := by simp only [chOf, hy]
    rw [hcy] at hc
    have hcr := cap_range hsn
    refine c70 hcr.1 hcr.2 hc.1 hc.2 ⟨_, hlen, seen ++ [p], r2, by simpa using I', by simpa using hr2, rfl, ?_, eh⟩
    rw [plusS_cap hsn hc.1 hc.2, List.map_append, sums_append]
    simp [sums, hcy]

end Go.V.Yteojmnnobmpdiaa
set_option linter.unusedVariables false
set_option linter.unusedSimpArgs false
/-! The cache: shards; what waits. -/
namespace Go.V.Yteojmnnobmpdiaa
open Go Go.V

theorem find_none {q : Nat → Bool} {l : List Nat} (h : ∀ p ∈ l, q p = false) : l.filter (fun p => !q p) = l := by
  rw [List.filter_eq_self]; intro p hp; simp [h p hp]

/-- The first element of a kind. -/
theorem c137 {h : Heap} {s : Slc} {l : List Nat} {v : Value} {q : Nat → Bool} (a : Arr 1 pF h s l) (hl : l.length ≤ 9223372036854775807)
    (hq : ∀ p ∈ l, ∀ R : Bool → Heap → Prop, R (q p) h → CallV Go.Proofs.Try.prog v [.lf (.ptr (some (p, 0)))] h [.one .bool] R)
    {R : Int → Heap → Prop} (k0 : (∀ p ∈ l, q p = false) → R (-1) h) (k1 : ∀ n (hn : n < l.length), (∀ p ∈ l.take n, q p = false) → q l[n] = true → R n h) :
    Call Go.Proofs.Try.prog 137 [.lf (.slc s), .lf (.raw v)] h [.one (.int .i64)] R := by
  have hlen := a.len
  refine ok137 ⟨fun i h' d => ∃ n : Nat, i = n ∧ n ≤ l.length ∧ d = l.length - n ∧ h' = h ∧ (∀ p ∈ l.take n, q p = false), ⟨_, 0, rfl, by omega, rfl, rfl, by simp⟩, ?_⟩
  rintro _ _ _ ⟨n, rfl, hn, rfl, rfl, hp⟩
  refine Br.dec (fun hi => ?_) fun hi => ?_
  · have hi' : n < l.length := by omega
    refine a.ix rfl (List.getElem?_eq_getElem hi') fun b o hc => ⟨_, hc, hq _ (List.getElem_mem hi') _ (Br.mk (fun ht => k1 n hi' hp ht) fun hf => ⟨_, ?_, n + 1, ?_, by omega, rfl, rfl, ?_⟩)⟩
    · show l.length - (n + 1) < l.length - n; omega
    · rw [wi64 (by omega) (by omega)]; rfl
    · intro p hpm
      rw [List.take_succ_eq_append_getElem hi'] at hpm
      rcases List.mem_append.1 hpm with hpm | hpm
      · exact hp p hpm
      · simp at hpm; rw [hpm]; exact hf
  · have : n = l.length := by omega
    subst this
    rw [List.take_length] at hp
    exact k0 hp

theorem filter_take_succ {q : Nat → Bool} {l : List Nat} {n : Nat} (hn : n < l.length) : (l.take (n + 1)).filter (fun p => !q p) = (l.take n).filter (fun p => !q p) ++ (if q l[n] = true then [] else [l[n]]) := by
  rw [List.take_succ_eq_append_getElem hn, List.filter_append]
  congr 1
  cases h : q l[n] <;> simp [h]

/-- Elements of a kind are taken out. -/
theorem c107 {h : Heap} {s : Slc} {l : List Nat} {v : Value} {q : Nat → Bool} (o : Own 1 pF h s l) (hl : l.length ≤ 9223372036854775806)
    (hq : ∀ h', h'.size = h.size → Ext (fun b => ∃ off, s.a = some (b, off)) h h' → ∀ p ∈ l, ∀ R : Bool → Heap → Prop, R (q p) h' → CallV Go.Proofs.Try.prog v [.lf (.ptr (some (p, 0)))] h' [.one .bool] R)
    {R : Slc → Heap → Prop} (k : ∀ s' h', h'.size = h.size → Own 1 pF h' s' (l.filter fun p => !q p) → Ext (fun b => ∃ off, s.a = some (b, off)) h h' → (s'.a = s.a) → R s' h') :
    Call Go.Proofs.Try.prog 107 [.lf (.slc s), .lf (.raw v)] h [.one .slc] R := by
  have hlen := o.len
  have hlec := o.lec
  refine ok107 (c137 (q := q) (o.arr pF_sized) (by omega) (hq h rfl (Ext.refl _ _)) (fun hall => Br.t rfl ?_) fun n hn hpre hqn => Br.f (by simp) ?_)
  · have := k s h rfl (by rw [find_none hall]; exact o) (Ext.refl _ _) rfl
    exact this
  · refine ⟨fun i j h' d => ∃ (a b : Nat) (L : List Nat), i = a ∧ j = b ∧ a ≤ b ∧ b ≤ l.length ∧ d = l.length - b ∧ h'.size = h.size ∧ Own 1 pF h' s L ∧ L.length = l.length ∧ L.take a = (l.take b).filter (fun p => !q p) ∧ L.drop b = l.drop b ∧ Ext (fun b => ∃ off, s.a = some (b, off)) h h',
      ⟨_, n, n + 1, l, rfl, by rw [wi64 (by omega) (by omega)]; rfl, by omega, by omega, rfl, rfl, o, rfl, ?_, rfl, Ext.refl _ _⟩, ?_⟩
    · rw [filter_take_succ hn, find_none hpre]; simp [hqn]
    rintro _ _ h6 _ ⟨a, b, L, rfl, rfl, hab, hbl, rfl, hsz, oL, hLl, hLt, hLd, e⟩
    refine Br.dec (fun hi => ?_) fun hi => ?_
    · have hi' : b < l.length := by omega
      have hLb : L[b]? = some l[b] := by
        have := congrArg (fun x => x[0]?) hLd
        simpa [List.getElem?_drop, List.getElem?_eq_getElem hi'] using this
      refine (oL.arr pF_sized).ix rfl hLb fun b1 o1 hc => ⟨_, hc, hq h6 hsz e _ (List.getElem_mem hi') _ (Br.not (fun hf => ?_) fun ht => ?_)⟩
      · refine IxC.set pF_sized oL (k := a) rfl (by omega) (x := l[b]) rfl fun h7 hs7 o7 e7 => ⟨_, ?_, a + 1, b + 1, _, ?_, ?_, by omega, by omega, rfl, by omega, o7, by simpa using hLl, ?_, ?_, e.trans e7⟩
        · show l.length - (b + 1) < l.length - b; omega
        · rw [wi64 (by omega) (by omega)]; rfl
        · rw [wi64 (by omega) (by omega)]; rfl
        · rw [filter_take_succ hi', ← hLt]
          simp only [hf, Bool.false_eq_true, if_false]
          have ha : a < L.length := by omega
          rw [List.take_succ_eq_append_getElem (by simpa using ha)]
          congr 1
          · rw [List.take_set_of_le (Nat.le_refl _)]
          · simp
        · rw [List.drop_set_of_lt (by omega)]
          have := congrArg (List.drop 1) hLd
          simpa [List.drop_drop, Nat.add_comm] using this
      · refine ⟨_, ?_, a, b + 1, L, rfl, ?_, by omega, by omega, rfl, hsz, oL, hLl, ?_, ?_, e⟩
        · show l.length - (b + 1) < l.length - b; omega
        · rw [wi64 (by omega) (by omega)]; rfl
        · rw [filter_take_succ hi', hLt]; simp [ht]
        · have := congrArg (List.drop 1) hLd
          simpa [List.drop_drop, Nat.add_comm] using this
    · have hbb : b = l.length := by omega
      subst hbb
      rw [List.take_length] at hLt
      have hac := oL.lec
      have hal := oL.len
      refine ⟨by omega, by omega, ?_⟩
      have ha : (a : Int).toNat = a := by simp
      rw [ha]
      refine ClrC.tail pF_sized oL (by omega) rfl fun h7 hs7 o7 e7 => ⟨by omega, by omega, k _ h7 (by omega) ?_ (e.trans e7) ?_⟩
      · rw [← hLt]; exact o7
      · unfold Slc.sub
        cases hsa : s.a with
        | none => simp
        | some p => simp

end Go.V.Yteojmnnobmpdiaa
set_option linter.unusedVariables false
set_option linter.unusedSimpArgs false
/-! The cache: an entry waits no more; an entry goes. -/
namespace Go.V.Yteojmnnobmpdiaa
open Go Go.V

theorem Blk.plain {h : Heap} {b : Nat} {t : TypeId} {cs : List Lf} (k : Blk h b t cs) : plainAt h b := ⟨_, _, k⟩

theorem ShR.ext' {h h' : Heap} {lab lab' : Nat → Option Lab} {i b im am : Nat} {ws : Slc} {s : Sh} {S : Nat → Prop} (r : ShR h lab i b im am ws s) (e : Ext S h h') (hs : ∀ x l, lab x = some l → (l = .sh i ∨ l = .im i ∨ l = .am i ∨ l = .wt i) → ¬ S x)
    (hl : ∀ x l, lab x = some l → lab' x = some l) : ShR h' lab' i b im am ws s :=
  ⟨r.blk.ext e (hs _ _ r.lb (.inl rfl)), r.ins.ext e (hs _ _ r.lim (.inr (.inl rfl))), r.all.ext e (hs _ _ r.lam (.inr (.inr (.inl rfl)))), r.waits.ext e fun ⟨x, o, hx, hS⟩ => hs _ _ (r.lws x o hx) (.inr (.inr (.inr rfl))) hS,
    hl _ _ r.lb, hl _ _ r.lim, hl _ _ r.lam, fun x o hx => hl _ _ (r.lws x o hx)⟩

/-- A part of the cache is put anew. -/
theorem CR.upd {h h' : Heap} {lab lab' : Nat → Option Lab} {c : Nat} {row : Slc} {pm : Nat} {bs : List Nat} {σ : CS} {S : Nat → Prop} {i b im am : Nat} {ws : Slc} {s' : Sh} (C : CR h lab c row pm bs σ) (e : Ext S h h')
    (hS : ∀ x l, lab x = some l → S x → l = .sh i ∨ l = .im i ∨ l = .am i ∨ l = .wt i) (hl : ∀ x l, lab x = some l → lab' x = some l) (hlt : ∀ x, lab' x ≠ none → x < h'.size) (hb : bs[i]? = some b)
    (S' : ShR h' lab' i b im am ws s') : CR h' lab' c row pm bs { σ with sh := σ.sh.set i s' } := by
  have no : ∀ x l, lab x = some l → ¬ (l = .sh i ∨ l = .im i ∨ l = .am i ∨ l = .wt i) → ¬ S x := fun x l hx hn hs => hn (hS x l hx hs)
  refine ⟨C.blk.ext e (no _ _ C.lc (by simp)), C.rowo.ext e fun ⟨x, o, hx, hs⟩ => no _ _ (C.lrow x o hx) (by simp) hs, by simpa using C.len, fun j s b' h1 h2 => ?_, C.pins.ext e (no _ _ C.lpm (by simp)),
    fun p x hp => ⟨(C.its p x hp).1.ext e (no _ _ (C.its p x hp).2.1 (by simp)), hl _ _ (C.its p x hp).2.1, (C.its p x hp).2.2⟩, hl _ _ C.lc, fun x o hx => hl _ _ (C.lrow x o hx), hl _ _ C.lpm, hlt, C.r0, C.r1, by simpa using C.n0, by simpa using C.n1⟩
  simp only [List.getElem?_set] at h1
  split at h1
  · rename_i hij
    subst hij
    split at h1
    · cases h1
      rw [hb] at h2; cases h2
      exact ⟨im, am, ws, S'⟩
    · cases h1
  · rename_i hij
    obtain ⟨im', am', ws', r⟩ := C.shs j s b' h1 h2
    refine ⟨im', am', ws', r.ext' e (fun x l hx hl' hs => ?_) hl⟩
    have := hS x l hx hs
    rcases hl' with rfl | rfl | rfl | rfl <;> simp at this <;> exact hij this.symm

/-- An entry is put anew. -/
theorem CR.setIt {h h' : Heap} {lab : Nat → Option Lab} {c : Nat} {row : Slc} {pm : Nat} {bs : List Nat} {σ : CS} {x : Nat} {X : It} (C : CR h lab c row pm bs σ) (e : Ext (fun i => i = x) h h') (hx : lab x = some .it) (k : Blk h' x 124 X.lfs) (ok : ItOk X) :
    CR h' lab c row pm bs { σ with it := fun p => if p = x then some X else σ.it p } := by
  have no : ∀ y l, lab y = some l → l ≠ .it → ¬ y = x := fun y l hy hn he => by subst he; rw [hx] at hy; cases hy; exact hn rfl
  refine ⟨C.blk.ext e (no _ _ C.lc (by simp)), C.rowo.ext e fun ⟨y, o, hy, hs⟩ => no _ _ (C.lrow y o hy) (by simp) hs, C.len, fun j s b' h1 h2 => ?_, C.pins.ext e (no _ _ C.lpm (by simp)),
    fun p Y hp => ?_, C.lc, C.lrow, C.lpm, fun y hy => Nat.lt_of_lt_of_le (C.lt y hy) e.size, C.r0, C.r1, C.n0, C.n1⟩
  · obtain ⟨im', am', ws', r⟩ := C.shs j s b' h1 h2
    exact ⟨im', am', ws', r.ext' e (fun y l hy hl' hs => no y l hy (by rcases hl' with rfl | rfl | rfl | rfl <;> simp) hs) fun _ _ k => k⟩
  · simp only at hp
    split at hp
    · rename_i hpx
      subst hpx
      cases hp
      exact ⟨k, hx, ok⟩
    · rename_i hpx
      exact ⟨(C.its p Y hp).1.ext e hpx, (C.its p Y hp).2⟩

/-- The test whether it is this entry. -/
theorem v108 {h : Heap} {b0 x p : Nat} {t : TypeId} (hb : Blk h b0 t [.ptr (some (x, 0))]) (hx : plainAt h x) (hp : plainAt h p) {R : Bool → Heap → Prop} (k : R (decide (p = x)) h) :
    CallV Go.Proofs.Try.prog (.func (.func 108) #[] #[.pointer (some ⟨b0, 0, none⟩)]) [.lf (.ptr (some (p, 0)))] h [.one .bool] R := by
  refine ⟨108, [], [.lf (.ptr (some (b0, 0)))], _, _, rfl, Go.Proofs.Try.func108, rfl, ok108 ⟨_, hb.cell rfl, .inr ⟨hp, hx⟩, ?_⟩⟩
  have : ptrEq (some (p, 0)) (some (x, 0)) = decide (p = x) := by
    unfold ptrEq
    rw [Bool.eq_iff_iff]; simp
  rwa [this]

/-- An entry waits no more. -/
theorem c75 {h : Heap} {lab : Nat → Option Lab} {c : Nat} {row : Slc} {pm : Nat} {bs : List Nat} {σ : CS} (C : CR h lab c row pm bs σ) {i b x : Nat} {s : Sh} (hs : σ.sh[i]? = some s) (hb : bs[i]? = some b)
    (hx : ∃ X, σ.it x = some X) (hw : ∀ p ∈ s.waits, ∃ X, σ.it p = some X) (hl : s.waits.length ≤ 4398046511104) {R : Heap → Prop}
    (k : ∀ h', CR h' lab c row pm bs { σ with sh := σ.sh.set i { s with waits := s.waits.filter fun p => !decide (p = x) } } → Ext (fun y => lab y = some (.sh i) ∨ lab y = some (.wt i)) h h' → R h') :
    Call Go.Proofs.Try.prog 75 [.lf (.ptr (some (b, 0))), .lf (.ptr (some (x, 0)))] h [] R := by
  obtain ⟨im, am, ws, S⟩ := C.shs i s b hs hb
  obtain ⟨X, hX⟩ := hx
  refine ok75 (New.mk fun b0 h1 hb0 hs1 e1 k1 => NilC.mk rfl ⟨ws, (S.blk.ext e1).cell rfl, ?_⟩)
  have C1 := C.ext0 e1
  have S1 := S.ext e1 fun _ _ _ k => k
  have hitems : ∀ {h'}, Ext (fun b => ∃ off, ws.a = some (b, off)) h1 h' → ∀ p X, σ.it p = some X → plainAt h' p := fun e p X hp => by
    have := C1.its p X hp
    exact Blk.plain (this.1.ext e fun ⟨o, ho⟩ => by have h2 := S1.lws p o ho; rw [this.2.1] at h2; cases h2)
  refine c107 (q := fun p => decide (p = x)) S1.waits (by omega) (fun h' hs' e p hp R hR => ?_) fun s' h' hs' o' e' ha' => ?_
  · obtain ⟨Y, hY⟩ := hw p hp
    refine v108 (k1.ext e ?_) (hitems e x X hX) (hitems e p Y hY) hR
    rintro ⟨o, ho⟩
    have := C.lt b0 (by rw [S.lws b0 o ho]; simp)
    omega
  · have hbw : ∀ o, ws.a ≠ some (b, o) := fun o ho => by have := S.lws b o ho; rw [S.lb] at this; cases this
    refine NilC.mk rfl (StC.one (S1.blk.ext e' fun ⟨o, ho⟩ => hbw o ho) (by simp) fun h2 hs2 k2 e2 => ?_)
    have e12 : Ext (fun y => lab y = some (.sh i) ∨ lab y = some (.wt i)) h h2 :=
      (e1.of0.trans (e'.mono fun y ⟨o, ho⟩ => .inr (S.lws y o ho))).trans (e2.mono fun y hy => .inl (by rw [show y = b from hy]; exact S.lb))
    refine k h2 (C.upd (lab' := lab) (im := im) (am := am) (ws := s') e12 (fun y l hy hS => ?_) (fun _ _ k => k) (fun y hy => Nat.lt_of_lt_of_le (C.lt y hy) e12.size) hb ⟨k2, ?_, ?_, ?_, S.lb, S.lim, S.lam, fun y o hy => S.lws y o (ha' ▸ hy)⟩) e12
    · rcases hS with hS | hS
      · rw [hS] at hy; cases hy; exact .inl rfl
      · rw [hS] at hy; cases hy; exact .inr (.inr (.inr rfl))
    · exact S.ins.ext e12 (by rw [S.lim]; simp)
    · exact S.all.ext e12 (by rw [S.lam]; simp)
    · exact o'.ext e2 fun ⟨y, o, hy, hyb⟩ => hbw o (by rw [← show y = b from hyb, ← ha']; exact hy)

end Go.V.Yteojmnnobmpdiaa
set_option linter.unusedVariables false
set_option linter.unusedSimpArgs false
/-! The cache: an entry goes; room is made. -/
namespace Go.V.Yteojmnnobmpdiaa
open Go Go.V

def CS.setSh (σ : CS) (i : Nat) (s : Sh) : CS := { σ with sh := σ.sh.set i s }
def CS.setIt (σ : CS) (x : Nat) (X : It) : CS := { σ with it := fun p => if p = x then some X else σ.it p }

/-- All that a part names is there. -/
structure Has (σ : CS) (s : Sh) : Prop where
  all : ∀ p ∈ s.all, ∃ X, σ.it p = some X
  waits : ∀ p ∈ s.waits, ∃ X, σ.it p = some X
  len : s.waits.length ≤ 4398046511104
  ins : ∀ e ∈ s.ins, ∃ X, σ.it e.2 = some X

theorem adel_all (x : Nat) : ∀ l : List Nat, adel .ptr (some (x, 0)) (l.map fun p => ((some (p, 0), true) : Option (Nat × Nat) × Bool)) = (l.erase x).map fun p => (some (p, 0), true)
  | [] => rfl
  | p :: l => by
    have hk : keq .ptr (some (x, 0)) ((some (p, 0), true) : Option (Nat × Nat) × Bool).1 = decide (x = p) := by
      show ptrEq _ _ = _
      unfold ptrEq
      rw [Bool.eq_iff_iff]; simp
    rw [List.map_cons, adel, hk]
    by_cases h : x = p
    · subst h; simp
    · have h' : ¬ (p == x) = true := by simpa using fun e : p = x => h e.symm
      rw [List.erase_cons_tail (by simpa using fun e : p = x => h e.symm)]
      simp only [h, decide_false, Bool.false_eq_true, if_false, List.map_cons, adel_all x l]

def goneS (σ : CS) (i : Nat) (s : Sh) (x : Nat) (X : It) : CS :=
  (if X.inn then σ.setIt x { X with inn := false } else σ).setSh i ⟨if X.inn then adel .str X.key s.ins else s.ins, s.all.erase x, s.waits.filter fun p => !decide (p = x)⟩

/-- The labels of a part of the cache. -/
def ofSh (lab : Nat → Option Lab) (i : Nat) (y : Nat) : Prop := lab y = some (.sh i) ∨ lab y = some (.im i) ∨ lab y = some (.am i) ∨ lab y = some (.wt i)

/-- An entry goes. -/
theorem c74 {h : Heap} {lab : Nat → Option Lab} {c : Nat} {row : Slc} {pm : Nat} {bs : List Nat} {σ : CS} (C : CR h lab c row pm bs σ) {i b x : Nat} {s : Sh} {X : It} (hs : σ.sh[i]? = some s) (hb : bs[i]? = some b)
    (hx : σ.it x = some X) (H : Has σ s) {R : Heap → Prop}
    (k : ∀ h', CR h' lab c row pm bs (goneS σ i s x X) → Ext (fun y => ofSh lab i y ∨ y = x) h h' → R h') :
    Call Go.Proofs.Try.prog 74 [.lf (.ptr (some (b, 0))), .lf (.ptr (some (x, 0)))] h [] R := by
  obtain ⟨im, am, ws, S⟩ := C.shs i s b hs hb
  have hi : i < σ.sh.length := by
    rcases Nat.lt_or_ge i σ.sh.length with h' | h'
    · exact h'
    · rw [List.getElem?_eq_none h'] at hs; cases hs
  have hit := C.its x X hx
  have hxl : ∀ y l, lab y = some l → l ≠ .it → y ≠ x := fun y l hy hn he => by subst he; rw [hit.2.1] at hy; cases hy; exact hn rfl
  have hpl : ∀ p ∈ s.all, plainAt h p := fun p hp => by obtain ⟨Y, hY⟩ := H.all p hp; exact Blk.plain (C.its p Y hY).1
  refine ok74 (NilC.mk rfl ⟨some am, S.blk.cell rfl, S.all.del (k := some (x, 0)) ?_ fun h1 hs1 M1 e1 => ?_⟩)
  · intro y hy
    obtain ⟨p, hp, rfl⟩ := List.mem_map.1 hy
    exact .inr ⟨Blk.plain hit.1, hpl p hp⟩
  rw [adel_all] at M1
  have e1' : Ext (fun y => lab y = some (.am i)) h h1 := e1.mono fun y hy => by rw [show y = am from hy]; exact S.lam
  have noam : ∀ y l, lab y = some l → l ≠ .am i → ¬ lab y = some (.am i) := fun y l hy hn he => by rw [hy] at he; cases he; exact hn rfl
  have S1 : ShR h1 lab i b im am ws { s with all := s.all.erase x } :=
    ⟨S.blk.ext e1' (noam _ _ S.lb (by simp)), S.ins.ext e1' (noam _ _ S.lim (by simp)), M1, S.waits.ext e1' fun ⟨y, o, hy, hY⟩ => noam _ _ (S.lws y o hy) (by simp) hY, S.lb, S.lim, S.lam, S.lws⟩
  have C1 := C.upd (lab' := lab) (s' := { s with all := s.all.erase x }) e1' (fun y l hy hS => by rw [hy] at hS; cases hS; exact .inr (.inr (.inl rfl))) (fun _ _ k => k) (fun y hy => by rw [hs1]; exact C.lt y hy) hb S1
  have hit1 := C1.its x X hx
  have hs1' : (σ.sh.set i { s with all := s.all.erase x })[i]? = some { s with all := s.all.erase x } := by simp [hi]
  refine NilC.mk rfl ⟨X.inn, hit1.1.cell rfl, Br.mk (fun hin => ?_) fun hin => ?_⟩
  · refine NilC.mk rfl ⟨some im, S1.blk.cell rfl, NilC.mk rfl ⟨X.key, hit1.1.cell rfl, S1.ins.del (k := X.key) trivial fun h2 hs2 M2 e2 => ?_⟩⟩
    have e2' : Ext (fun y => lab y = some (.im i)) h1 h2 := e2.mono fun y hy => by rw [show y = im from hy]; exact S.lim
    have noim : ∀ y l, lab y = some l → l ≠ .im i → ¬ lab y = some (.im i) := fun y l hy hn he => by rw [hy] at he; cases he; exact hn rfl
    have S2 : ShR h2 lab i b im am ws { s with all := s.all.erase x, ins := adel .str X.key s.ins } :=
      ⟨S1.blk.ext e2' (noim _ _ S.lb (by simp)), M2, S1.all.ext e2' (noim _ _ S.lam (by simp)), S1.waits.ext e2' fun ⟨y, o, hy, hY⟩ => noim _ _ (S.lws y o hy) (by simp) hY, S.lb, S.lim, S.lam, S.lws⟩
    have C2 := C1.upd (lab' := lab) (s' := { s with all := s.all.erase x, ins := adel .str X.key s.ins }) e2' (fun y l hy hS => by rw [hy] at hS; cases hS; exact .inr (.inl rfl)) (fun _ _ k => k) (fun y hy => by rw [hs2]; exact C1.lt y hy) hb S2
    simp only [List.set_set] at C2
    refine NilC.mk rfl (StC.one (C2.its x X hx).1 (by simp [It.lfs]) fun h3 hs3 k3 e3 => ?_)
    have C3 := C2.setIt (X := { X with inn := false }) e3 hit.2.1 k3 ⟨hit.2.2.v0, hit.2.2.v1, hit.2.2.c0, hit.2.2.c1⟩
    refine c75 C3 (s := { s with all := s.all.erase x, ins := adel .str X.key s.ins }) (by simp [hi]) hb ⟨{ X with inn := false }, by simp⟩ (fun p hp => ?_) H.len fun h4 C4 e4 => k h4 ?_ ?_
    · obtain ⟨Y, hY⟩ := H.waits p hp
      by_cases hpx : p = x
      · exact ⟨{ X with inn := false }, by simp [hpx]⟩
      · exact ⟨Y, by simp [hpx, hY]⟩
    · simp only [List.set_set] at C4
      simp only [goneS, hin, if_true, CS.setIt, CS.setSh]
      exact C4
    · exact (((e1'.mono fun y hy => .inl (.inr (.inr (.inl hy)))).trans (e2'.mono fun y hy => .inl (.inr (.inl hy)))).trans (e3.mono fun y hy => .inr hy)).trans (e4.mono fun y hy => .inl (hy.elim .inl fun h => .inr (.inr (.inr h))))
  · refine c75 C1 (s := { s with all := s.all.erase x }) hs1' hb ⟨X, hx⟩ (fun p hp => H.waits p hp) H.len fun h4 C4 e4 => k h4 ?_ ?_
    · simp only [List.set_set] at C4
      simp only [goneS, hin, CS.setSh, Bool.false_eq_true, if_false]
      exact C4
    · exact (e1'.mono fun y hy => .inl (.inr (.inr (.inl hy)))).trans (e4.mono fun y hy => .inl (hy.elim .inl fun h => .inr (.inr (.inr h))))

end Go.V.Yteojmnnobmpdiaa
set_option linter.unusedVariables false
set_option linter.unusedSimpArgs false
/-! The cache: room is made; a shard is found; an entry is taken out, pinned. -/
namespace Go.V.Yteojmnnobmpdiaa
open Go Go.V

def makesS (i : Nat) (more room : Int) : Nat → CS → CS
  | 0, σ => σ
  | n + 1, σ => match σ.sh[i]? with
    | some s => (match s.waits with
      | [] => σ
      | x :: _ => if plusS (usedS σ.it s) more > room then (match σ.it x with | some X => makesS i more room n (goneS σ i s x X) | none => σ) else σ)
    | none => σ

/-- The blocks of a part of the cache, and of entries. -/
def ofShIt (lab : Nat → Option Lab) (i : Nat) (y : Nat) : Prop := ofSh lab i y ∨ lab y = some .it

theorem goneS_sh {σ : CS} {i : Nat} {s : Sh} {x : Nat} {X : It} (hs : σ.sh[i]? = some s) :
    (goneS σ i s x X).sh[i]? = some ⟨if X.inn then adel .str X.key s.ins else s.ins, s.all.erase x, s.waits.filter fun p => !decide (p = x)⟩ := by
  have hi : i < σ.sh.length := by
    rcases Nat.lt_or_ge i σ.sh.length with h' | h'
    · exact h'
    · rw [List.getElem?_eq_none h'] at hs; cases hs
  unfold goneS CS.setSh CS.setIt
  split <;> simp [hi]
theorem goneS_it {σ : CS} {i : Nat} {s : Sh} {x : Nat} {X : It} (hx : σ.it x = some X) (p : Nat) : (goneS σ i s x X).it p = if p = x then some { X with inn := false } else σ.it p := by
  unfold goneS CS.setSh CS.setIt
  split
  · rfl
  · rename_i h
    simp only
    split
    · rename_i hp; subst hp; rw [hx]; congr 1; cases X; simp at h; simp [h]
    · rfl
theorem goneS_has {σ : CS} {i : Nat} {s : Sh} {x : Nat} {X : It} (hx : σ.it x = some X) {p : Nat} (h : ∃ Y, σ.it p = some Y) : ∃ Y, (goneS σ i s x X).it p = some Y := by
  rw [goneS_it hx]
  split
  · exact ⟨_, rfl⟩
  · exact h
theorem goneS_Has {σ : CS} {i : Nat} {s : Sh} {x : Nat} {X : It} (hx : σ.it x = some X) (H : Has σ s) :
    Has (goneS σ i s x X) ⟨if X.inn then adel .str X.key s.ins else s.ins, s.all.erase x, s.waits.filter fun p => !decide (p = x)⟩ :=
  ⟨fun p hp => goneS_has hx (H.all p (List.erase_subset hp)), fun p hp => goneS_has hx (H.waits p ((List.mem_filter.1 hp).1)), Nat.le_trans (List.length_filter_le ..) H.len, fun e he => goneS_has hx (H.ins e (by
    split at he
    · exact (adel_sub _).subset he
    · exact he))⟩

theorem c68 {h : Heap} {lab : Nat → Option Lab} {c : Nat} {row : Slc} {pm : Nat} {bs : List Nat} {σ : CS} (C : CR h lab c row pm bs σ) {i b : Nat} {s : Sh} (hs : σ.sh[i]? = some s) (hb : bs[i]? = some b)
    (H : Has σ s) {more room : Int} (m0 : 0 ≤ more) (m1 : more ≤ big) {R : Heap → Prop}
    (k : ∀ h', CR h' lab c row pm bs (makesS i more room s.waits.length σ) → Ext (ofShIt lab i) h h' → R h') :
    Call Go.Proofs.Try.prog 68 [.lf (.ptr (some (b, 0))), .lf (.int .u64 more), .lf (.int .u64 room)] h [] R := by
  refine ok68 ⟨fun h' d => ∃ σ' s', CR h' lab c row pm bs σ' ∧ σ'.sh[i]? = some s' ∧ Has σ' s' ∧ s'.waits.length ≤ d ∧ makesS i more room d σ' = makesS i more room s.waits.length σ ∧ Ext (ofShIt lab i) h h', ⟨_, σ, s, C, hs, H, Nat.le_refl _, rfl, Ext.refl _ _⟩, ?_⟩
  rintro h2 d ⟨σ', s', C', hs', H', hd, hm, e⟩
  obtain ⟨im, am, ws, S⟩ := C'.shs i s' b hs' hb
  have hlen := S.waits.len
  refine ⟨fun h' => ∃ (x : Nat) (rest : List Nat) (X : It), s'.waits = x :: rest ∧ CR h' lab c row pm bs σ' ∧ Ext (ofShIt lab i) h h' ∧ plusS (usedS σ'.it s') more > room ∧ σ'.it x = some X, ?_, ?_⟩
  · refine NilC.mk rfl ⟨ws, S.blk.cell rfl, Br.dec (fun hpos => ?_) fun hneg => ?_⟩
    · obtain ⟨x, rest, hw⟩ : ∃ x rest, s'.waits = x :: rest := by
        cases hww : s'.waits with
        | nil => rw [hww] at hlen; simp at hlen; omega
        | cons x rest => exact ⟨x, rest, rfl⟩
      obtain ⟨X, hX⟩ := H'.waits x (by rw [hw]; exact List.mem_cons_self ..)
      refine c71 C' hs' hb H'.all fun h9 e9 => ?_
      have hur : 0 ≤ usedS σ'.it s' ∧ usedS σ'.it s' ≤ big := cap_range (sums_nonneg fun y hy => by
        obtain ⟨p, hp, rfl⟩ := List.mem_map.1 hy
        obtain ⟨Y, hY⟩ := H'.all p hp
        simp only [chOf, hY]; exact (C'.its p Y hY).2.2.c0)
      refine c70 hur.1 hur.2 m0 m1 (Br.dec (fun hgt => ⟨x, rest, X, hw, C'.ext0 e9, e.then0 e9, hgt, hX⟩) fun hle => ?_)
      refine k h9 ?_ (e.then0 e9)
      rw [← hm]
      cases d with
      | zero => exact C'.ext0 e9
      | succ d => simp only [makesS, hs', hw, hle, if_false]; exact C'.ext0 e9
    · have hw : s'.waits = [] := List.length_eq_zero_iff.1 (by omega)
      refine k h2 ?_ e
      rw [← hm]
      cases d with
      | zero => exact C'
      | succ d => simp only [makesS, hs', hw]; exact C'
  · rintro h12 ⟨x, rest, X, hw, C2, e2, hgt, hX⟩
    obtain ⟨im, am, ws, S⟩ := C2.shs i s' b hs' hb
    refine NilC.mk rfl ⟨ws, S.blk.cell rfl, (S.waits.arr pF_sized).ix (k := 0) rfl (by rw [hw]; rfl) fun b1 o1 hc => ⟨_, hc, c74 C2 hs' hb hX H' fun h19 C3 e3 => ?_⟩⟩
    have hxl := (C2.its x X hX).2.1
    have hfl : (s'.waits.filter fun p => !decide (p = x)).length ≤ rest.length := by
      rw [hw, List.filter_cons]
      simp only [decide_true, Bool.not_true, Bool.false_eq_true, if_false]
      exact List.length_filter_le ..
    have hwl : s'.waits.length = rest.length + 1 := by rw [hw]; rfl
    obtain ⟨n, rfl⟩ : ∃ n, d = n + 1 := ⟨d - 1, by omega⟩
    refine ⟨n, by omega, _, _, C3, goneS_sh hs', goneS_Has hX H', by simp only; omega, ?_, e2.trans (e3.mono fun y hy => hy.imp id fun h => by rw [h]; exact hxl)⟩
    rw [← hm]
    simp only [makesS, hs', hw, hgt, if_true, hX]

/-! ### Which shard -/
def shash (l : List UInt8) : Int := l.foldl (fun n c => IntKind.wrap .u32 (bitop .u32 .xor n (IntKind.wrap .u32 (c.toNat : Int)) * 16777619)) 2166136261
def shardOf (n : Nat) (key : ByteArray) : Nat := (shash key.data.toList).toNat % n

theorem wrap32_range (n : Int) : 0 ≤ IntKind.wrap .u32 n ∧ IntKind.wrap .u32 n < 4294967296 := by
  rw [IntKind.wrap_u32]; omega
theorem shash_range (l : List UInt8) : 0 ≤ shash l ∧ shash l < 4294967296 := by
  rcases List.eq_nil_or_concat l with rfl | ⟨m, c, rfl⟩
  · exact ⟨by decide, by decide⟩
  · unfold shash
    rw [List.concat_eq_append, List.foldl_append]
    exact wrap32_range _
theorem shardOf_lt {n : Nat} (hn : 1 ≤ n) (key : ByteArray) : shardOf n key < n := Nat.mod_lt _ hn

theorem c18 {h : Heap} {lab : Nat → Option Lab} {c : Nat} {row : Slc} {pm : Nat} {bs : List Nat} {σ : CS} (C : CR h lab c row pm bs σ) {key : ByteArray} (hk : key.size ≤ 9223372036854775807) {R : Int → Heap → Prop}
    (k : ∀ h', Ext0 h h' → R (shardOf σ.sh.length key : Nat) h') : Call Go.Proofs.Try.prog 18 [.lf (.ptr (some (c, 0))), .lf (.str key)] h [.one (.int .i64)] R := by
  have hn0 := C.n0
  have hn1 := C.n1
  refine ok18 (S2B.mk (f := bF) (fun _ => rfl) fun s0 h1 a1 e1 _ => ?_)
  have hlen := a1.len
  have hksz : key.data.toList.length = key.size := rfl
  refine ⟨fun n i h' d => ∃ m : Nat, i = m ∧ m ≤ key.size ∧ d = key.size - m ∧ h' = h1 ∧ n = shash (key.data.toList.take m), ⟨_, 0, rfl, by omega, rfl, rfl, rfl⟩, ?_⟩
  rintro _ _ _ _ ⟨m, rfl, hm, rfl, rfl, rfl⟩
  refine Br.dec (fun hi => ?_) fun hi => ?_
  · have hi' : m < key.data.toList.length := by omega
    refine a1.ix rfl (List.getElem?_eq_getElem hi') fun b o hc => ⟨_, hc, _, ?_, m + 1, ?_, by omega, rfl, rfl, ?_⟩
    · show key.size - (m + 1) < key.size - m; omega
    · rw [wi64 (by omega) (by omega)]; rfl
    · rw [List.take_succ_eq_append_getElem hi']; unfold shash; rw [List.foldl_append]; rfl
  · have : m = key.size := by omega
    subst this
    rw [← hksz, List.take_length]
    have hr := shash_range key.data.toList
    have hrl := (C.rowo.ext0 e1).len
    have hcl := C.len
    have hw : IntKind.wrap .u32 ((row.len : Nat) : Int) = (row.len : Int) := wu32 (by omega) (by omega)
    have hsl : row.len = σ.sh.length := by omega
    refine NilC.mk rfl ⟨row, (C.blk.ext e1).cell rfl, ?_, ?_⟩
    · rw [hw]; omega
    · rw [hw, hsl]
      obtain ⟨q, hq⟩ := Int.eq_ofNat_of_zero_le hr.1
      have := k _ e1
      unfold shardOf at this
      rw [hq] at this ⊢
      have hmod : Int.tmod (q : Int) ((σ.sh.length : Nat) : Int) = ((q % σ.sh.length : Nat) : Int) := by
        rw [Int.tmod_eq_emod_of_nonneg (by omega)]; rfl
      rw [hmod, wi64 (by omega) (by have := Nat.mod_lt q (show 0 < σ.sh.length by omega); omega)]
      simpa using this

/-- The shard of a key. -/
theorem c67 {h : Heap} {lab : Nat → Option Lab} {c : Nat} {row : Slc} {pm : Nat} {bs : List Nat} {σ : CS} (C : CR h lab c row pm bs σ) {key : ByteArray} (hk : key.size ≤ 9223372036854775807) {R : Option (Nat × Nat) → Heap → Prop}
    (k : ∀ h' b s, Ext0 h h' → bs[shardOf σ.sh.length key]? = some b → σ.sh[shardOf σ.sh.length key]? = some s → R (some (b, 0)) h') : Call Go.Proofs.Try.prog 67 [.lf (.ptr (some (c, 0))), .lf (.str key)] h [.one .ptr] R := by
  have hlt := shardOf_lt C.n0 key
  have hcl := C.len
  refine ok67 (NilC.mk rfl ⟨row, C.blk.cell rfl, c18 C hk fun h4 e4 => ⟨(C.blk.ext e4).cell rfl, ?_⟩⟩)
  refine ((C.rowo.arr pF_sized).ext0 e4).ix rfl (List.getElem?_eq_getElem (by omega)) fun b o hc => ⟨_, hc, k h4 _ _ e4 (List.getElem?_eq_getElem (by omega)) (List.getElem?_eq_getElem hlt)⟩

/-- A shard's room. -/
def share (σ : CS) : Int := σ.room / (σ.sh.length : Int)
theorem c69 {h : Heap} {lab : Nat → Option Lab} {c : Nat} {row : Slc} {pm : Nat} {bs : List Nat} {σ : CS} (C : CR h lab c row pm bs σ) {R : Int → Heap → Prop} (k : R (share σ) h) :
    Call Go.Proofs.Try.prog 69 [.lf (.ptr (some (c, 0)))] h [.one (.int .u64)] R := by
  have hn0 := C.n0
  have hn1 := C.n1
  have hcl := C.len
  have hrl := C.rowo.len
  have r0 := C.r0
  have r1 : σ.room ≤ 18446744073709551615 := C.r1
  have hsl : row.len = σ.sh.length := by omega
  have hw : IntKind.wrap .u64 ((row.len : Nat) : Int) = (row.len : Int) := wu64 (by omega) (by omega)
  refine ok69 (NilC.mk rfl ⟨_, C.blk.cell rfl, NilC.mk rfl ⟨row, C.blk.cell rfl, ?_, ?_⟩⟩)
  · rw [hw]; omega
  · rw [hw, hsl, Int.tdiv_eq_ediv_of_nonneg r0]
    have h1 : 0 ≤ σ.room / (σ.sh.length : Int) := Int.ediv_nonneg r0 (by omega)
    have h2 : σ.room / (σ.sh.length : Int) ≤ σ.room := Int.ediv_le_self _ r0
    rw [wu64 h1 (by omega)]
    exact k

end Go.V.Yteojmnnobmpdiaa
set_option linter.unusedVariables false
set_option linter.unusedSimpArgs false
/-! The cache: an entry is taken out, pinned; a pin's value. -/
namespace Go.V.Yteojmnnobmpdiaa
open Go Go.V

def outS (σ : CS) (i : Nat) (s : Sh) (x : Nat) (X : It) : CS :=
  let s1 : Sh := { s with ins := adel .str X.key s.ins }
  let σ1 := (σ.setIt x { X with inn := false }).setSh i s1
  if X.pins = 0 then goneS σ1 i s1 x { X with inn := false } else σ1

theorem c72 {h : Heap} {lab : Nat → Option Lab} {c : Nat} {row : Slc} {pm : Nat} {bs : List Nat} {σ : CS} (C : CR h lab c row pm bs σ) {i b x : Nat} {s : Sh} {X : It} (hs : σ.sh[i]? = some s) (hb : bs[i]? = some b)
    (hx : σ.it x = some X) (H : Has σ s) {R : Heap → Prop}
    (k : ∀ h', CR h' lab c row pm bs (outS σ i s x X) → Ext (ofShIt lab i) h h' → R h') :
    Call Go.Proofs.Try.prog 72 [.lf (.ptr (some (b, 0))), .lf (.ptr (some (x, 0)))] h [] R := by
  obtain ⟨im, am, ws, S⟩ := C.shs i s b hs hb
  have hi : i < σ.sh.length := by
    rcases Nat.lt_or_ge i σ.sh.length with h' | h'
    · exact h'
    · rw [List.getElem?_eq_none h'] at hs; cases hs
  have hit := C.its x X hx
  refine ok72 (NilC.mk rfl ⟨some im, S.blk.cell rfl, NilC.mk rfl ⟨X.key, hit.1.cell rfl, S.ins.del (k := X.key) trivial fun h2 hs2 M2 e2 => ?_⟩⟩)
  have e2' : Ext (fun y => lab y = some (.im i)) h h2 := e2.mono fun y hy => by rw [show y = im from hy]; exact S.lim
  have noim : ∀ y l, lab y = some l → l ≠ .im i → ¬ lab y = some (.im i) := fun y l hy hn he => by rw [hy] at he; cases he; exact hn rfl
  have S2 : ShR h2 lab i b im am ws { s with ins := adel .str X.key s.ins } :=
    ⟨S.blk.ext e2' (noim _ _ S.lb (by simp)), M2, S.all.ext e2' (noim _ _ S.lam (by simp)), S.waits.ext e2' fun ⟨y, o, hy, hY⟩ => noim _ _ (S.lws y o hy) (by simp) hY, S.lb, S.lim, S.lam, S.lws⟩
  have C2 := C.upd (lab' := lab) (s' := { s with ins := adel .str X.key s.ins }) e2' (fun y l hy hS => by rw [hy] at hS; cases hS; exact .inr (.inl rfl)) (fun _ _ k => k) (fun y hy => by rw [hs2]; exact C.lt y hy) hb S2
  refine NilC.mk rfl (StC.one (C2.its x X hx).1 (by simp [It.lfs]) fun h3 hs3 k3 e3 => ?_)
  have C3 := C2.setIt (X := { X with inn := false }) e3 hit.2.1 k3 ⟨hit.2.2.v0, hit.2.2.v1, hit.2.2.c0, hit.2.2.c1⟩
  have e23 : Ext (ofShIt lab i) h h3 := (e2'.mono fun y hy => .inl (.inr (.inl hy))).trans (e3.mono fun y hy => .inr (by rw [show y = x from hy]; exact hit.2.1))
  have C3' : CR h3 lab c row pm bs ((σ.setIt x { X with inn := false }).setSh i { s with ins := adel .str X.key s.ins }) := C3
  have hx3 : ((σ.setIt x { X with inn := false }).setSh i { s with ins := adel .str X.key s.ins }).it x = some { X with inn := false } := by simp [CS.setIt, CS.setSh]
  refine NilC.mk rfl ⟨X.pins, (C3'.its x _ hx3).1.cell rfl, Br.eq (fun h0 => ?_) fun h0 => ?_⟩
  · have has : ∀ p, (∃ Y, σ.it p = some Y) → ∃ Y, ((σ.setIt x { X with inn := false }).setSh i { s with ins := adel .str X.key s.ins }).it p = some Y := fun p ⟨Y, hY⟩ => by
      simp only [CS.setIt, CS.setSh]
      split
      · exact ⟨_, rfl⟩
      · exact ⟨Y, hY⟩
    refine c74 C3' (s := { s with ins := adel .str X.key s.ins }) (by simp [CS.setIt, CS.setSh, hi]) hb hx3 ⟨fun p hp => has p (H.all p hp), fun p hp => has p (H.waits p hp), H.len, fun e he => has e.2 (H.ins e ((adel_sub _).subset he))⟩ fun h4 C4 e4 => k h4 ?_ ?_
    · unfold outS; rw [if_pos h0]; exact C4
    · exact e23.trans (e4.mono fun y hy => hy.imp id fun h => by rw [h]; exact hit.2.1)
  · refine k h3 ?_ e23
    unfold outS; rw [if_neg h0]; exact C3'

def pinS (σ : CS) (x : Nat) (X : It) : CS :=
  { σ.setIt x { X with pins := X.pins + 1 } with last := σ.last + 1, pins := aput (.int .i64) (σ.last + 1) x σ.pins }

theorem c73 {h : Heap} {lab : Nat → Option Lab} {c : Nat} {row : Slc} {pm : Nat} {bs : List Nat} {σ : CS} (C : CR h lab c row pm bs σ) {x : Nat} {X : It} (hx : σ.it x = some X)
    (l0 : 0 ≤ σ.last) (l1 : σ.last ≤ 4611686018427387904) (p0 : -4611686018427387904 ≤ X.pins) (p1 : X.pins ≤ 4611686018427387904) {R : Int → Heap → Prop}
    (k : ∀ h', CR h' lab c row pm bs (pinS σ x X) → Ext (fun y => lab y = some .c ∨ lab y = some .pm ∨ lab y = some .it) h h' → R (σ.last + 1) h') :
    Call Go.Proofs.Try.prog 73 [.lf (.ptr (some (c, 0))), .lf (.ptr (some (x, 0)))] h [.one (.int .i64)] R := by
  have hit := C.its x X hx
  refine ok73 (NilC.mk rfl ⟨X.pins, hit.1.cell rfl, NilC.mk rfl ?_⟩)
  rw [wi64 (by omega) (by omega)]
  refine StC.one hit.1 (by simp [It.lfs]) fun h1 hs1 k1 e1 => ?_
  have C1 := C.setIt (X := { X with pins := X.pins + 1 }) e1 hit.2.1 k1 ⟨hit.2.2.v0, hit.2.2.v1, hit.2.2.c0, hit.2.2.c1⟩
  refine NilC.mk rfl ⟨σ.last, C1.blk.cell rfl, NilC.mk rfl ?_⟩
  rw [wi64 (by omega) (by omega)]
  refine StC.one C1.blk (by simp) fun h2 hs2 k2 e2 => ?_
  have e2' : Ext (fun y => lab y = some .c) h1 h2 := e2.mono fun y hy => by rw [show y = c from hy]; exact C.lc
  have noc : ∀ y l, lab y = some l → l ≠ .c → ¬ lab y = some .c := fun y l hy hn he => by rw [hy] at he; cases he; exact hn rfl
  refine NilC.mk rfl ⟨some pm, k2.cell rfl, NilC.mk rfl ⟨σ.last + 1, k2.cell rfl, ?_⟩⟩
  refine (C1.pins.ext e2' (noc _ _ C.lpm (by simp))).put (v := x) trivial trivial rfl fun h3 hs3 M3 e3 => ?_
  have e3' : Ext (fun y => lab y = some .pm) h2 h3 := e3.mono fun y hy => by rw [show y = pm from hy]; exact C.lpm
  have nopm : ∀ y l, lab y = some l → l ≠ .pm → ¬ lab y = some .pm := fun y l hy hn he => by rw [hy] at he; cases he; exact hn rfl
  have k3 := k2.ext e3' (nopm _ _ C.lc (by simp))
  refine NilC.mk rfl ⟨σ.last + 1, k3.cell rfl, k h3 ?_ ?_⟩
  · have e23 : Ext (fun y => lab y = some .c ∨ lab y = some .pm) h1 h3 := (e2'.mono fun y hy => .inl hy).trans (e3'.mono fun y hy => .inr hy)
    have no : ∀ y l, lab y = some l → l ≠ .c → l ≠ .pm → ¬ (lab y = some .c ∨ lab y = some .pm) := fun y l hy h1 h2 hh => hh.elim (noc y l hy h1) (nopm y l hy h2)
    exact ⟨k3, C1.rowo.ext e23 fun ⟨y, o, hy, hS⟩ => no _ _ (C.lrow y o hy) (by simp) (by simp) hS, C.len,
      fun j s' b' h4 h5 => by
        obtain ⟨im', am', ws', r⟩ := C1.shs j s' b' h4 h5
        exact ⟨im', am', ws', r.ext' e23 (fun y l hy hl => no y l hy (by rcases hl with rfl | rfl | rfl | rfl <;> simp) (by rcases hl with rfl | rfl | rfl | rfl <;> simp)) fun _ _ k => k⟩,
      M3, fun p Y hp => ⟨(C1.its p Y hp).1.ext e23 (no _ _ (C1.its p Y hp).2.1 (by simp) (by simp)), (C1.its p Y hp).2⟩, C.lc, C.lrow, C.lpm,
      fun y hy => Nat.lt_of_lt_of_le (C1.lt y hy) e23.size, C.r0, C.r1, C.n0, C.n1⟩
  · exact ((e1.mono fun y hy => .inr (.inr (by rw [show y = x from hy]; exact hit.2.1))).trans (e2'.mono fun y hy => .inl hy)).trans (e3'.mono fun y hy => .inr (.inl hy))

/-- A pin's value. -/
theorem c23 {h : Heap} {lab : Nat → Option Lab} {c : Nat} {row : Slc} {pm : Nat} {bs : List Nat} {σ : CS} (C : CR h lab c row pm bs σ) {n : Int} {R : Int → Int → Heap → Prop}
    (k0 : (∀ y ∈ σ.pins, y.1 ≠ n) → R 0 111 h) (k1 : ∀ x, (n, x) ∈ σ.pins → ∃ X, σ.it x = some X ∧ R X.v 0 h) :
    Call Go.Proofs.Try.prog 23 [.lf (.ptr (some (c, 0))), .lf (.int .i64 n)] h [.one (.int .u64), .one (.int .i64)] R := by
  refine ok23 (NilC.mk rfl ⟨some pm, C.blk.cell rfl, ?_⟩)
  by_cases hm : ∃ x, (n, x) ∈ σ.pins
  · obtain ⟨x, hx⟩ := hm
    obtain ⟨X, hX, hR⟩ := k1 x hx
    exact ⟨some (x, 0), true, C.pins.hit trivial hx trivial _ rfl, Br.f rfl (NilC.mk rfl ⟨X.v, (C.its x X hX).1.cell rfl, hR⟩)⟩
  · have hm' : ∀ y ∈ σ.pins, y.1 ≠ n := fun y hy he => hm ⟨y.2, by rw [← he]; exact hy⟩
    exact ⟨none, false, C.pins.miss trivial hm' trivial _, Br.t rfl (k0 hm')⟩

end Go.V.Yteojmnnobmpdiaa
