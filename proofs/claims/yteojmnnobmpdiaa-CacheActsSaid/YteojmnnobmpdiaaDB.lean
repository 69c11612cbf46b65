/- This text proves a part of the laws of seat Yteojmnnobmpdiaa, under no condition: D11a D11b D11c D11d. -/
import Derived.Test.YteojmnnobmpdiaaDA
import Derived.Test.YteojmnnobmpdiaaCK
set_option linter.unusedVariables false
set_option linter.unusedSimpArgs false
/-! The document's cache in memory. -/
namespace Go.V.Yteojmnnobmpdiaa
open Go Go.V

inductive DL where
  | c | lr | wr | pn | it | ro

def slF (s : Slc) : List Lf := [.slc s]
theorem slF_sized : Sized 1 slF := fun _ => rfl
def opF (p : Option Nat) : List Lf := [.ptr (p.map fun x => (x, 0))]
theorem opF_sized : Sized 1 opF := fun _ => rfl

/-- The rows of the document's cache. -/
structure DV where
  sl : Slc
  sw : Slc
  sp : Slc
  Ls : List Slc
  Ws : List Slc
  P : List (Option Nat)

def isRo (lab : Nat → Option DL) (s : Slc) : Prop := ∀ b o, s.a = some (b, o) → lab b = some .ro

/-- The document's cache in memory: what the state says, but for the keys that are in. -/
structure DR (h : Heap) (lab : Nat → Option DL) (c : Nat) (V : DV) (σ : CS) : Prop where
  blk : Blk h c 129 [.int .i64 (σ.sh.length : Nat), .int .u64 σ.room, .bool σ.strict, .slc V.sl, .slc V.sw, .slc V.sp]
  lo : Own 1 slF h V.sl V.Ls
  wo : Own 1 slF h V.sw V.Ws
  po : Own 1 opF h V.sp V.P
  ll : V.Ls.length = σ.sh.length
  wl : V.Ws.length = σ.sh.length
  ls : ∀ (i : Nat) (s : Sh) (x : Slc), σ.sh[i]? = some s → V.Ls[i]? = some x → Arr 1 pF h x s.all ∧ isRo lab x
  ws : ∀ (i : Nat) (s : Sh) (x : Slc), σ.sh[i]? = some s → V.Ws[i]? = some x → Arr 1 pF h x s.waits ∧ isRo lab x
  its : ∀ p x, σ.it p = some x → Blk h p 133 x.lfs ∧ lab p = some .it
  pin : ∀ n x, (n, x) ∈ σ.pins ↔ 1 ≤ n ∧ V.P[(n - 1).toNat]? = some (some x)
  last : σ.last = V.P.length
  lc : lab c = some .c
  llr : ∀ b o, V.sl.a = some (b, o) → lab b = some .lr
  lwr : ∀ b o, V.sw.a = some (b, o) → lab b = some .wr
  lpn : ∀ b o, V.sp.a = some (b, o) → lab b = some .pn
  lt : ∀ b, lab b ≠ none → b < h.size
  r0 : 0 ≤ σ.room
  r1 : σ.room ≤ big
  n0 : 1 ≤ σ.sh.length
  n1 : σ.sh.length ≤ 64

theorem DR.ext {h h' : Heap} {lab : Nat → Option DL} {c : Nat} {V : DV} {σ : CS} {S : Nat → Prop} (D : DR h lab c V σ) (e : Ext S h h') (hs : ∀ x l, lab x = some l → ¬ S x) : DR h' lab c V σ :=
  { D with
    blk := D.blk.ext e (hs _ _ D.lc), lo := D.lo.ext e fun ⟨b, o, hb, hS⟩ => hs _ _ (D.llr b o hb) hS, wo := D.wo.ext e fun ⟨b, o, hb, hS⟩ => hs _ _ (D.lwr b o hb) hS, po := D.po.ext e fun ⟨b, o, hb, hS⟩ => hs _ _ (D.lpn b o hb) hS,
    ls := fun i s x h1 h2 => ⟨(D.ls i s x h1 h2).1.ext e fun ⟨b, o, hb, hS⟩ => hs _ _ ((D.ls i s x h1 h2).2 b o hb) hS, (D.ls i s x h1 h2).2⟩,
    ws := fun i s x h1 h2 => ⟨(D.ws i s x h1 h2).1.ext e fun ⟨b, o, hb, hS⟩ => hs _ _ ((D.ws i s x h1 h2).2 b o hb) hS, (D.ws i s x h1 h2).2⟩,
    its := fun p x hp => ⟨(D.its p x hp).1.ext e (hs _ _ (D.its p x hp).2), (D.its p x hp).2⟩,
    lt := fun b hb => Nat.lt_of_lt_of_le (D.lt b hb) e.size }
theorem DR.ext0 {h h' : Heap} {lab : Nat → Option DL} {c : Nat} {V : DV} {σ : CS} (D : DR h lab c V σ) (e : Ext0 h h') : DR h' lab c V σ := D.ext e fun _ _ _ k => k

/-- More blocks are named. -/
theorem DR.lab {h : Heap} {lab lab' : Nat → Option DL} {c : Nat} {V : DV} {σ : CS} (D : DR h lab c V σ) (hl : ∀ y l, lab y = some l → lab' y = some l) (hlt : ∀ y, lab' y ≠ none → y < h.size) : DR h lab' c V σ :=
  { D with
    ls := fun i s x h1 h2 => ⟨(D.ls i s x h1 h2).1, fun b o hb => hl _ _ ((D.ls i s x h1 h2).2 b o hb)⟩, ws := fun i s x h1 h2 => ⟨(D.ws i s x h1 h2).1, fun b o hb => hl _ _ ((D.ws i s x h1 h2).2 b o hb)⟩,
    its := fun p x hp => ⟨(D.its p x hp).1, hl _ _ (D.its p x hp).2⟩, lc := hl _ _ D.lc, llr := fun b o hb => hl _ _ (D.llr b o hb), lwr := fun b o hb => hl _ _ (D.lwr b o hb), lpn := fun b o hb => hl _ _ (D.lpn b o hb), lt := hlt }

/-- Only what is represented counts. -/
theorem DR.cong {h : Heap} {lab : Nat → Option DL} {c : Nat} {V : DV} {σ σ' : CS} (D : DR h lab c V σ) (hsh : ∀ (i : Nat) (s' : Sh), σ'.sh[i]? = some s' → ∃ s, σ.sh[i]? = some s ∧ s'.all = s.all ∧ s'.waits = s.waits) (hn : σ'.sh.length = σ.sh.length) (hr : σ'.room = σ.room) (hst : σ'.strict = σ.strict)
    (hit : ∀ p, σ'.it p = σ.it p) (hp : σ'.pins = σ.pins) (hl : σ'.last = σ.last) : DR h lab c V σ' :=
  ⟨by rw [hn, hr, hst]; exact D.blk, D.lo, D.wo, D.po, by rw [hn]; exact D.ll, by rw [hn]; exact D.wl, fun i s' x h1 h2 => by
    obtain ⟨s, hs, ha, hw⟩ := hsh i s' h1
    rw [ha]; exact D.ls i s x hs h2, fun i s' x h1 h2 => by
    obtain ⟨s, hs, ha, hw⟩ := hsh i s' h1
    rw [hw]; exact D.ws i s x hs h2, fun p x hx => by rw [hit] at hx; exact D.its p x hx, fun n x => by rw [hp]; exact D.pin n x, by rw [hl]; exact D.last, D.lc, D.llr, D.lwr, D.lpn, D.lt, by rw [hr]; exact D.r0, by rw [hr]; exact D.r1, by rw [hn]; exact D.n0, by rw [hn]; exact D.n1⟩

/-- An entry is put anew. -/
theorem DR.setIt {h h' : Heap} {lab : Nat → Option DL} {c : Nat} {V : DV} {σ : CS} {x : Nat} {X : It} (D : DR h lab c V σ) (e : Ext (fun i => i = x) h h') (hx : lab x = some .it) (k : Blk h' x 133 X.lfs) : DR h' lab c V (σ.setIt x X) := by
  have no : ∀ y l, lab y = some l → l ≠ .it → ¬ y = x := fun y l hy hn he => by subst he; rw [hx] at hy; cases hy; exact hn rfl
  refine ⟨D.blk.ext e (no _ _ D.lc (by simp)), D.lo.ext e fun ⟨b, o, hb, hS⟩ => no _ _ (D.llr b o hb) (by simp) hS, D.wo.ext e fun ⟨b, o, hb, hS⟩ => no _ _ (D.lwr b o hb) (by simp) hS, D.po.ext e fun ⟨b, o, hb, hS⟩ => no _ _ (D.lpn b o hb) (by simp) hS, D.ll, D.wl,
    fun i s y h1 h2 => ⟨(D.ls i s y h1 h2).1.ext e fun ⟨b, o, hb, hS⟩ => no _ _ ((D.ls i s y h1 h2).2 b o hb) (by simp) hS, (D.ls i s y h1 h2).2⟩, fun i s y h1 h2 => ⟨(D.ws i s y h1 h2).1.ext e fun ⟨b, o, hb, hS⟩ => no _ _ ((D.ws i s y h1 h2).2 b o hb) (by simp) hS, (D.ws i s y h1 h2).2⟩,
    fun p Y hp => ?_, D.pin, D.last, D.lc, D.llr, D.lwr, D.lpn, fun b hb => Nat.lt_of_lt_of_le (D.lt b hb) e.size, D.r0, D.r1, D.n0, D.n1⟩
  simp only [CS.setIt] at hp
  split at hp
  · rename_i hpx
    subst hpx
    cases hp
    exact ⟨k, hx⟩
  · rename_i hpx
    exact ⟨(D.its p Y hp).1.ext e hpx, (D.its p Y hp).2⟩

/-- A part's row is put anew. -/
theorem DR.setL {h h' : Heap} {lab : Nat → Option DL} {c : Nat} {V : DV} {σ : CS} {i : Nat} {s : Sh} {y : Slc} {all : List Nat} (D : DR h lab c V σ) (hs : σ.sh[i]? = some s) (e : Ext (fun b => ∃ o, V.sl.a = some (b, o)) h h') (o : Own 1 slF h' V.sl (V.Ls.set i y))
    (a : Arr 1 pF h' y all) (hy : isRo lab y) : DR h' lab c { V with Ls := V.Ls.set i y } (σ.setSh i { s with all := all }) := by
  have hi := sh_lt hs
  have no : ∀ y l, lab y = some l → l ≠ .lr → ¬ ∃ o, V.sl.a = some (y, o) := fun y l hy hn ⟨o, ho⟩ => by rw [D.llr y o ho] at hy; cases hy; exact hn rfl
  refine ⟨?_, o, D.wo.ext e fun ⟨b, o, hb, hS⟩ => no _ _ (D.lwr b o hb) (by simp) hS, D.po.ext e fun ⟨b, o, hb, hS⟩ => no _ _ (D.lpn b o hb) (by simp) hS, by simp [CS.setSh, D.ll], by simp [CS.setSh, D.wl], fun j t x h1 h2 => ?_, fun j t x h1 h2 => ?_,
    fun p Y hp => ⟨(D.its p Y hp).1.ext e (no _ _ (D.its p Y hp).2 (by simp)), (D.its p Y hp).2⟩, D.pin, D.last, D.lc, D.llr, D.lwr, D.lpn, fun b hb => Nat.lt_of_lt_of_le (D.lt b hb) e.size, D.r0, D.r1, by simpa [CS.setSh] using D.n0, by simpa [CS.setSh] using D.n1⟩
  · have := D.blk.ext e (no _ _ D.lc (by simp))
    simpa [CS.setSh] using this
  · simp only [CS.setSh, List.getElem?_set] at h1 h2
    by_cases hij : i = j
    · subst hij
      have hl : i < V.Ls.length := by rw [D.ll]; exact hi
      simp only [if_true, hi, hl] at h1 h2
      cases h1; cases h2
      exact ⟨a, hy⟩
    · rw [if_neg hij] at h1 h2
      have := D.ls j t x h1 h2
      exact ⟨this.1.ext e fun ⟨b, o, hb, hS⟩ => no _ _ (this.2 b o hb) (by simp) hS, this.2⟩
  · simp only [CS.setSh, List.getElem?_set] at h1
    by_cases hij : i = j
    · subst hij
      simp only [if_true, hi] at h1
      cases h1
      have := D.ws i s x hs h2
      exact ⟨this.1.ext e fun ⟨b, o, hb, hS⟩ => no _ _ (this.2 b o hb) (by simp) hS, this.2⟩
    · rw [if_neg hij] at h1
      have := D.ws j t x h1 h2
      exact ⟨this.1.ext e fun ⟨b, o, hb, hS⟩ => no _ _ (this.2 b o hb) (by simp) hS, this.2⟩
theorem DR.setW {h h' : Heap} {lab : Nat → Option DL} {c : Nat} {V : DV} {σ : CS} {i : Nat} {s : Sh} {y : Slc} {ws : List Nat} (D : DR h lab c V σ) (hs : σ.sh[i]? = some s) (e : Ext (fun b => ∃ o, V.sw.a = some (b, o)) h h') (o : Own 1 slF h' V.sw (V.Ws.set i y))
    (a : Arr 1 pF h' y ws) (hy : isRo lab y) : DR h' lab c { V with Ws := V.Ws.set i y } (σ.setSh i { s with waits := ws }) := by
  have hi := sh_lt hs
  have no : ∀ y l, lab y = some l → l ≠ .wr → ¬ ∃ o, V.sw.a = some (y, o) := fun y l hy hn ⟨o, ho⟩ => by rw [D.lwr y o ho] at hy; cases hy; exact hn rfl
  refine ⟨?_, D.lo.ext e fun ⟨b, o, hb, hS⟩ => no _ _ (D.llr b o hb) (by simp) hS, o, D.po.ext e fun ⟨b, o, hb, hS⟩ => no _ _ (D.lpn b o hb) (by simp) hS, by simp [CS.setSh, D.ll], by simp [CS.setSh, D.wl], fun j t x h1 h2 => ?_, fun j t x h1 h2 => ?_,
    fun p Y hp => ⟨(D.its p Y hp).1.ext e (no _ _ (D.its p Y hp).2 (by simp)), (D.its p Y hp).2⟩, D.pin, D.last, D.lc, D.llr, D.lwr, D.lpn, fun b hb => Nat.lt_of_lt_of_le (D.lt b hb) e.size, D.r0, D.r1, by simpa [CS.setSh] using D.n0, by simpa [CS.setSh] using D.n1⟩
  · have := D.blk.ext e (no _ _ D.lc (by simp))
    simpa [CS.setSh] using this
  · simp only [CS.setSh, List.getElem?_set] at h1
    by_cases hij : i = j
    · subst hij
      simp only [if_true, hi] at h1
      cases h1
      have := D.ls i s x hs h2
      exact ⟨this.1.ext e fun ⟨b, o, hb, hS⟩ => no _ _ (this.2 b o hb) (by simp) hS, this.2⟩
    · rw [if_neg hij] at h1
      have := D.ls j t x h1 h2
      exact ⟨this.1.ext e fun ⟨b, o, hb, hS⟩ => no _ _ (this.2 b o hb) (by simp) hS, this.2⟩
  · simp only [CS.setSh, List.getElem?_set] at h1 h2
    by_cases hij : i = j
    · subst hij
      have hl : i < V.Ws.length := by rw [D.wl]; exact hi
      simp only [if_true, hi, hl] at h1 h2
      cases h1; cases h2
      exact ⟨a, hy⟩
    · rw [if_neg hij] at h1 h2
      have := D.ws j t x h1 h2
      exact ⟨this.1.ext e fun ⟨b, o, hb, hS⟩ => no _ _ (this.2 b o hb) (by simp) hS, this.2⟩

/-- A row's block gets a name. -/
def labA (lab : Nat → Option DL) (a : Option (Nat × Nat)) (l : DL) (y : Nat) : Option DL := match a with
  | some (q, _) => if y = q then some l else lab y
  | none => lab y
structure Grw (lab lab' : Nat → Option DL) (h : Heap) : Prop where
  old : ∀ y l, lab y = some l → lab' y = some l
  new : ∀ y, lab' y ≠ none → lab y ≠ none ∨ h.size ≤ y
theorem Grw.refl (lab : Nat → Option DL) (h : Heap) : Grw lab lab h := ⟨fun _ _ x => x, fun _ x => .inl x⟩
theorem Grw.trans {a b c : Nat → Option DL} {h h' : Heap} (x : Grw a b h) (y : Grw b c h') (e : h.size ≤ h'.size) : Grw a c h :=
  ⟨fun i l hi => y.old i l (x.old i l hi), fun i hi => (y.new i hi).elim (x.new i) fun k => .inr (Nat.le_trans e k)⟩
theorem labA_spec {h0 h : Heap} {lab : Nat → Option DL} {s : Slc} {l : DL} (hlt : ∀ y, lab y ≠ none → y < h0.size) (f : Fresh h0 h s) (hb : ∀ b o, s.a = some (b, o) → b < h.size) :
    Grw lab (labA lab s.a l) h0 ∧ (∀ y, labA lab s.a l y ≠ none → y < h.size) ∧ (∀ b o, s.a = some (b, o) → labA lab s.a l b = some l) := by
  refine ⟨⟨fun y m hy => ?_, fun y hy => ?_⟩, fun y hy => ?_, fun b o hs => by simp [labA, hs]⟩
  · unfold labA
    split
    · rename_i q o hq
      split
      · rename_i hyq
        have := f.new q o hq
        have := hlt y (by rw [hy]; simp)
        omega
      · exact hy
    · exact hy
  · unfold labA at hy
    split at hy
    · rename_i q o hq
      split at hy
      · rename_i hyq; right; have := f.new q o hq; omega
      · exact .inl hy
    · exact .inl hy
  · unfold labA at hy
    split at hy
    · rename_i q o hq
      split at hy
      · rename_i hyq; rw [hyq]; exact hb q o hq
      · exact Nat.lt_of_lt_of_le (hlt y hy) f.ext.size
    · exact Nat.lt_of_lt_of_le (hlt y hy) f.ext.size

end Go.V.Yteojmnnobmpdiaa
set_option linter.unusedVariables false
set_option linter.unusedSimpArgs false
/-! The document's cache: sums, shards, rows without an entry. -/
namespace Go.V.Yteojmnnobmpdiaa
open Go Go.V

theorem c110 {a b : Int} (ha : 0 ≤ a) (ha' : a ≤ big) (hb : 0 ≤ b) (hb' : b ≤ big) {h : Heap} {R : Int → Heap → Prop} (k : R (plusS a b) h) :
    Call Go.Proofs.Try.prog 110 [.lf (.int .u64 a), .lf (.int .u64 b)] h [.one (.int .u64)] R := by
  unfold plusS big at *
  refine ok110 ?_
  unfold vc110
  have hw : IntKind.wrap .u64 (a + b) = if a + b ≤ 18446744073709551615 then a + b else a + b - 18446744073709551616 := by
    rw [IntKind.wrap_u64]; split <;> omega
  rw [hw]
  refine Br.dec (fun hh => ?_) fun hh => ?_
  · split at hh
    · omega
    · rwa [if_pos (by omega)] at k
  · split at hh
    · rename_i h1
      rw [if_pos h1]
      rwa [if_neg (by omega)] at k
    · omega

theorem bt_get {s : ByteArray} {m : Nat} (h : m < s.data.toList.length) : bt s (m : Int) = ((s.data.toList[m]).toNat : Int) := by
  unfold bt
  rw [Int.toNat_natCast, List.getD_eq_getElem?_getD, List.getElem?_eq_getElem h]
  rfl

/-- Which shard, in the document. -/
theorem c26 {h : Heap} {lab : Nat → Option DL} {c : Nat} {V : DV} {σ : CS} (D : DR h lab c V σ) {key : ByteArray} (hk : key.size ≤ 9223372036854775807) {R : Int → Heap → Prop}
    (k : R (shardOf σ.sh.length key : Nat) h) : Call Go.Proofs.Try.prog 26 [.lf (.ptr (some (c, 0))), .lf (.str key)] h [.one (.int .i64)] R := by
  have hn0 := D.n0
  have hn1 := D.n1
  have hksz : key.data.toList.length = key.size := rfl
  refine ok26 ⟨fun n i h' d => ∃ m : Nat, i = m ∧ m ≤ key.size ∧ d = key.size - m ∧ h = h' ∧ n = shash (key.data.toList.take m), ⟨_, 0, rfl, by omega, rfl, rfl, rfl⟩, ?_⟩
  rintro _ _ _ _ ⟨m, rfl, hm, rfl, rfl, rfl⟩
  refine Br.dec (fun hi => ?_) fun hi => ?_
  · have hi' : m < key.data.toList.length := by omega
    refine ⟨by omega, hi, _, ?_, m + 1, ?_, by omega, rfl, rfl, ?_⟩
    · show key.size - (m + 1) < key.size - m; omega
    · rw [wi64 (by omega) (by omega)]; rfl
    · rw [List.take_succ_eq_append_getElem hi', bt_get hi']; unfold shash; rw [List.foldl_append]; rfl
  · have : m = key.size := by omega
    subst this
    rw [← hksz, List.take_length]
    have hr := shash_range key.data.toList
    have hw : IntKind.wrap .u32 ((σ.sh.length : Nat) : Int) = (σ.sh.length : Int) := wu32 (by omega) (by omega)
    refine NilC.mk rfl ⟨_, D.blk.cell rfl, ?_, ?_⟩
    · rw [hw]; omega
    · rw [hw]
      obtain ⟨q, hq⟩ := Int.eq_ofNat_of_zero_le hr.1
      unfold shardOf at k
      rw [hq] at k ⊢
      have hmod : Int.tmod (q : Int) ((σ.sh.length : Nat) : Int) = ((q % σ.sh.length : Nat) : Int) := by
        rw [Int.tmod_eq_emod_of_nonneg (by omega)]; rfl
      rw [hmod, wi64 (by omega) (by have := Nat.mod_lt q (show 0 < σ.sh.length by omega); omega)]
      simpa using k

/-- A part's rows. -/
theorem DR.row {h : Heap} {lab : Nat → Option DL} {c : Nat} {V : DV} {σ : CS} (D : DR h lab c V σ) {i : Nat} {s : Sh} (hs : σ.sh[i]? = some s) : ∃ x y, V.Ls[i]? = some x ∧ V.Ws[i]? = some y ∧ Arr 1 pF h x s.all ∧ isRo lab x ∧ Arr 1 pF h y s.waits ∧ isRo lab y := by
  have hi := sh_lt hs
  have h1 : V.Ls[i]? = some (V.Ls[i]'(by rw [D.ll]; exact hi)) := List.getElem?_eq_getElem _
  have h2 : V.Ws[i]? = some (V.Ws[i]'(by rw [D.wl]; exact hi)) := List.getElem?_eq_getElem _
  have a := D.ls i s _ hs h1
  have b := D.ws i s _ hs h2
  exact ⟨_, _, h1, h2, a.1, a.2, b.1, b.2⟩

theorem cap_used {σ : CS} {m : Nat} (I : Inv m σ) (l : List Nat) (p : Nat) : plusS (cap (sums (l.map (chOf σ.it)))) (chOf σ.it p) = cap (sums ((l ++ [p]).map (chOf σ.it))) := by
  have h := ch_nonneg I (l := [p]) (chOf σ.it p) (by simp)
  have h2 : chOf σ.it p ≤ big := by
    unfold chOf
    split
    · rename_i X hX; exact (I.ok p X hX).c1
    · decide
  rw [plusS_cap (sums_nonneg (ch_nonneg I)) h h2, List.map_append, sums_append]
  simp [sums]

/-- What a part's entries take, in the document. -/
theorem c111 {h : Heap} {lab : Nat → Option DL} {c : Nat} {V : DV} {σ : CS} {m : Nat} (D : DR h lab c V σ) (I : Inv m σ) (hm : m ≤ 4398046511104) {i : Nat} {s : Sh} (hs : σ.sh[i]? = some s) {R : Int → Heap → Prop}
    (k : R (usedS σ.it s) h) : Call Go.Proofs.Try.prog 111 [.lf (.ptr (some (c, 0))), .lf (.int .i64 (i : Nat))] h [.one (.int .u64)] R := by
  have S := I.sh i s hs
  have hlen := I.len i s hs
  obtain ⟨x, y, hx, hy, ax, _, ay, _⟩ := D.row hs
  have hxl := ax.len
  refine ok111 ⟨fun n j h' d => ∃ q : Nat, j = q ∧ q ≤ s.all.length ∧ d = s.all.length - q ∧ h = h' ∧ n = cap (sums ((s.all.take q).map (chOf σ.it))), ⟨_, 0, rfl, by omega, rfl, rfl, by simp [sums, cap, big]⟩, ?_⟩
  rintro _ _ _ _ ⟨q, rfl, hq, rfl, rfl, rfl⟩
  refine NilC.mk rfl ⟨V.sl, D.blk.cell rfl, (D.lo.arr slF_sized).ix (k := i) rfl hx fun b o hc => ⟨x, hc, Br.dec (fun hi => ?_) fun hi => ?_⟩⟩
  · have hi' : q < s.all.length := by omega
    have hp := List.getElem_mem hi'
    obtain ⟨X, hX⟩ := S.ex _ hp
    have hch : chOf σ.it s.all[q] = X.ch := by simp only [chOf, hX]
    have ok := I.ok _ X hX
    refine NilC.mk rfl ⟨V.sl, D.blk.cell rfl, (D.lo.arr slF_sized).ix (k := i) rfl hx fun b1 o1 hc1 => ⟨x, hc1, ax.ix rfl (List.getElem?_eq_getElem hi') fun b2 o2 hc2 => ⟨_, hc2, NilC.mk rfl ⟨X.ch, (D.its _ X hX).1.cell rfl, ?_⟩⟩⟩⟩
    have hcr := cap_range (sums_nonneg (ch_nonneg I (l := s.all.take q)))
    refine c110 hcr.1 hcr.2 ok.c0 ok.c1 ⟨s.all.length - (q + 1), by omega, q + 1, ?_, by omega, rfl, rfl, ?_⟩
    · rw [wi64 (by omega) (by omega)]; rfl
    · rw [← hch, cap_used I, List.take_succ_eq_append_getElem hi']
  · have : q = s.all.length := by omega
    subst this
    rw [List.take_length]
    exact k

/-- Items but one. -/
theorem c115 {h : Heap} {s : Slc} {l : List Nat} {x : Nat} (a : Arr 1 pF h s l) (hl : l.length ≤ 4398046511104) (hpl : ∀ p ∈ l, plainAt h p) (hx : plainAt h x) {R : Slc → Heap → Prop}
    (k : ∀ s' h', Own 1 pF h' s' (l.filter fun p => !decide (p = x)) → Fresh h h' s' → R s' h') : Call Go.Proofs.Try.prog 115 [.lf (.slc s), .lf (.ptr (some (x, 0)))] h [.one .slc] R := by
  have hlen := a.len
  refine ok115 (New.mk fun b0 h1 hb0 hs1 e1 k1 => ?_)
  have plain : ∀ {h' : Heap} {p : Nat}, Ext0 h h' → plainAt h p → plainAt h' p := fun e ⟨c, t, hp⟩ => ⟨c, t, (e.same _ (size_pos_of_getElem? hp) id).trans hp⟩
  refine ⟨fun sl i h' d => ∃ q : Nat, i = q ∧ q ≤ l.length ∧ d = l.length - q ∧ Own 1 pF h' sl ((l.take q).filter fun p => !decide (p = x)) ∧ Fresh h h' sl,
    ⟨_, 0, rfl, by omega, rfl, Own.new (l := ([] : List Nat)) pF_sized k1, e1, fun b o hb => by cases hb; omega⟩, ?_⟩
  rintro sl _ h6 _ ⟨q, rfl, hq, rfl, o, fr⟩
  have a6 := a.ext0 fr.ext
  refine Br.dec (fun hi => ?_) fun hi => ?_
  · have hi' : q < l.length := by omega
    have hstep : (l.take (q + 1)).filter (fun p => !decide (p = x)) = (l.take q).filter (fun p => !decide (p = x)) ++ (if l[q] = x then [] else [l[q]]) := by
      rw [List.take_succ_eq_append_getElem hi', List.filter_append]
      congr 1
      by_cases h : l[q] = x <;> simp [h]
    have hpe : ptrEq (some (l[q], 0)) (some (x, 0)) = decide (l[q] = x) := by
      unfold ptrEq; rw [Bool.eq_iff_iff]; simp
    refine a6.ix rfl (List.getElem?_eq_getElem hi') fun b1 o1 hc1 => ⟨_, hc1, .inr ⟨plain fr.ext (hpl _ (List.getElem_mem hi')), plain fr.ext hx⟩, ?_⟩
    rw [hpe]
    refine Br.not (fun hne => ?_) fun heq => ⟨l.length - (q + 1), by omega, q + 1, ?_, by omega, rfl, ?_, fr⟩
    · have hne' : ¬ l[q] = x := of_decide_eq_false hne
      refine a6.ix rfl (List.getElem?_eq_getElem hi') fun b2 o2 hc2 => ⟨_, hc2, New.mk fun b14 h15 hb14 hs15 e15 k15 => ?_⟩
      have hfl := List.length_filter_le (fun p => !decide (p = x)) (l.take q)
      rw [List.length_take] at hfl
      refine AppC.grow pF_sized (by decide) rfl (o.ext0 e15) ((Own.new (l := [l[q]]) pF_sized k15).arr pF_sized) (by simp only [List.length_singleton]; omega) fun s16 h17 o17 g17 => ?_
      refine ⟨l.length - (q + 1), by omega, q + 1, ?_, by omega, rfl, ?_, (fr.ext0 e15).grow g17⟩
      · rw [wi64 (by omega) (by omega)]; rfl
      · rw [hstep, if_neg hne']; exact o17
    · rw [wi64 (by omega) (by omega)]; rfl
    · rw [hstep, if_pos (of_decide_eq_true heq), List.append_nil]; exact o
  · have : q = l.length := by omega
    subst this
    rw [List.take_length] at o
    exact k sl h6 o fr

theorem SInv.erase_filter {n : Nat} {it : Nat → Option It} {i : Nat} {s : Sh} (S : SInv n it i s) (x : Nat) : s.all.erase x = s.all.filter fun p => !decide (p = x) := by
  rw [List.Nodup.erase_eq_filter S.nd]
  apply List.filter_congr
  intro p _
  by_cases h : p = x <;> simp [h]

end Go.V.Yteojmnnobmpdiaa
set_option linter.unusedVariables false
set_option linter.unusedSimpArgs false
/-! The document's cache: an entry goes; room is made. -/
namespace Go.V.Yteojmnnobmpdiaa
open Go Go.V

def goneD (σ : CS) (i : Nat) (s : Sh) (x : Nat) (X : It) : CS := (σ.setIt x { X with inn := false }).setSh i ⟨s.ins, s.all.erase x, s.waits.filter fun p => !decide (p = x)⟩

theorem Arr.of_own {h h' : Heap} {S : Nat → Prop} {s : Slc} {l : List Nat} {lab : Nat → Option DL} (o : Own 1 pF h s l) (hr : isRo lab s) (e : Ext S h h') (hS : ∀ y, S y → lab y ≠ some .ro) : Arr 1 pF h' s l :=
  (o.arr pF_sized).ext e fun ⟨b, o', hb, hs⟩ => hS b hs (hr b o' hb)

/-- An entry goes. -/
theorem c117 {h : Heap} {lab : Nat → Option DL} {c : Nat} {V : DV} {σ : CS} (D : DR h lab c V σ) {i x : Nat} {s : Sh} {X : It} (hs : σ.sh[i]? = some s) (hx : σ.it x = some X) (nd : s.all.Nodup) (ha : ∀ p ∈ s.all, ∃ Y, σ.it p = some Y) (hw : ∀ p ∈ s.waits, ∃ Y, σ.it p = some Y)
    (hal : s.all.length ≤ 4398046511104) (hwl : s.waits.length ≤ 4398046511104) {R : Heap → Prop}
    (k : ∀ h' lab' V', DR h' lab' c V' (goneD σ i s x X) → Grw lab lab' h → Ext (fun y => lab y ≠ none) h h' → R h') :
    Call Go.Proofs.Try.prog 117 [.lf (.ptr (some (c, 0))), .lf (.int .i64 (i : Nat)), .lf (.ptr (some (x, 0)))] h [] R := by
  have hit := D.its x X hx
  refine ok117 (NilC.mk rfl (StC.one hit.1 (by simp [It.lfs]) fun h2 hs2 k2 e2 => ?_))
  have D2 : DR h2 lab c V (σ.setIt x { X with inn := false }) := D.setIt (X := { X with inn := false }) e2 hit.2 k2
  have hs' : (σ.setIt x { X with inn := false }).sh[i]? = some s := hs
  obtain ⟨rl, rw, hrl, hrw, al, rol, aw, row⟩ := D2.row hs'
  have plain : ∀ {p : Nat}, (∃ Y, σ.it p = some Y) → plainAt h2 p := fun {p} ⟨Y, hY⟩ => by
    by_cases hp : p = x
    · subst hp; exact Blk.plain (D2.its p { X with inn := false } (by simp [CS.setIt])).1
    · exact Blk.plain (D2.its p Y (by simp [CS.setIt, hp, hY])).1
  refine NilC.mk rfl ⟨V.sl, D2.blk.cell rfl, NilC.mk rfl ⟨V.sw, D2.blk.cell rfl, NilC.mk rfl ⟨V.sl, D2.blk.cell rfl, (D2.lo.arr slF_sized).ix (k := i) rfl hrl fun b12 b13 hc1 => ⟨rl, hc1, NilC.mk rfl ⟨V.sw, D2.blk.cell rfl, (D2.wo.arr slF_sized).ix (k := i) rfl hrw fun b18 b19 hc2 => ⟨rw, hc2, ?_⟩⟩⟩⟩⟩⟩
  refine c115 al hal (fun p hp => plain (ha p hp)) (plain ⟨X, hx⟩) fun s21 h22 o21 f21 => ?_
  have D22 := D2.ext0 f21.ext
  refine ⟨cellsAt.ext f21.ext (fun k => k) hc2, D22.blk.cell rfl, D22.blk.cell rfl, D22.blk.cell rfl, ?_⟩
  have plain22 : ∀ {p : Nat}, (∃ Y, σ.it p = some Y) → plainAt h22 p := fun {p} hp => by
    obtain ⟨cc, t, hh⟩ := plain hp
    exact ⟨cc, t, (f21.ext.same _ (size_pos_of_getElem? hh) id).trans hh⟩
  refine c115 (aw.ext0 f21.ext) hwl (fun p hp => plain22 (hw p hp)) (plain22 ⟨X, hx⟩) fun s23 h24 o23 f23 => ?_
  have D24 := D22.ext0 f23.ext
  refine ⟨D24.blk.cell rfl, D24.blk.cell rfl, ?_⟩
  -- names for the two rows
  obtain ⟨g1, lt1, n1⟩ := labA_spec (lab := lab) (l := .ro) D2.lt f21 fun b o hb => (o21.lt b o hb).1
  obtain ⟨g2, lt2, n2⟩ := labA_spec (lab := labA lab s21.a .ro) (l := .ro) lt1 f23 fun b o hb => (o23.lt b o hb).1
  generalize hl1 : labA lab s21.a .ro = lab1 at *
  generalize hl2 : labA lab1 s23.a .ro = lab2 at *
  have hold : ∀ y l, lab y = some l → lab2 y = some l := fun y l hy => g2.old y l (g1.old y l hy)
  have D24' : DR h24 lab2 c V (σ.setIt x { X with inn := false }) := D24.lab hold lt2
  have ro21 : isRo lab2 s21 := fun b o hb => g2.old _ _ (n1 b o hb)
  have ro23 : isRo lab2 s23 := n2
  have hi := sh_lt hs
  have o21' : Own 1 pF h24 s21 (s.all.filter fun p => !decide (p = x)) := o21.ext0 f23.ext
  refine IxC.set slF_sized D24'.lo (k := i) rfl (by rw [D24'.ll]; exact hi) (x := s21) rfl fun h27 hs27 o27 e27 => ?_
  have noL : ∀ y, (∃ o, V.sl.a = some (y, o)) → lab2 y ≠ some .ro := fun y ⟨o, ho⟩ hy => by rw [hold _ _ (D.llr y o ho)] at hy; cases hy
  have noW : ∀ y, (∃ o, V.sw.a = some (y, o)) → lab2 y ≠ some .ro := fun y ⟨o, ho⟩ hy => by rw [hold _ _ (D.lwr y o ho)] at hy; cases hy
  have D27 := D24'.setL hs' e27 o27 (Arr.of_own o21' ro21 e27 noL) ro21
  have hs27' : ((σ.setIt x { X with inn := false }).setSh i { s with all := s.all.filter fun p => !decide (p = x) }).sh[i]? = some { s with all := s.all.filter fun p => !decide (p = x) } := by simp [CS.setSh, CS.setIt, hi]
  have o23' : Own 1 pF h27 s23 (s.waits.filter fun p => !decide (p = x)) := o23.ext e27 fun ⟨b, o, hb, hS⟩ => noL b hS (n2 b o hb)
  refine IxC.set slF_sized D27.wo (k := i) rfl (by rw [D27.wl]; simpa [CS.setSh, CS.setIt] using hi) (x := s23) rfl fun h30 hs30 o30 e30 => ?_
  have D30 := D27.setW hs27' e30 o30 (Arr.of_own o23' ro23 e30 noW) ro23
  have hfin : ((σ.setIt x { X with inn := false }).setSh i { s with all := s.all.filter fun p => !decide (p = x) }).setSh i ⟨s.ins, s.all.filter (fun p => !decide (p = x)), s.waits.filter fun p => !decide (p = x)⟩ = goneD σ i s x X := by
    have : s.all.erase x = s.all.filter fun p => !decide (p = x) := by
      rw [List.Nodup.erase_eq_filter nd]
      apply List.filter_congr
      intro p _
      by_cases h : p = x <;> simp [h]
    unfold goneD CS.setSh CS.setIt
    rw [this]; simp
  refine k h30 lab2 _ (by rw [← hfin]; exact D30) ?_ ?_
  · have h1 : Grw lab lab1 h := ⟨g1.old, fun y hy => (g1.new y hy).imp id fun h => by omega⟩
    exact h1.trans ⟨g2.old, fun y hy => (g2.new y hy)⟩ (by have := f21.ext.size; omega)
  · have e224 := f21.ext.trans f23.ext
    exact (((e2.mono fun y hy => by rw [show y = x from hy, hit.2]; simp).then0 e224).trans (e27.mono fun y ⟨o, ho⟩ => by rw [D.llr y o ho]; simp)).trans (e30.mono fun y ⟨o, ho⟩ => by rw [D.lwr y o ho]; simp)

/-- The document's step is the program's. -/
theorem DR.toGone {h : Heap} {lab : Nat → Option DL} {c : Nat} {V : DV} {σ : CS} {i x : Nat} {s : Sh} {X : It} (hs : σ.sh[i]? = some s) (hx : σ.it x = some X) (D : DR h lab c V (goneD σ i s x X)) : DR h lab c V (goneS σ i s x X) := by
  have g := goneS_same σ i s x X
  refine D.cong (fun j t ht => ?_) (by rw [g.len]; simp [goneD, CS.setSh, CS.setIt]) g.room g.strict (fun p => ?_) g.pins g.last
  · rw [goneS_shs] at ht
    have hgd : (goneD σ i s x X).sh = σ.sh.set i ⟨s.ins, s.all.erase x, s.waits.filter fun p => !decide (p = x)⟩ := rfl
    rw [hgd]
    rw [List.getElem?_set] at ht ⊢
    by_cases hij : i = j
    · subst hij
      simp only [if_true] at ht ⊢
      split at ht
      · cases ht
        exact ⟨⟨s.ins, s.all.erase x, s.waits.filter fun p => !decide (p = x)⟩, by rw [if_pos (by assumption)], rfl, rfl⟩
      · cases ht
    · rw [if_neg hij] at ht ⊢
      exact ⟨t, ht, rfl, rfl⟩
  · rw [goneS_it hx]; rfl

/-- Room is made. -/
theorem c109 {h : Heap} {lab : Nat → Option DL} {c : Nat} {V : DV} {σ : CS} {m : Nat} (D : DR h lab c V σ) (I : Inv m σ) (hm : m ≤ 4398046511104) {i : Nat} {s : Sh} (hs : σ.sh[i]? = some s) {more : Int} (m0 : 0 ≤ more) (m1 : more ≤ big) {R : Heap → Prop}
    (k : ∀ h' lab' V', DR h' lab' c V' (makesS i more (share σ) s.waits.length σ) → Grw lab lab' h → Ext (fun y => lab y ≠ none) h h' → R h') :
    Call Go.Proofs.Try.prog 109 [.lf (.ptr (some (c, 0))), .lf (.int .i64 (i : Nat)), .lf (.int .u64 more)] h [] R := by
  refine ok109 ⟨fun h' d => ∃ lab' V' σ' s', DR h' lab' c V' σ' ∧ Inv m σ' ∧ Same σ σ' ∧ σ'.sh[i]? = some s' ∧ s'.waits.length ≤ d ∧ makesS i more (share σ) d σ' = makesS i more (share σ) s.waits.length σ ∧ Grw lab lab' h ∧ Ext (fun y => lab y ≠ none) h h',
    ⟨_, lab, V, σ, s, D, I, Same.refl _, hs, Nat.le_refl _, rfl, Grw.refl _ _, Ext.refl _ _⟩, ?_⟩
  rintro h2 d ⟨lab2, V2, σ2, s2, D2, I2, sm2, hs2, hd, hmk, g2, e2⟩
  have S := I2.sh i s2 hs2
  obtain ⟨rl, rw, hrl, hrw, al, rol, aw, row⟩ := D2.row hs2
  have hwl := aw.len
  refine ⟨fun h' => h2 = h' ∧ ∃ (x : Nat) (rest : List Nat) (X : It), s2.waits = x :: rest ∧ plusS (usedS σ2.it s2) more > share σ ∧ σ2.it x = some X, ?_, ?_⟩
  · refine NilC.mk rfl ⟨V2.sw, D2.blk.cell rfl, (D2.wo.arr slF_sized).ix (k := i) rfl hrw fun b8 b9 hc => ⟨rw, hc, Br.dec (fun hpos => ?_) fun hneg => ?_⟩⟩
    · obtain ⟨x, rest, hw⟩ : ∃ x rest, s2.waits = x :: rest := by
        cases hww : s2.waits with
        | nil => rw [hww] at hwl; simp at hwl; omega
        | cons x rest => exact ⟨x, rest, rfl⟩
      obtain ⟨_, X, hX, _⟩ := (S.w x).1 (by rw [hw]; exact List.mem_cons_self ..)
      have hn0 := D2.n0
      have hn1 := D2.n1
      have hww : IntKind.wrap .u64 ((σ2.sh.length : Nat) : Int) = (σ2.sh.length : Int) := wu64 (by omega) (by omega)
      refine NilC.mk rfl ⟨_, D2.blk.cell rfl, NilC.mk rfl ⟨_, D2.blk.cell rfl, (by rw [hww]; omega), ?_⟩⟩
      have hur := used_range I2 s2
      refine c111 D2 I2 hm hs2 ⟨D2.blk.cell rfl, D2.blk.cell rfl, c110 hur.1 hur.2 m0 m1 ⟨D2.blk.cell rfl, D2.blk.cell rfl, ?_⟩⟩
      have hshare : IntKind.wrap .u64 (Int.tdiv σ2.room (IntKind.wrap .u64 ((σ2.sh.length : Nat) : Int))) = share σ := by
        rw [hww, Int.tdiv_eq_ediv_of_nonneg D2.r0]
        have h1 : 0 ≤ σ2.room / (σ2.sh.length : Int) := Int.ediv_nonneg D2.r0 (by omega)
        have h2 : σ2.room / (σ2.sh.length : Int) ≤ σ2.room := Int.ediv_le_self _ D2.r0
        have h3 : σ2.room ≤ 18446744073709551615 := D2.r1
        rw [wu64 h1 (by omega)]
        unfold share; rw [sm2.room, sm2.len]
      rw [hshare]
      refine Br.dec (fun hgt => ⟨rfl, x, rest, X, hw, hgt, hX⟩) fun hle => k h2 lab2 V2 ?_ g2 e2
      rw [← hmk]
      cases d with
      | zero => exact D2
      | succ d => simp only [makesS, hs2, hw, hle, if_false]; exact D2
    · have hw : s2.waits = [] := List.length_eq_zero_iff.1 (by omega)
      refine k h2 lab2 V2 ?_ g2 e2
      rw [← hmk]
      cases d with
      | zero => exact D2
      | succ d => simp only [makesS, hs2, hw]; exact D2
  · rintro _ ⟨rfl, x, rest, X, hw, hgt, hX⟩
    have hxw : x ∈ s2.waits := by rw [hw]; exact List.mem_cons_self ..
    obtain ⟨hxm, Y, hY, hin, hp⟩ := (S.w x).1 hxw
    rw [hX] at hY; cases hY
    have hal := I2.len i s2 hs2
    have hwle := S.wlen
    refine NilC.mk rfl ⟨V2.sw, D2.blk.cell rfl, (D2.wo.arr slF_sized).ix (k := i) rfl hrw fun b8 b9 hc => ⟨rw, hc, aw.ix (k := 0) rfl (by rw [hw]; rfl) fun b10 b11 hc2 => ⟨_, hc2, ?_⟩⟩⟩
    refine c117 D2 hs2 hX S.nd S.ex (fun p hp => by obtain ⟨_, Y, hY, _⟩ := (S.w p).1 hp; exact ⟨Y, hY⟩) (by omega) (by omega) fun h31 lab3 V3 D3 g3 e3 => ?_
    have D3' := DR.toGone hs2 hX D3
    have hfl : (s2.waits.filter fun p => !decide (p = x)).length ≤ rest.length := by
      rw [hw, List.filter_cons]
      simp only [decide_true, Bool.not_true, Bool.false_eq_true, if_false]
      exact List.length_filter_le ..
    have hwl2 : s2.waits.length = rest.length + 1 := by rw [hw]; rfl
    obtain ⟨q, rfl⟩ : ∃ q, d = q + 1 := ⟨d - 1, by omega⟩
    refine ⟨q, by omega, lab3, V3, _, _, D3', I2.gone hs2 hxm hX hp, sm2.trans (goneS_same ..), goneS_sh hs2, by simp only; omega, ?_, g2.trans g3 e2.size, e2.trans' e3 fun y hy hl => (g2.new y hl).elim id fun hh => by omega⟩
    rw [← hmk]
    simp only [makesS, hs2, hw, hgt, if_true, hX]

end Go.V.Yteojmnnobmpdiaa
set_option linter.unusedVariables false
set_option linter.unusedSimpArgs false
/-! The document's cache: a key is looked for; entries are taken out, pinned; pins. -/
namespace Go.V.Yteojmnnobmpdiaa
open Go Go.V

theorem lookK_mem {key : ByteArray} {q : Nat} {l : List (ByteArray × Nat)} (hn : (l.map (·.1)).Nodup) (h : (key, q) ∈ l) : lookK key l = some q := by
  cases hl : lookK key l with
  | none => exact absurd rfl (lookK_none hl _ h)
  | some r =>
    have := key_uniq hn (lookK_some hl) h rfl
    have h2 : r = q := congrArg Prod.snd this
    rw [h2]

/-- The entry of a key. -/
theorem c112 {h : Heap} {lab : Nat → Option DL} {c : Nat} {V : DV} {σ : CS} {m : Nat} (D : DR h lab c V σ) (I : Inv m σ) (hm : m ≤ 4398046511104) {key : ByteArray} (hk : key.size ≤ 9223372036854775807) {R : Option (Nat × Nat) → Heap → Prop}
    (k : R ((lookK key (σ.shAt (shardOf σ.sh.length key)).ins).map fun q => (q, 0)) h) : Call Go.Proofs.Try.prog 112 [.lf (.ptr (some (c, 0))), .lf (.str key)] h [.one .ptr] R := by
  have hlt := shardOf_lt D.n0 key
  obtain ⟨s, hs⟩ : ∃ s, σ.sh[shardOf σ.sh.length key]? = some s := ⟨_, List.getElem?_eq_getElem hlt⟩
  rw [shAt_of hs] at k
  have S := I.sh _ s hs
  have hlen := I.len _ s hs
  obtain ⟨rl, rw, hrl, hrw, al, rol, aw, row⟩ := D.row hs
  have hal := al.len
  refine ok112 (NilC.mk rfl ⟨V.sl, D.blk.cell rfl, c26 D hk ⟨D.blk.cell rfl, (D.lo.arr slF_sized).ix (k := shardOf σ.sh.length key) rfl hrl fun b5 b6 hc => ⟨rl, hc, ?_⟩⟩⟩)
  refine ⟨fun i h' d => ∃ q : Nat, i = q ∧ q ≤ s.all.length ∧ d = s.all.length - q ∧ h = h' ∧ ∀ p ∈ s.all.take q, ∀ X, σ.it p = some X → X.inn = true → X.key ≠ key, ⟨_, 0, rfl, by omega, rfl, rfl, by simp⟩, ?_⟩
  rintro _ _ _ ⟨q, rfl, hq, rfl, rfl, hno⟩
  refine Br.dec (fun hi => ?_) fun hi => ?_
  · have hi' : q < s.all.length := by omega
    have hget := List.getElem?_eq_getElem hi'
    have hpm := List.getElem_mem hi'
    obtain ⟨X, hX, eX⟩ := S.ent _ hpm
    have next : (X.inn = true → X.key ≠ key) → ∃ b28, b28 < s.all.length - q ∧ ∃ q' : Nat, IntKind.wrap .i64 ((q : Int) + 1) = (q' : Int) ∧ q' ≤ s.all.length ∧ b28 = s.all.length - q' ∧ h = h ∧ ∀ p ∈ s.all.take q', ∀ X, σ.it p = some X → X.inn = true → X.key ≠ key := fun hne => by
      refine ⟨s.all.length - (q + 1), by omega, q + 1, ?_, by omega, rfl, rfl, fun p hp Y hY => ?_⟩
      · rw [wi64 (by omega) (by omega)]; rfl
      · rw [List.take_succ_eq_append_getElem hi'] at hp
        rcases List.mem_append.1 hp with hp | hp
        · exact hno p hp Y hY
        · simp at hp; subst hp; rw [hX] at hY; cases hY; exact hne
    refine al.ix rfl hget fun b13 b14 hc1 => ⟨_, hc1, NilC.mk rfl ⟨X.inn, (D.its _ X hX).1.cell rfl, Br.mk (fun hin => ?_) fun hin => next fun h => by rw [hin] at h; cases h⟩⟩
    refine al.ix rfl hget fun b19 b20 hc2 => ⟨_, hc2, NilC.mk rfl ⟨X.key, (D.its _ X hX).1.cell rfl, Br.mk (fun heq => ?_) fun hne => next fun _ h => by
      have := (MapKept.bytes_beq X.key key).2 h
      rw [show strEq X.key key = true from this] at hne; cases hne⟩⟩
    refine al.ix rfl hget fun b25 b26 hc3 => ⟨_, hc3, ?_⟩
    have hkey := (MapKept.bytes_beq X.key key).1 heq
    have hmem := eX.inn hin
    rw [hkey] at hmem
    have := lookK_mem S.insN hmem
    rw [this] at k
    exact k
  · have hql : q = s.all.length := by omega
    subst hql
    rw [List.take_length] at hno
    have : lookK key s.ins = none := by
      cases hl : lookK key s.ins with
      | none => rfl
      | some p =>
        obtain ⟨h1, X, hX, h2, h3⟩ := S.ins _ (lookK_some hl)
        exact absurd h2 (hno p h1 X hX h3)
    rw [this] at k
    exact k

/-- An entry is taken out. -/
theorem c113 {h : Heap} {lab : Nat → Option DL} {c : Nat} {V : DV} {σ : CS} {m : Nat} (D : DR h lab c V σ) (I : Inv m σ) (hm : m ≤ 4398046511104) {i x : Nat} {s : Sh} {X : It} {key : ByteArray} (hs : σ.sh[i]? = some s) (hq : (key, x) ∈ s.ins) (hx : σ.it x = some X) {R : Heap → Prop}
    (k : ∀ h' lab' V', DR h' lab' c V' (outS σ i s x X) → Grw lab lab' h → Ext (fun y => lab y ≠ none) h h' → R h') :
    Call Go.Proofs.Try.prog 113 [.lf (.ptr (some (c, 0))), .lf (.int .i64 (i : Nat)), .lf (.ptr (some (x, 0)))] h [] R := by
  have S := I.sh i s hs
  obtain ⟨hxm, hkey, hin⟩ := S.at hq hx
  have hit := D.its x X hx
  have hal := I.len i s hs
  have hwl := S.wlen
  refine ok113 (NilC.mk rfl (StC.one hit.1 (by simp [It.lfs]) fun h2 hs2 k2 e2 => ?_))
  have D2 : DR h2 lab c V (σ.setIt x { X with inn := false }) := D.setIt (X := { X with inn := false }) e2 hit.2 k2
  have hx2 : (σ.setIt x { X with inn := false }).it x = some { X with inn := false } := by simp [CS.setIt]
  have e2' : Ext (fun y => lab y ≠ none) h h2 := e2.mono fun y hy => by rw [show y = x from hy, hit.2]; simp
  have has : ∀ {p : Nat}, (∃ Y, σ.it p = some Y) → ∃ Y, (σ.setIt x { X with inn := false }).it p = some Y := fun {p} ⟨Y, hY⟩ => by
    simp only [CS.setIt]
    split
    · exact ⟨_, rfl⟩
    · exact ⟨Y, hY⟩
  refine NilC.mk rfl ⟨X.pins, (D2.its x _ hx2).1.cell rfl, Br.eq (fun h0 => ?_) fun h0 => ?_⟩
  · refine c117 D2 (s := s) hs hx2 S.nd (fun p hp => has (S.ex p hp)) (fun p hp => has (by obtain ⟨_, Y, hY, _⟩ := (S.w p).1 hp; exact ⟨Y, hY⟩)) (by omega) (by omega) fun h6 lab6 V6 D6 g6 e6 => k h6 lab6 V6 ?_ ⟨g6.old, fun y hy => (g6.new y hy).imp id fun hh => by omega⟩ (e2'.trans e6)
    rw [outS_gone h0 hin]
    have hgd : goneD (σ.setIt x { X with inn := false }) i s x { X with inn := false } = goneD σ i s x X := by
      unfold goneD CS.setSh CS.setIt
      congr 1
      funext p
      simp only
      split <;> rfl
    rw [hgd] at D6
    exact DR.toGone hs hx D6
  · refine k h2 lab V ?_ (Grw.refl _ _) e2'
    rw [outS_pinned h0]
    refine D2.cong (fun j t ht => ?_) (by simp [outP, CS.setSh, CS.setIt]) rfl rfl (fun p => rfl) rfl rfl
    have ht' : (σ.sh.set i { s with ins := adel .str X.key s.ins })[j]? = some t := ht
    rw [List.getElem?_set] at ht'
    split at ht'
    · rename_i hij
      subst hij
      split at ht'
      · cases ht'; exact ⟨s, hs, rfl, rfl⟩
      · cases ht'
    · exact ⟨t, ht', rfl, rfl⟩

def pinD (σ : CS) (x : Nat) (X : It) : CS := { σ.setIt x { X with pins := X.pins + 1 } with last := σ.last + 1, pins := σ.pins ++ [(σ.last + 1, x)] }

theorem pins_add {P : List (Option Nat)} {pins : List (Int × Nat)} {last : Int} {x : Nat} (hl : last = P.length) (hp : ∀ n y, (n, y) ∈ pins ↔ 1 ≤ n ∧ P[(n - 1).toNat]? = some (some y)) (n : Int) (y : Nat) :
    (n, y) ∈ pins ++ [(last + 1, x)] ↔ 1 ≤ n ∧ (P ++ [some x])[(n - 1).toNat]? = some (some y) := by
  rw [List.mem_append, hp n y, List.getElem?_append, List.mem_singleton]
  constructor
  · rintro (⟨h1, h2⟩ | h)
    · refine ⟨h1, ?_⟩
      have hlt : (n - 1).toNat < P.length := by
        rcases Nat.lt_or_ge (n - 1).toNat P.length with h' | h'
        · exact h'
        · rw [List.getElem?_eq_none h'] at h2; cases h2
      rw [if_pos hlt]; exact h2
    · simp only [Prod.mk.injEq] at h
      obtain ⟨rfl, rfl⟩ := h
      refine ⟨by omega, ?_⟩
      have : ¬ (last + 1 - 1).toNat < P.length := by omega
      rw [if_neg this]
      have h0 : (last + 1 - 1).toNat - P.length = 0 := by omega
      rw [h0]; rfl
  · rintro ⟨h1, h2⟩
    split at h2
    · exact .inl ⟨h1, h2⟩
    · rename_i hge
      rw [List.getElem?_singleton] at h2
      split at h2
      · rename_i h0
        cases h2
        right
        simp only [Prod.mk.injEq, and_true]
        omega
      · cases h2

/-- An entry is pinned. -/
theorem c114 {h : Heap} {lab : Nat → Option DL} {c : Nat} {V : DV} {σ : CS} (D : DR h lab c V σ) {x : Nat} {X : It} (hx : σ.it x = some X) (p0 : -4611686018427387904 ≤ X.pins) (p1 : X.pins ≤ 4611686018427387904) (hP : V.P.length ≤ 4398046511104) {R : Int → Heap → Prop}
    (k : ∀ h' lab' V', DR h' lab' c V' (pinD σ x X) → Grw lab lab' h → Ext (fun y => lab y ≠ none) h h' → R (σ.last + 1) h') :
    Call Go.Proofs.Try.prog 114 [.lf (.ptr (some (c, 0))), .lf (.ptr (some (x, 0)))] h [.one (.int .i64)] R := by
  have hit := D.its x X hx
  refine ok114 (NilC.mk rfl ⟨X.pins, hit.1.cell rfl, NilC.mk rfl ?_⟩)
  rw [wi64 (by omega) (by omega)]
  refine StC.one hit.1 (by simp [It.lfs]) fun h5 hs5 k5 e5 => ?_
  have D5 : DR h5 lab c V (σ.setIt x { X with pins := X.pins + 1 }) := D.setIt (X := { X with pins := X.pins + 1 }) e5 hit.2 k5
  refine NilC.mk rfl ⟨V.sp, D5.blk.cell rfl, New.mk fun b9 h10 hb9 hs10 e10 k10 => ?_⟩
  have D10 := D5.ext0 e10
  have k10' : Blk h10 b9 134 ([some x].flatMap opF) := k10
  refine AppC.grow opF_sized (by decide) rfl D10.po ((Own.new (l := [some x]) opF_sized k10').arr opF_sized) (by simp only [List.length_singleton]; omega) fun s11 h12 o12 g12 => ?_
  -- a name for the row of pins
  obtain ⟨lab', hlab'⟩ : ∃ lab', lab' = labA lab s11.a .pn := ⟨_, rfl⟩
  have hold : ∀ y l, lab y = some l → lab' y = some l := fun y l hy => by
    rw [hlab']
    unfold labA
    split
    · rename_i q o hq
      split
      · rename_i hyq
        subst hyq
        rcases g12.new with h1 | ⟨b', h1, h2⟩
        · have := D.lpn y o (h1 ▸ hq); rw [this] at hy; exact hy
        · rw [h1] at hq; cases hq
          have := D10.lt y (by rw [hy]; simp)
          omega
      · exact hy
    · exact hy
  have hpn : ∀ b o, s11.a = some (b, o) → lab' b = some .pn := fun b o hb => by rw [hlab']; simp [labA, hb]
  have hnew : ∀ y, lab' y ≠ none → lab y ≠ none ∨ (h10.size ≤ y ∧ y < h12.size) := fun y hy => by
    rw [hlab'] at hy
    unfold labA at hy
    split at hy
    · rename_i q o hq
      split at hy
      · rename_i hyq
        subst hyq
        rcases g12.new with h1 | ⟨b', h1, h2⟩
        · left; rw [D.lpn y o (h1 ▸ hq)]; simp
        · right; rw [h1] at hq; cases hq; exact ⟨h2, (o12.lt y 0 h1).1⟩
      · exact .inl hy
    · exact .inl hy
  have nop : ∀ y l, lab y = some l → l ≠ .pn → ¬ ∃ o, V.sp.a = some (y, o) := fun y l hy hn ⟨o, ho⟩ => by rw [D.lpn y o ho] at hy; cases hy; exact hn rfl
  have kc := D10.blk.ext g12.ext (nop _ _ D.lc (by simp))
  refine NilC.mk rfl (StC.one kc (by simp) fun h15 hs15 k15 e15 => NilC.mk rfl ⟨s11, k15.cell rfl, ?_⟩)
  have e1015 : Ext (fun y => lab y = some .pn ∨ lab y = some .c) h10 h15 := (g12.ext.mono fun y ⟨o, ho⟩ => .inl (D.lpn y o ho)).trans (e15.mono fun y hy => .inr (by rw [show y = c from hy]; exact D.lc))
  have no : ∀ y l, lab y = some l → l ≠ .pn → l ≠ .c → ¬ (lab y = some .pn ∨ lab y = some .c) := fun y l hy h1 h2 hh => by
    rcases hh with hh | hh
    · rw [hy] at hh; cases hh; exact h1 rfl
    · rw [hy] at hh; cases hh; exact h2 rfl
  have hcp : ∀ o, s11.a ≠ some (c, o) := fun o ho => by have h1 := hpn c o ho; rw [hold _ _ D.lc] at h1; cases h1
  have hlen : (s11.len : Int) = σ.last + 1 := by
    have := o12.len
    simp only [List.length_append, List.length_singleton] at this
    rw [this, D.last]; omega
  rw [hlen]
  refine k h15 lab' { V with sp := s11, P := V.P ++ [some x] } ?_ ⟨hold, fun y hy => (hnew y hy).imp id fun hh => by have := e10.size; omega⟩ ?_
  · refine ⟨k15, D10.lo.ext e1015 fun ⟨b, o, hb, hS⟩ => no _ _ (D.llr b o hb) (by simp) (by simp) hS, D10.wo.ext e1015 fun ⟨b, o, hb, hS⟩ => no _ _ (D.lwr b o hb) (by simp) (by simp) hS, o12.ext e15 fun ⟨b, o, hb, hS⟩ => hcp o (by rw [← show b = c from hS]; exact hb), D.ll, D.wl,
      fun i s y h1 h2 => ⟨(D10.ls i s y h1 h2).1.ext e1015 fun ⟨b, o, hb, hS⟩ => no _ _ ((D10.ls i s y h1 h2).2 b o hb) (by simp) (by simp) hS, fun b o hb => hold _ _ ((D10.ls i s y h1 h2).2 b o hb)⟩,
      fun i s y h1 h2 => ⟨(D10.ws i s y h1 h2).1.ext e1015 fun ⟨b, o, hb, hS⟩ => no _ _ ((D10.ws i s y h1 h2).2 b o hb) (by simp) (by simp) hS, fun b o hb => hold _ _ ((D10.ws i s y h1 h2).2 b o hb)⟩,
      fun p Y hp => ⟨(D10.its p Y hp).1.ext e1015 (no _ _ (D10.its p Y hp).2 (by simp) (by simp)), hold _ _ (D10.its p Y hp).2⟩, fun n y => pins_add D.last D.pin n y, ?_, hold _ _ D.lc, fun b o hb => hold _ _ (D.llr b o hb), fun b o hb => hold _ _ (D.lwr b o hb), hpn, fun y hy => ?_, D.r0, D.r1, D.n0, D.n1⟩
    · show σ.last + 1 = ((V.P ++ [some x]).length : Int)
      rw [D.last]; simp
    · rcases hnew y hy with h1 | ⟨h1, h2⟩
      · exact Nat.lt_of_lt_of_le (D10.lt y h1) e1015.size
      · omega
  · exact ((e5.mono fun y hy => by rw [show y = x from hy, hit.2]; simp).then0 e10).trans (e1015.mono fun y hy => by rcases hy with h | h <;> rw [h] <;> simp)

/-- The entry of a pin. -/
theorem c116 {h : Heap} {lab : Nat → Option DL} {c : Nat} {V : DV} {σ : CS} (D : DR h lab c V σ) {n : Int} (hn0 : -9223372036854775808 ≤ n) (hn1 : n ≤ 9223372036854775807) {R : Option (Nat × Nat) → Heap → Prop}
    (k0 : (∀ y ∈ σ.pins, y.1 ≠ n) → R none h) (k1 : ∀ x, (n, x) ∈ σ.pins → 1 ≤ n → (n - 1).toNat < V.P.length → R (some (x, 0)) h) :
    Call Go.Proofs.Try.prog 116 [.lf (.ptr (some (c, 0))), .lf (.int .i64 n)] h [.one .ptr] R := by
  have hpl := D.po.len
  refine ok116 (Br.dec (fun hlt => k0 fun y hy h => ?_) fun hge => NilC.mk rfl ⟨V.sp, D.blk.cell rfl, Br.dec (fun hgt => k0 fun y hy h => ?_) fun hle => ?_⟩)
  · have := ((D.pin y.1 y.2).1 hy).1; omega
  · have := ((D.pin y.1 y.2).1 hy)
    rw [List.getElem?_eq_none (by omega)] at this
    cases this.2
  · have hlt : (n - 1).toNat < V.P.length := by omega
    rw [wi64 (by omega) (by omega)]
    refine NilC.mk rfl ⟨V.sp, D.blk.cell rfl, (D.po.arr opF_sized).ix (k := (n - 1).toNat) (by omega) (List.getElem?_eq_getElem hlt) fun b o hc => ⟨_, hc, ?_⟩⟩
    cases hP : V.P[(n - 1).toNat] with
    | none =>
      refine k0 fun y hy h => ?_
      have := ((D.pin y.1 y.2).1 hy).2
      rw [h, List.getElem?_eq_getElem hlt, hP] at this
      cases this
    | some x => exact k1 x ((D.pin n x).2 ⟨by omega, by rw [List.getElem?_eq_getElem hlt, hP]⟩) (by omega) hlt

end Go.V.Yteojmnnobmpdiaa
