/- This text proves a part of the laws of seat Ytclffphegfhocaa, under no condition: B3d. -/
import Derived.Test.YtclffphegfhocaaB3c
set_option linter.unusedVariables false
set_option linter.unusedSimpArgs false
/-! The batch. -/
namespace Go.V.Ytclffphegfhocaa
open Go Go.V

/-- A batch. -/
structure Bt where
  recs : List Rec
  size : Int
  marks : List Int

/-- A batch in memory, its parts; F is where it lies. -/
structure BatC (h : Heap) (g : Nat) (F : Nat → Prop) (x : Bt) (sl sm : Slc) : Prop where
  blk : Blk h g 26 [.slc sl, .int .i64 x.size, .slc sm]
  recs : Own 4 Rec.lfs h sl x.recs
  marks : Own 1 iF h sm x.marks
  gin : F g
  lt : ∀ b, F b → b < h.size
  hl : ∀ b off, sl.a = some (b, off) → F b ∧ b ≠ g
  hm : ∀ b off, sm.a = some (b, off) → F b ∧ b ≠ g ∧ ∀ off', sl.a ≠ some (b, off')
def Bat (h : Heap) (g : Nat) (F : Nat → Prop) (x : Bt) : Prop := ∃ sl sm, BatC h g F x sl sm

theorem BatC.ext {h h' : Heap} {g : Nat} {F S : Nat → Prop} {x : Bt} {sl sm : Slc} (B : BatC h g F x sl sm) (e : Ext S h h') (hs : ∀ b, F b → ¬ S b) : BatC h' g F x sl sm :=
  ⟨B.blk.ext e (hs _ B.gin), B.recs.ext e fun ⟨b, off, hb, hS⟩ => hs b (B.hl b off hb).1 hS, B.marks.ext e fun ⟨b, off, hb, hS⟩ => hs b (B.hm b off hb).1 hS, B.gin, fun b hb => Nat.lt_of_lt_of_le (B.lt b hb) e.size, B.hl, B.hm⟩
theorem BatC.ext0 {h h' : Heap} {g : Nat} {F : Nat → Prop} {x : Bt} {sl sm : Slc} (B : BatC h g F x sl sm) (e : Ext0 h h') : BatC h' g F x sl sm := B.ext e fun _ _ k => k
theorem Bat.ext {h h' : Heap} {g : Nat} {F S : Nat → Prop} {x : Bt} (B : Bat h g F x) (e : Ext S h h') (hs : ∀ b, F b → ¬ S b) : Bat h' g F x := let ⟨sl, sm, C⟩ := B; ⟨sl, sm, C.ext e hs⟩
theorem Bat.ext0 {h h' : Heap} {g : Nat} {F : Nat → Prop} {x : Bt} (B : Bat h g F x) (e : Ext0 h h') : Bat h' g F x := B.ext e fun _ _ k => k
theorem Bat.lt {h : Heap} {g : Nat} {F : Nat → Prop} {x : Bt} (B : Bat h g F x) : ∀ b, F b → b < h.size := let ⟨sl, sm, C⟩ := B; C.lt
theorem Bat.g {h : Heap} {g : Nat} {F : Nat → Prop} {x : Bt} (B : Bat h g F x) : F g := let ⟨sl, sm, C⟩ := B; C.gin

/-- A new batch. -/
theorem Bat.new {h : Heap} {b : Nat} (k : Blk h b 26 [.slc ⟨none, 0, 0⟩, .int .i64 0, .slc ⟨none, 0, 0⟩]) : Bat h b (fun x => x = b) ⟨[], 0, []⟩ :=
  ⟨_, _, k, Own.nil _ _ _, Own.nil _ _ _, rfl, fun x hx => hx ▸ k.lt, fun b off e => absurd e (by simp), fun b off e => absurd e (by simp)⟩

/-- Of a batch the records are put anew. -/
theorem BatC.setRecs {h h2 h3 : Heap} {g : Nat} {F : Nat → Prop} {x : Bt} {sl sm s' : Slc} {l' : List Rec} {n : Int} (B : BatC h g F x sl sm) (gr : Grow sl h s' h2) (o : Own 4 Rec.lfs h2 s' l')
    (k : Blk h2 g 26 [.slc sl, .int .i64 x.size, .slc sm] → Blk h3 g 26 [.slc s', .int .i64 n, .slc sm]) (e : Ext (fun i => i = g) h2 h3) :
    ∃ F', Bat h3 g F' ⟨l', n, x.marks⟩ ∧ Ext F h h3 ∧ Sub F F' h := by
  have hg := B.blk.lt
  have hnew : ∀ b off, s'.a = some (b, off) → b ≠ g ∧ ∀ off', sm.a ≠ some (b, off') := fun b off hb => by
    rcases gr.new with h1 | ⟨b', h1, h4⟩
    · exact ⟨(B.hl b off (h1 ▸ hb)).2, fun off' hx => (B.hm b off' hx).2.2 off (h1 ▸ hb)⟩
    · rw [h1] at hb; cases hb
      exact ⟨by omega, fun off' hx => by have := B.lt b (B.hm b off' hx).1; omega⟩
  refine ⟨fun b => F b ∨ ∃ off, s'.a = some (b, off), ⟨s', sm, k (B.blk.ext gr.ext fun ⟨off, hx⟩ => (B.hl _ _ hx).2 rfl), o.ext e fun ⟨b, off, hb, hx⟩ => (hnew b off hb).1 hx, (B.marks.ext gr.ext fun ⟨b, off, hb, off', hx⟩ => (B.hm b off hb).2.2 off' hx).ext e fun ⟨b, off, hb, hx⟩ => (B.hm b off hb).2.1 hx, .inl B.gin, ?_, fun b off hb => ⟨.inr ⟨off, hb⟩, (hnew b off hb).1⟩, fun b off hb => ⟨.inl (B.hm b off hb).1, (B.hm b off hb).2.1, fun off' hx => (hnew b off' hx).2 off hb⟩⟩, ?_, ?_⟩
  · rintro b (hb | ⟨off, hb⟩)
    · exact Nat.lt_of_lt_of_le (B.lt b hb) (Nat.le_trans gr.ext.size e.size)
    · exact Nat.lt_of_lt_of_le (o.lt b off hb).1 e.size
  · exact (gr.ext.mono fun i ⟨off, hx⟩ => (B.hl i off hx).1).trans (e.mono fun i hx => hx ▸ B.gin)
  · rintro b (hb | ⟨off, hb⟩)
    · exact .inl hb
    · rcases gr.new with h1 | ⟨b', h1, h4⟩
      · exact .inl (B.hl b off (h1 ▸ hb)).1
      · rw [h1] at hb; cases hb; exact .inr h4

def bad : List Rec → Int
  | [] => 0
  | r :: l => if checkE r ≠ 0 then checkE r else bad l
def tot : List Rec → Int
  | [] => 0
  | r :: l => (encR r).length + tot l
def m12 (n : Int) : Int := if (12 : Int) > n then 12 else n
def allB (x : Bt) (l : List Rec) : Int × Bt :=
  if bad l ≠ 0 then (bad l, x)
  else if (x.recs.length : Int) + l.length > 4096 ∨ m12 x.size + tot l > 4194304 then (2, x)
  else (0, ⟨x.recs ++ l.map plainR, m12 x.size + tot l, x.marks⟩)

theorem tot_nonneg : ∀ l, 0 ≤ tot l
  | [] => Int.le_refl _
  | r :: l => by have := tot_nonneg l; simp only [tot]; omega
theorem tot_append : ∀ l m, tot (l ++ m) = tot l + tot m
  | [], m => by simp [tot]
  | r :: l, m => by simp only [List.cons_append, tot, tot_append l m]; omega

theorem check_size {r : Rec} (h : checkE r = 0) : r.key.size ≤ 1024 ∧ (r.kind ≠ 0 → r.val.size ≤ 16384) := by
  unfold checkE at h
  split at h
  · rename_i h0; split at h
    · cases h
    · exact ⟨by omega, fun x => absurd h0 x⟩
  · split at h
    · split at h
      · cases h
      · split at h
        · cases h
        · exact ⟨by omega, fun _ => by omega⟩
    · split at h
      · split at h
        · cases h
        · split at h
          · cases h
          · exact ⟨by omega, fun _ => by omega⟩
      · cases h

theorem enc_le {r : Rec} (hr : r.Ok) (h : checkE r = 0) : (encR r).length ≤ 20000 := by
  obtain ⟨h1, h2⟩ := check_size h
  have := hr.f0; have := hr.f1
  have hl1 := varint_len10 (n := r.fam.toNat) (by omega)
  have hl2 := varint_len10 (n := r.key.size) (by omega)
  unfold encR
  split
  · simp [bsize] at *; omega
  · rename_i h0
    have := h2 h0
    have hl3 := varint_len10 (n := r.val.size) (by omega)
    simp only [List.length_cons, List.length_append, bsize]; omega

theorem tot_le : ∀ {l : List Rec}, (∀ r ∈ l, r.Ok) → bad l = 0 → tot l ≤ 20000 * (l.length : Int)
  | [], _, _ => by simp [tot]
  | r :: l, h, hb => by
    simp only [bad] at hb
    split at hb
    · rename_i hne; exact absurd hb hne
    · rename_i he
      have := tot_le (fun x hx => h x (List.mem_cons_of_mem _ hx)) hb
      have := enc_le (h r (List.mem_cons_self ..)) (by simpa using he)
      simp only [tot, List.length_cons]; omega

theorem drop_cons {α : Type} {l : List α} {n : Nat} (h : n < l.length) : l.drop n = l[n] :: l.drop (n + 1) := List.drop_eq_getElem_cons h
theorem take_succ' {α : Type} {l : List α} {n : Nat} (h : n < l.length) : l.take (n + 1) = l.take n ++ [l[n]] := by rw [List.take_succ_eq_append_getElem h]

theorem bad_take : ∀ {l : List Rec} {n : Nat}, bad l = bad (l.drop n) → bad (l.take n) = 0 ∨ bad l ≠ 0
  | [], _, _ => by simp [bad]
  | r :: l, 0, _ => by simp [bad]
  | r :: l, n + 1, h => by
    simp only [List.take_succ_cons, bad, List.drop_succ_cons] at *
    by_cases hr : checkE r = 0
    · simp [hr] at *; exact bad_take h
    · simp [hr] at *

/-- The loop over the elements ahead: none of them is bad. -/
theorem bad_step {l : List Rec} {n : Nat} (hn : n < l.length) (hp : bad (l.take n) = 0) (hc : checkE l[n] = 0) : bad (l.take (n + 1)) = 0 := by
  induction l generalizing n with
  | nil => simp at hn
  | cons r l ih =>
    cases n with
    | zero => simp [bad] at *; exact fun x => absurd hc x
    | succ n =>
      simp only [List.take_succ_cons, bad] at *
      split at hp
      · rename_i hne; exact absurd hp hne
      · rename_i he; rw [if_neg he]; exact ih (by simpa using hn) hp (by simpa using hc)
theorem bad_at {l : List Rec} {n : Nat} (hn : n < l.length) (hp : bad (l.take n) = 0) (hc : checkE l[n] ≠ 0) : bad l = checkE l[n] := by
  induction l generalizing n with
  | nil => simp at hn
  | cons r l ih =>
    cases n with
    | zero => simp [bad] at *; exact fun x => absurd x hc
    | succ n =>
      simp only [List.take_succ_cons, bad] at *
      split at hp
      · rename_i hne; exact absurd hp hne
      · rename_i he; rw [if_neg he]; exact ih (by simpa using hn) hp (by simpa using hc)

theorem c26 {h : Heap} {g : Nat} {F : Nat → Prop} {x : Bt} {s : Slc} {l : List Rec} (B : Bat h g F x) (h0 : 0 ≤ x.size) (h1 : x.size ≤ 4194304) (h2 : x.recs.length ≤ 4096)
    (a : Arr 4 Rec.lfs h s l) (hs : ¬ s.inS F) (hl : l.length ≤ 4096) (hok : ∀ r ∈ l, r.Ok) {R : Int → Heap → Prop}
    (k : ∀ h' F', Bat h' g F' (allB x l).2 → Ext F h h' → Sub F F' h → R (allB x l).1 h') :
    Call Go.Proofs.Try.prog 26 [.lf (.ptr (some (g, 0))), .lf (.slc s)] h [.one (.int .i64)] R := by
  have hlen := a.len
  obtain ⟨sl0, sm0, B0⟩ := id B
  have k0 := B0.blk
  have ol0 := B0.recs
  refine ok26 (NilC.mk rfl ⟨x.size, k0.cell rfl, fun i n h' d => ∃ m : Nat, n = m ∧ m ≤ l.length ∧ d = l.length - m ∧ i = m12 x.size + tot (l.take m) ∧ bad (l.take m) = 0 ∧ Ext0 h h', ⟨_, 0, rfl, by omega, rfl, by simp [tot, m12], rfl, Ext.refl _ _⟩, ?_⟩)
  rintro _ _ h7 _ ⟨m, rfl, hm, rfl, rfl, hbad, e⟩
  have hm12 : m12 x.size ≤ 4194304 ∧ 0 ≤ m12 x.size := by unfold m12; split <;> omega
  have htl := tot_le (l := l.take m) (fun r hr => hok r (List.mem_of_mem_take hr)) hbad
  have htn := tot_nonneg (l.take m)
  have hlt : (l.take m).length ≤ 4096 := by simp; omega
  refine Br.dec (fun hi => ?_) fun hi => ?_
  · have hi' : m < l.length := by omega
    have hx : l[m]? = some l[m] := List.getElem?_eq_getElem hi'
    have hmem := hok _ (List.getElem_mem hi')
    refine (a.ext0 e).ix rfl hx fun b off hc => ⟨_, _, _, _, hc, New.mk fun b1 h8 hb1 hs8 e8 _ => Set.mk fun h9 hs9 e9 _ => ?_⟩
    refine c19 fun h10 e10 => ⟨e10.keep (by omega), Br.ne (fun hne => ?_) fun heq => ?_⟩
    · have hb := bad_at hi' hbad hne
      have e' : Ext0 h h10 := (Ext.tmp (e.trans e8) e9 (by have := e.size; omega)).trans e10
      have := k h10 F (by simp only [allB, hb]; rw [if_pos hne]; exact B.ext0 e') e'.of0 fun b hb => .inl hb
      simp only [allB, hb] at this
      rwa [if_pos hne] at this
    · obtain ⟨hk1, hk2⟩ := check_size heq
      refine c30 hmem (by omega) (fun hh => by have := hk2 hh; omega) fun s11 h11 o11 f11 => ⟨f11.ext.keep (by have := e10.size; omega), ?_⟩
      have he := enc_le hmem heq
      have e' : Ext0 h h11 := ((Ext.tmp (e.trans e8) e9 (by have := e.size; omega)).trans e10).trans f11.ext
      rw [o11.len, wi64 (by omega) (by omega), wi64 (by omega) (by omega)]
      refine ⟨_, by omega, m + 1, by omega, by omega, rfl, ?_, bad_step hi' hbad heq, e'⟩
      rw [take_succ' hi', tot_append]; simp [tot]; omega
  · have hml : m = l.length := by omega
    subst hml
    rw [List.take_length] at *
    refine ⟨fun c h' => h' = h7 ∧ c = decide ((x.recs.length : Int) + l.length > 4096 ∨ m12 x.size + tot l > 4194304), ?_, ?_⟩
    · refine NilC.mk rfl ⟨sl0, (k0.ext e).cell rfl, ?_⟩
      rw [ol0.len, hlen, wi64 (by omega) (by omega)]
      refine Br.dec (fun hh => ⟨rfl, by simp; omega⟩) fun hh => ⟨rfl, ?_⟩
      rw [Bool.eq_iff_iff]; simp only [decide_eq_true_eq]; omega
    · rintro c _ ⟨rfl, rfl⟩
      refine Br.dec (fun hh => ?_) fun hh => ?_
      · have := k _ F (by simp only [allB, hbad, ne_eq, not_true, if_false]; rw [if_pos hh]; exact B.ext0 e) e.of0 fun b hb => .inl hb
        simp only [allB, hbad, ne_eq, not_true, if_false] at this
        rwa [if_pos hh] at this
      · simp only [allB, hbad, ne_eq, not_true, if_false, if_neg hh] at k
        refine ⟨fun n h' d => ∃ (m : Nat) (F' : Nat → Prop), n = m ∧ m ≤ l.length ∧ d = l.length - m ∧ Bat h' g F' ⟨x.recs ++ (l.take m).map plainR, x.size, x.marks⟩ ∧ Ext F h h' ∧ Sub F F' h, ⟨_, 0, F, rfl, by omega, rfl, by simpa using B.ext0 e, e.of0, fun b hb => .inl hb⟩, ?_⟩
        rintro _ h32 _ ⟨m, F', rfl, hm, rfl, B', e', hF'⟩
        refine Br.dec (fun hi => ?_) fun hi => ?_
        · have hi' : m < l.length := by omega
          have hx : l[m]? = some l[m] := List.getElem?_eq_getElem hi'
          refine (a.ext e' hs).ix rfl hx fun b off hc => ⟨_, _, _, _, hc, New.mk fun b1 h8 hb1 hs8 e8 _ => Set.mk fun h9 hs9 e9 _ => ?_⟩
          have e9' : Ext0 h32 h9 := Ext.tmp e8 e9 (by omega)
          obtain ⟨sl, sm, C⟩ := B'.ext0 e9'
          refine NilC.mk rfl ⟨sl, C.blk.cell rfl, c54 fun h10 e10 => ⟨e10.keep (by omega), (C.blk.ext e10).cell rfl, New.mk fun b2 h11 hb2 hs11 e11 kb2 => ⟨((C.blk.ext e10).ext e11).cell rfl, ?_⟩⟩⟩
          have hsz := e10.size
          have hrl : (x.recs ++ (l.take m).map plainR).length ≤ 4096 := by simp; omega
          have ea : Ext0 h9 h11 := e10.trans e11
          have C1 := C.ext0 ea
          refine AppC.grow lfs_sized (by decide) rfl C1.recs ((Own.new (l := [plainR l[m]]) lfs_sized kb2).arr lfs_sized) (by simp only [List.length_singleton] ; omega) fun s12 h12 o12 g12 => ?_
          have hszF := B'.lt
          have hb1g : g ≠ b1 := fun he => by have := hszF g B'.g; omega
          refine ⟨g12.keep (by omega) (fun off hx => by have := hszF _ (C1.hl _ _ hx).1; omega), NilC.mk rfl (StC.one (C1.blk.ext g12.ext fun ⟨off, hx⟩ => (C1.hl _ _ hx).2 rfl) (by simp) fun h13 hs13 k13 e13 => ⟨e13.keep (by have := g12.ext.size; omega) (fun he => hb1g he.symm), ?_⟩)⟩
          obtain ⟨F'', B'', e'', s''⟩ := C1.setRecs g12 o12 (fun _ => k13) e13
          rw [wi64 (by omega) (by omega)]
          have e32 : Ext F' h32 h13 := (e9'.trans ea).of0.trans e''
          refine ⟨_, by omega, m + 1, F'', by omega, by omega, rfl, ?_, e'.sub e32 hF', hF'.trans s'' (Nat.le_trans e'.size (e9'.trans ea).size)⟩
          rw [take_succ' hi', List.map_append, ← List.append_assoc]; exact B''
        · have hml : m = l.length := by omega
          subst hml
          rw [List.take_length] at *
          obtain ⟨sl, sm, C⟩ := id B'
          refine NilC.mk rfl (StC.one C.blk (by simp) fun h13 hs13 k13 e13 => ?_)
          obtain ⟨F'', B'', e'', s''⟩ := C.setRecs (s' := sl) ⟨Ext.refl _ _, .inl rfl⟩ C.recs (fun _ => k13) e13
          exact k _ _ B'' (e'.sub e'' hF') (hF'.trans s'' e'.size)

end Go.V.Ytclffphegfhocaa
