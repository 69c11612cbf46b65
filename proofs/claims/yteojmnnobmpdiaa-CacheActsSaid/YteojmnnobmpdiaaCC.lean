/- This text proves a part of the laws of seat Yteojmnnobmpdiaa, under no condition: C11h C11i C11j C11k C11l C11m C11m2. -/
import Derived.Test.YteojmnnobmpdiaaCB
set_option linter.unusedVariables false
set_option linter.unusedSimpArgs false
/-! The cache: Put. -/
namespace Go.V.Yteojmnnobmpdiaa
open Go Go.V

def CS.shAt (σ : CS) (i : Nat) : Sh := σ.sh[i]?.getD ⟨[], [], []⟩

/-- What making room leaves as it is. -/
structure Same (σ σ' : CS) : Prop where
  room : σ'.room = σ.room
  strict : σ'.strict = σ.strict
  last : σ'.last = σ.last
  pins : σ'.pins = σ.pins
  len : σ'.sh.length = σ.sh.length

theorem Same.refl (σ : CS) : Same σ σ := ⟨rfl, rfl, rfl, rfl, rfl⟩
theorem Same.trans {a b c : CS} (h : Same a b) (k : Same b c) : Same a c := ⟨k.room.trans h.room, k.strict.trans h.strict, k.last.trans h.last, k.pins.trans h.pins, k.len.trans h.len⟩
theorem goneS_same (σ : CS) (i : Nat) (s : Sh) (x : Nat) (X : It) : Same σ (goneS σ i s x X) := by
  unfold goneS CS.setSh CS.setIt; split <;> exact ⟨rfl, rfl, rfl, rfl, by simp⟩
theorem makesS_same (i : Nat) (more room : Int) : ∀ (n : Nat) (σ : CS), Same σ (makesS i more room n σ)
  | 0, σ => Same.refl σ
  | n + 1, σ => by
    unfold makesS
    split
    · split
      · exact Same.refl σ
      · split
        · split
          · exact (goneS_same ..).trans (makesS_same i more room n _)
          · exact Same.refl σ
        · exact Same.refl σ
    · exact Same.refl σ
theorem makesS_Has (i : Nat) (more room : Int) : ∀ (n : Nat) (σ : CS) (s : Sh), σ.sh[i]? = some s → Has σ s → ∃ s', (makesS i more room n σ).sh[i]? = some s' ∧ Has (makesS i more room n σ) s'
  | 0, σ, s, hs, H => ⟨s, hs, H⟩
  | n + 1, σ, s, hs, H => by
    unfold makesS
    rw [hs]
    simp only
    split
    · exact ⟨s, hs, H⟩
    · split
      · split
        · rename_i X hX
          exact makesS_Has i more room n _ _ (goneS_sh hs) (goneS_Has hX H)
        · exact ⟨s, hs, H⟩
      · exact ⟨s, hs, H⟩
theorem outS_same (σ : CS) (i : Nat) (s : Sh) (x : Nat) (X : It) : Same σ (outS σ i s x X) := by
  have h1 : Same σ ((σ.setIt x { X with inn := false }).setSh i { s with ins := adel .str X.key s.ins }) := ⟨rfl, rfl, rfl, rfl, by simp [CS.setSh, CS.setIt]⟩
  unfold outS
  split
  · exact h1.trans (goneS_same ..)
  · exact h1
theorem outS_Has {σ : CS} {i : Nat} {s : Sh} {x : Nat} {X : It} (hs : σ.sh[i]? = some s) (H : Has σ s) : ∃ s', (outS σ i s x X).sh[i]? = some s' ∧ Has (outS σ i s x X) s' := by
  have hi : i < σ.sh.length := by
    rcases Nat.lt_or_ge i σ.sh.length with h' | h'
    · exact h'
    · rw [List.getElem?_eq_none h'] at hs; cases hs
  have has : ∀ p, (∃ Y, σ.it p = some Y) → ∃ Y, ((σ.setIt x { X with inn := false }).setSh i { s with ins := adel .str X.key s.ins }).it p = some Y := fun p ⟨Y, hY⟩ => by
    simp only [CS.setIt, CS.setSh]
    split
    · exact ⟨_, rfl⟩
    · exact ⟨Y, hY⟩
  have hs1 : ((σ.setIt x { X with inn := false }).setSh i { s with ins := adel .str X.key s.ins }).sh[i]? = some { s with ins := adel .str X.key s.ins } := by simp [CS.setIt, CS.setSh, hi]
  have H1 : Has ((σ.setIt x { X with inn := false }).setSh i { s with ins := adel .str X.key s.ins }) { s with ins := adel .str X.key s.ins } :=
    ⟨fun p hp => has p (H.all p hp), fun p hp => has p (H.waits p hp), H.len, fun e he => has e.2 (H.ins e ((adel_sub _).subset he))⟩
  have hx1 : ((σ.setIt x { X with inn := false }).setSh i { s with ins := adel .str X.key s.ins }).it x = some { X with inn := false } := by simp [CS.setIt, CS.setSh]
  unfold outS
  split
  · exact ⟨_, goneS_sh hs1, goneS_Has hx1 H1⟩
  · exact ⟨_, hs1, H1⟩

def lookK (key : ByteArray) (l : List (ByteArray × Nat)) : Option Nat := (l.find? fun e => strEq key e.1).map (·.2)
theorem lookK_some {key : ByteArray} {l : List (ByteArray × Nat)} {q : Nat} (h : lookK key l = some q) : (key, q) ∈ l := by
  unfold lookK at h
  cases hf : l.find? fun e => strEq key e.1 with
  | none => rw [hf] at h; cases h
  | some e =>
    rw [hf] at h
    have h1 := List.mem_of_find?_eq_some hf
    have h2 := List.find?_some hf
    have h3 := (MapKept.bytes_beq key e.1).1 h2
    simp only [Option.map_some, Option.some.injEq] at h
    rw [h3, ← h]; exact h1
theorem lookK_none {key : ByteArray} {l : List (ByteArray × Nat)} (h : lookK key l = none) : ∀ e ∈ l, e.1 ≠ key := by
  unfold lookK at h
  simp only [Option.map_eq_none_iff, List.find?_eq_none] at h
  intro e he hk
  exact h e he ((MapKept.bytes_beq key e.1).2 hk.symm)

theorem aput_all {x : Nat} {l : List Nat} (hx : x ∉ l) : aput .ptr (some (x, 0)) true (l.map fun p => ((some (p, 0), true) : Option (Nat × Nat) × Bool)) = (l ++ [x]).map fun p => (some (p, 0), true) := by
  rw [aput_new (kt := .ptr) trivial]
  · simp
  · intro y hy
    obtain ⟨p, hp, rfl⟩ := List.mem_map.1 hy
    intro he
    simp at he
    subst he; exact hx hp

/-- A new entry. -/
theorem CR.newIt {h h' : Heap} {lab : Nat → Option Lab} {c : Nat} {row : Slc} {pm : Nat} {bs : List Nat} {σ : CS} {b : Nat} {X : It} (C : CR h lab c row pm bs σ) (e : Ext0 h h') (hb : b = h.size) (k : Blk h' b 124 X.lfs) (ok : ItOk X) :
    CR h' (fun y => if y = b then some .it else lab y) c row pm bs (σ.setIt b X) ∧ ∀ y l, lab y = some l → (fun y => if y = b then some Lab.it else lab y) y = some l := by
  have hl : ∀ y l, lab y = some l → (fun y => if y = b then some Lab.it else lab y) y = some l := fun y l hy => by
    have := C.lt y (by rw [hy]; simp)
    show (if y = b then some Lab.it else lab y) = some l
    rw [if_neg (by omega)]; exact hy
  refine ⟨⟨C.blk.ext e, C.rowo.ext0 e, C.len, fun i s b' h1 h2 => ?_, C.pins.ext e, fun p Y hp => ?_, hl _ _ C.lc, fun x o hx => hl _ _ (C.lrow x o hx), hl _ _ C.lpm, fun y hy => ?_, C.r0, C.r1, C.n0, C.n1⟩, hl⟩
  · obtain ⟨im, am, ws, r⟩ := C.shs i s b' h1 h2
    exact ⟨im, am, ws, r.ext' e (fun _ _ _ _ x => x) hl⟩
  · simp only [CS.setIt] at hp
    split at hp
    · rename_i hpb
      cases hp
      exact ⟨hpb ▸ k, by simp [hpb], ok⟩
    · have := C.its p Y hp
      exact ⟨this.1.ext e, hl _ _ this.2.1, this.2.2⟩
  · have hy : (if y = b then some Lab.it else lab y) ≠ none := hy
    split at hy
    · rename_i hyb; rw [hyb]; exact k.lt
    · exact Nat.lt_of_lt_of_le (C.lt y hy) e.size

/-- Put, behind the room that was made. -/
def putT (σ : CS) (i : Nat) (key : ByteArray) (v ch : Int) (p : Nat) : CS :=
  let σ2 := match lookK key (σ.shAt i).ins with
    | some q => (match σ.it q with | some X => outS σ i (σ.shAt i) q X | none => σ)
    | none => σ
  let σ3 := (σ2.setIt p ⟨key, v, ch, true, 0⟩).setSh i ⟨aput .str key p (σ2.shAt i).ins, (σ2.shAt i).all ++ [p], (σ2.shAt i).waits⟩
  pinS σ3 p ⟨key, v, ch, true, 0⟩
def putM (σ : CS) (key : ByteArray) (ch : Int) : CS := makesS (shardOf σ.sh.length key) ch (share σ) (σ.shAt (shardOf σ.sh.length key)).waits.length σ

theorem shAt_of {σ : CS} {i : Nat} {s : Sh} (h : σ.sh[i]? = some s) : σ.shAt i = s := by simp [CS.shAt, h]
theorem share_same {σ σ' : CS} (h : Same σ σ') : share σ' = share σ := by unfold share; rw [h.room, h.len]

/-- A cache's labels go on. -/
structure Grows (lab lab' : Nat → Option Lab) (h : Heap) : Prop where
  old : ∀ y l, lab y = some l → lab' y = some l
  new : ∀ y, lab' y ≠ none → lab y ≠ none ∨ h.size ≤ y

theorem c14 {h : Heap} {lab : Nat → Option Lab} {c : Nat} {row : Slc} {pm : Nat} {bs : List Nat} {σ : CS} (C : CR h lab c row pm bs σ) {key : ByteArray} {v ch : Int} (hv0 : 0 ≤ v) (hv1 : v ≤ big) (hc0 : 0 ≤ ch) (hc1 : ch ≤ big) (hk : key.size ≤ 9223372036854775807)
    (H : ∀ (i : Nat) (s : Sh), σ.sh[i]? = some s → Has σ s) (l0 : 0 ≤ σ.last) (l1 : σ.last ≤ 4611686018427387904) {R : Int → Int → Heap → Prop}
    (k0 : key.size > 1024 → R 0 2 h)
    (k1 : key.size ≤ 1024 → σ.strict = true → plusS (usedS (putM σ key ch).it ((putM σ key ch).shAt (shardOf σ.sh.length key))) ch > share σ → ∀ h', CR h' lab c row pm bs (putM σ key ch) → Ext (fun y => lab y ≠ none) h h' → R 0 110 h')
    (k2 : key.size ≤ 1024 → ¬ (σ.strict = true ∧ plusS (usedS (putM σ key ch).it ((putM σ key ch).shAt (shardOf σ.sh.length key))) ch > share σ) → ∀ h' p lab', h.size ≤ p → lab' p = some .it →
      CR h' lab' c row pm bs (putT (putM σ key ch) (shardOf σ.sh.length key) key v ch p) → Grows lab lab' h → Ext (fun y => lab y ≠ none) h h' → R (σ.last + 1) 0 h') :
    Call Go.Proofs.Try.prog 14 [.lf (.ptr (some (c, 0))), .lf (.str key), .lf (.int .u64 v), .lf (.int .u64 ch)] h [.one (.int .i64), .one (.int .i64)] R := by
  refine ok14 (Br.dec (fun hb => k0 (by omega)) fun hb => ?_)
  have hks : key.size ≤ 1024 := by omega
  refine c67 C hk fun h1 b s e1 hbs hs => ?_
  have C1 := C.ext0 e1
  refine c69 C1 ?_
  have Hs := H _ s hs
  have hsh := shAt_of hs
  refine c68 C1 hs hbs Hs hc0 hc1 fun h4 C4 e4 => ?_
  have hM : makesS (shardOf σ.sh.length key) ch (share σ) s.waits.length σ = putM σ key ch := by unfold putM; rw [hsh]
  rw [hM] at C4
  have sameM : Same σ (putM σ key ch) := makesS_same ..
  obtain ⟨s4, hs4, H4⟩ : ∃ s', (putM σ key ch).sh[shardOf σ.sh.length key]? = some s' ∧ Has (putM σ key ch) s' := by rw [← hM]; exact makesS_Has _ _ _ _ _ _ hs Hs
  have hsh4 := shAt_of hs4
  generalize hσ : putM σ key ch = τ at *
  generalize hii : shardOf σ.sh.length key = i at *
  have e4' : Ext (fun y => lab y ≠ none) h h4 := e1.of0.trans (e4.mono fun y hy => by rcases hy with (h | h | h | h) | h <;> rw [h] <;> simp)
  have hur : 0 ≤ usedS τ.it s4 ∧ usedS τ.it s4 ≤ big := cap_range (sums_nonneg fun y hy => by
    obtain ⟨p, hp, rfl⟩ := List.mem_map.1 hy
    obtain ⟨Y, hY⟩ := H4.all p hp
    simp only [chOf, hY]; exact (C4.its p Y hY).2.2.c0)
  refine ⟨fun cc h' => CR h' lab c row pm bs τ ∧ Ext (fun y => lab y ≠ none) h h' ∧ (cc = true ↔ σ.strict = true ∧ plusS (usedS τ.it (τ.shAt i)) ch > share σ), ?_, ?_⟩
  · refine NilC.mk rfl ⟨τ.strict, C4.blk.cell rfl, Br.mk (fun hst => ?_) fun hst => ⟨C4, e4', by rw [← sameM.strict]; simp [hst]⟩⟩
    refine c71 C4 hs4 hbs H4.all fun h10 e10 => c70 hur.1 hur.2 hc0 hc1 (c69 (C4.ext0 e10) ⟨C4.ext0 e10, e4'.then0 e10, ?_⟩)
    rw [share_same sameM, ← sameM.strict, hsh4]
    simp [hst]
  · rintro cc h16 ⟨C16, e16, hcc⟩
    refine Br.mk (fun ht => ?_) fun hf => ?_
    · obtain ⟨h1, h2⟩ := hcc.1 ht
      exact k1 hks h1 h2 h16 C16 e16
    · have hno : ¬ (σ.strict = true ∧ plusS (usedS τ.it (τ.shAt i)) ch > share σ) := fun hh => by rw [hcc.2 hh] at hf; cases hf
      let σ2 : CS := match lookK key s4.ins with
        | some q => (match τ.it q with | some X => outS τ i s4 q X | none => τ)
        | none => τ
      obtain ⟨im, am, ws, S⟩ := C16.shs i s4 b hs4 hbs
      refine ⟨fun h' => CR h' lab c row pm bs σ2 ∧ Ext (fun y => lab y ≠ none) h h' ∧ Same τ σ2 ∧ ∃ s2, σ2.sh[i]? = some s2 ∧ Has σ2 s2, NilC.mk rfl ⟨some im, S.blk.cell rfl, ?_⟩, ?_⟩
      · cases hl : lookK key s4.ins with
        | none =>
          have : σ2 = τ := by simp only [σ2, hl]
          rw [this]
          exact ⟨none, false, S.ins.miss trivial (lookK_none hl) trivial _, Br.f rfl ⟨C16, e16, Same.refl _, s4, hs4, H4⟩⟩
        | some q =>
          have hq := lookK_some hl
          obtain ⟨X, hX⟩ := H4.ins _ hq
          have : σ2 = outS τ i s4 q X := by simp only [σ2, hl, hX]
          rw [this]
          refine ⟨some (q, 0), true, S.ins.hit trivial hq trivial _ rfl, Br.t rfl (c72 C16 hs4 hbs hX H4 fun h23 C23 e23 => ⟨C23, e16.trans (e23.mono fun y hy => by rcases hy with (h | h | h | h) | h <;> rw [h] <;> simp), outS_same .., outS_Has hs4 H4⟩)⟩
      · rintro h24 ⟨C24, e24, same2, s2, hs2, H2⟩
        have hi2 : i < σ2.sh.length := by
          rcases Nat.lt_or_ge i σ2.sh.length with h' | h'
          · exact h'
          · rw [List.getElem?_eq_none h'] at hs2; cases hs2
        refine New.mk fun p h26 hp hs26 e26 k26 => ?_
        obtain ⟨C26, hlab⟩ := C24.newIt (X := ⟨key, v, ch, true, 0⟩) e26 hp k26 ⟨hv0, hv1, hc0, hc1⟩
        generalize hlab' : (fun y => if y = p then some Lab.it else lab y) = lab' at *
        have hlp : lab' p = some .it := by rw [← hlab']; simp
        obtain ⟨im, am, ws, S⟩ := C26.shs i s2 b hs2 hbs
        have hpall : p ∉ s2.all := fun hm => by
          obtain ⟨Y, hY⟩ := H2.all p hm
          have := (C24.its p Y hY).1.lt
          omega
        refine NilC.mk rfl ⟨some im, S.blk.cell rfl, NilC.mk rfl ⟨some am, S.blk.cell rfl, ?_⟩⟩
        refine S.ins.ent (v := p) trivial trivial (fun q => ⟨some (q, 0), rfl⟩) rfl ⟨none, rfl⟩ fun h36 hs36 M36 e36 => ?_
        have e36' : Ext (fun y => lab' y = some (.im i)) h26 h36 := e36.mono fun y hy => by rw [show y = im from hy]; exact S.lim
        have noim : ∀ y l, lab' y = some l → l ≠ .im i → ¬ lab' y = some (.im i) := fun y l hy hn he => by rw [hy] at he; cases he; exact hn rfl
        have k36 := k26.ext e36' (noim _ _ hlp (by simp))
        refine (S.all.ext e36' (noim _ _ S.lam (by simp))).ent (v := true) (k := some (p, 0)) trivial ?_ (fun q => ⟨q, rfl⟩) rfl ⟨false, rfl⟩ fun h40 hs40 M40 e40 => ?_
        · intro y hy
          obtain ⟨q, hq, rfl⟩ := List.mem_map.1 hy
          obtain ⟨Y, hY⟩ := H2.all q hq
          have hqp : q ≠ p := fun he => hpall (he ▸ hq)
          have hC := C26.its q Y (by simp [CS.setIt, hqp, hY])
          exact .inr ⟨Blk.plain k36, Blk.plain (hC.1.ext e36' (noim _ _ hC.2.1 (by simp)))⟩
        have e40' : Ext (fun y => lab' y = some (.am i)) h36 h40 := e40.mono fun y hy => by rw [show y = am from hy]; exact S.lam
        have e2640 : Ext (fun y => lab' y = some (.im i) ∨ lab' y = some (.am i)) h26 h40 := (e36'.mono fun y hy => .inl hy).trans (e40'.mono fun y hy => .inr hy)
        have noam : ∀ y l, lab' y = some l → l ≠ .am i → ¬ lab' y = some (.am i) := fun y l hy hn he => by rw [hy] at he; cases he; exact hn rfl
        have no2 : ∀ y l, lab' y = some l → l ≠ .im i → l ≠ .am i → ¬ (lab' y = some (.im i) ∨ lab' y = some (.am i)) := fun y l hy h1 h2 hh => hh.elim (noim y l hy h1) (noam y l hy h2)
        rw [aput_all hpall] at M40
        have S40 : ShR h40 lab' i b im am ws ⟨aput .str key p s2.ins, s2.all ++ [p], s2.waits⟩ :=
          ⟨S.blk.ext e2640 (no2 _ _ S.lb (by simp) (by simp)), M36.ext e40' (noam _ _ S.lim (by simp)), M40, S.waits.ext e2640 fun ⟨y, o, hy, hY⟩ => no2 _ _ (S.lws y o hy) (by simp) (by simp) hY, S.lb, S.lim, S.lam, S.lws⟩
        have C40 := C26.upd (lab' := lab') e2640 (fun y l hy hS => by
          rcases hS with hS | hS
          · rw [hy] at hS; cases hS; exact .inr (.inl rfl)
          · rw [hy] at hS; cases hS; exact .inr (.inr (.inl rfl))) (fun _ _ k => k) (fun y hy => Nat.lt_of_lt_of_le (C26.lt y hy) e2640.size) hbs S40
        refine c73 C40 (x := p) (X := ⟨key, v, ch, true, 0⟩) (by simp [CS.setIt]) ?_ ?_ (show (-4611686018427387904 : Int) ≤ 0 by decide) (show (0 : Int) ≤ 4611686018427387904 by decide) fun h42 C42 e42 => ?_
        · show 0 ≤ σ2.last; rw [same2.last, sameM.last]; exact l0
        · show σ2.last ≤ _; rw [same2.last, sameM.last]; exact l1
        have hlast : ({ (σ2.setIt p ⟨key, v, ch, true, 0⟩) with sh := (σ2.setIt p ⟨key, v, ch, true, 0⟩).sh.set i ⟨aput .str key p s2.ins, s2.all ++ [p], s2.waits⟩ } : CS).last = σ.last := by
          show σ2.last = σ.last; rw [same2.last, sameM.last]
        rw [hlast]
        have hnew : ∀ y, lab' y ≠ none → lab y ≠ none ∨ h.size ≤ y := fun y hy => by
          rw [← hlab'] at hy
          simp only at hy
          split at hy
          · rename_i hyp; right; have := e24.size; omega
          · exact .inl hy
        have e2442 : Ext (fun y => lab' y ≠ none) h24 h42 := (e26.of0.trans (e2640.mono fun y hy => by rcases hy with h | h <;> rw [h] <;> simp)).trans (e42.mono fun y hy => by rcases hy with h | h | h <;> rw [h] <;> simp)
        refine k2 hks hno h42 p lab' (by have := e24.size; omega) hlp ?_ ⟨hlab, hnew⟩ (e24.trans' e2442 fun y hy hl => (hnew y hl).elim id fun hh => by omega)
        have hput : putT τ i key v ch p = pinS { (σ2.setIt p ⟨key, v, ch, true, 0⟩) with sh := (σ2.setIt p ⟨key, v, ch, true, 0⟩).sh.set i ⟨aput .str key p s2.ins, s2.all ++ [p], s2.waits⟩ } p ⟨key, v, ch, true, 0⟩ := by
          have h2 : (match lookK key (τ.shAt i).ins with
            | some q => (match τ.it q with | some X => outS τ i (τ.shAt i) q X | none => τ)
            | none => τ) = σ2 := by rw [hsh4]
          unfold putT
          rw [h2]
          simp only [shAt_of hs2]
          rfl
        rw [hput]
        exact C42

end Go.V.Yteojmnnobmpdiaa
set_option linter.unusedVariables false
set_option linter.unusedSimpArgs false
/-! The cache: Get, Drop, Room, Charge, Len, Free. -/
namespace Go.V.Yteojmnnobmpdiaa
open Go Go.V

theorem ofShIt_ne {lab : Nat → Option Lab} {i y : Nat} (h : ofShIt lab i y) : lab y ≠ none := by
  rcases h with (h | h | h | h) | h <;> rw [h] <;> simp

/-- A shard of the cache, its block. -/
theorem CR.sh {h : Heap} {lab : Nat → Option Lab} {c : Nat} {row : Slc} {pm : Nat} {bs : List Nat} {σ : CS} (C : CR h lab c row pm bs σ) {i b : Nat} (hb : bs[i]? = some b) : ∃ s, σ.sh[i]? = some s := by
  have hi : i < bs.length := by
    rcases Nat.lt_or_ge i bs.length with h' | h'
    · exact h'
    · rw [List.getElem?_eq_none h'] at hb; cases hb
  exact ⟨σ.sh[i]'(by rw [← C.len]; exact hi), List.getElem?_eq_getElem _⟩

def dropS (σ : CS) (key : ByteArray) : Bool × CS :=
  let i := shardOf σ.sh.length key
  match lookK key (σ.shAt i).ins with
  | some q => (match σ.it q with | some X => (true, outS σ i (σ.shAt i) q X) | none => (false, σ))
  | none => (false, σ)

/-- Drop. -/
theorem c21 {h : Heap} {lab : Nat → Option Lab} {c : Nat} {row : Slc} {pm : Nat} {bs : List Nat} {σ : CS} (C : CR h lab c row pm bs σ) {key : ByteArray} (hk : key.size ≤ 9223372036854775807)
    (H : ∀ (i : Nat) (s : Sh), σ.sh[i]? = some s → Has σ s) {R : Bool → Heap → Prop}
    (k : ∀ h', CR h' lab c row pm bs (dropS σ key).2 → Ext (fun y => lab y ≠ none) h h' → R (dropS σ key).1 h') :
    Call Go.Proofs.Try.prog 21 [.lf (.ptr (some (c, 0))), .lf (.str key)] h [.one .bool] R := by
  refine ok21 (c67 C hk fun h1 b s e1 hbs hs => ?_)
  have C1 := C.ext0 e1
  have Hs := H _ s hs
  obtain ⟨im, am, ws, S⟩ := C1.shs _ s b hs hbs
  refine NilC.mk rfl ⟨some im, S.blk.cell rfl, ?_⟩
  have hsh := shAt_of hs
  unfold dropS at k
  simp only [hsh] at k
  cases hl : lookK key s.ins with
  | none =>
    rw [hl] at k
    exact ⟨none, false, S.ins.miss trivial (lookK_none hl) trivial _, Br.t rfl (k h1 C1 e1.of0)⟩
  | some q =>
    have hq := lookK_some hl
    obtain ⟨X, hX⟩ := Hs.ins _ hq
    have hX' : σ.it q = some X := hX
    rw [hl] at k
    simp only [hX'] at k
    exact ⟨some (q, 0), true, S.ins.hit trivial hq trivial _ rfl, Br.f rfl (c72 C1 hs hbs hX' Hs fun h2 C2 e2 => k h2 C2 (e1.of0.trans (e2.mono fun y => ofShIt_ne)))⟩

def busyS (σ : CS) (i : Nat) (s : Sh) (x : Nat) : CS := σ.setSh i { s with waits := s.waits.filter fun p => !decide (p = x) }
def getS (σ : CS) (key : ByteArray) : Int × Int × Bool × CS :=
  let i := shardOf σ.sh.length key
  match lookK key (σ.shAt i).ins with
  | some q => (match σ.it q with | some X => (σ.last + 1, X.v, true, pinS (busyS σ i (σ.shAt i) q) q X) | none => (0, 0, false, σ))
  | none => (0, 0, false, σ)

/-- Get. -/
theorem c20 {h : Heap} {lab : Nat → Option Lab} {c : Nat} {row : Slc} {pm : Nat} {bs : List Nat} {σ : CS} (C : CR h lab c row pm bs σ) {key : ByteArray} (hk : key.size ≤ 9223372036854775807)
    (H : ∀ (i : Nat) (s : Sh), σ.sh[i]? = some s → Has σ s) (l0 : 0 ≤ σ.last) (l1 : σ.last ≤ 4611686018427387904) (hp : ∀ p X, σ.it p = some X → -4611686018427387904 ≤ X.pins ∧ X.pins ≤ 4611686018427387904)
    {R : Int → Int → Bool → Heap → Prop}
    (k : ∀ h', CR h' lab c row pm bs (getS σ key).2.2.2 → Ext (fun y => lab y ≠ none) h h' → R (getS σ key).1 (getS σ key).2.1 (getS σ key).2.2.1 h') :
    Call Go.Proofs.Try.prog 20 [.lf (.ptr (some (c, 0))), .lf (.str key)] h [.one (.int .i64), .one (.int .u64), .one .bool] R := by
  refine ok20 (c67 C hk fun h1 b s e1 hbs hs => ?_)
  have C1 := C.ext0 e1
  have Hs := H _ s hs
  obtain ⟨im, am, ws, S⟩ := C1.shs _ s b hs hbs
  refine NilC.mk rfl ⟨some im, S.blk.cell rfl, ?_⟩
  have hsh := shAt_of hs
  unfold getS at k
  simp only [hsh] at k
  cases hl : lookK key s.ins with
  | none =>
    rw [hl] at k
    exact ⟨none, false, S.ins.miss trivial (lookK_none hl) trivial _, Br.t rfl (k h1 C1 e1.of0)⟩
  | some q =>
    have hq := lookK_some hl
    obtain ⟨X, hX⟩ := Hs.ins _ hq
    have hX' : σ.it q = some X := hX
    rw [hl] at k
    simp only [hX'] at k
    have hpp := hp q X hX'
    refine ⟨some (q, 0), true, S.ins.hit trivial hq trivial _ rfl, Br.f rfl (c75 C1 hs hbs ⟨X, hX'⟩ Hs.waits Hs.len fun h7 C7 e7 => NilC.mk rfl ⟨X.v, (C7.its q X hX').1.cell rfl, ?_⟩)⟩
    refine c73 C7 hX' l0 l1 hpp.1 hpp.2 fun h12 C12 e12 => ⟨(C12.its q { X with pins := X.pins + 1 } (by simp [pinS, CS.setIt])).1.cell rfl, k h12 C12 ?_⟩
    exact (e1.of0.trans (e7.mono fun y hy => by rcases hy with h | h <;> rw [h] <;> simp)).trans (e12.mono fun y hy => by rcases hy with h | h | h <;> rw [h] <;> simp)

/-- What is used of all. -/
def chargeS (σ : CS) : Int := (σ.sh.map (usedS σ.it)).foldl plusS 0

theorem usedS_range {σ : CS} {s : Sh} (hit : ∀ p X, σ.it p = some X → ItOk X) (H : Has σ s) : 0 ≤ usedS σ.it s ∧ usedS σ.it s ≤ big := cap_range (sums_nonneg fun y hy => by
    obtain ⟨p, hp, rfl⟩ := List.mem_map.1 hy
    obtain ⟨Y, hY⟩ := H.all p hp
    simp only [chOf, hY]; exact (hit p Y hY).c0)

theorem fold_range : ∀ {l : List Int} {a : Int}, 0 ≤ a → a ≤ big → (∀ x ∈ l, 0 ≤ x ∧ x ≤ big) → 0 ≤ l.foldl plusS a ∧ l.foldl plusS a ≤ big
  | [], a, h0, h1, _ => ⟨h0, h1⟩
  | x :: l, a, h0, h1, h => by
    have hx := h x (List.mem_cons_self ..)
    have := plusS_range h0 h1 hx.1 hx.2
    rw [List.foldl_cons]
    exact fold_range (l := l) (a := plusS a x) this.1 this.2 fun y hy => h y (List.mem_cons_of_mem _ hy)

/-- Charge. -/
theorem c15 {h : Heap} {lab : Nat → Option Lab} {c : Nat} {row : Slc} {pm : Nat} {bs : List Nat} {σ : CS} (C : CR h lab c row pm bs σ) (H : ∀ (i : Nat) (s : Sh), σ.sh[i]? = some s → Has σ s) {R : Int → Heap → Prop}
    (k : ∀ h', Ext0 h h' → R (chargeS σ) h') : Call Go.Proofs.Try.prog 15 [.lf (.ptr (some (c, 0)))] h [.one (.int .u64)] R := by
  have hrl := C.rowo.len
  have hcl := C.len
  have hn1 := C.n1
  have hit : ∀ p X, σ.it p = some X → ItOk X := fun p X hp => (C.its p X hp).2.2
  have hur : ∀ x ∈ σ.sh.map (usedS σ.it), 0 ≤ x ∧ x ≤ big := fun x hx => by
    obtain ⟨s, hs, rfl⟩ := List.mem_map.1 hx
    obtain ⟨i, hi⟩ := List.mem_iff_getElem?.1 hs
    exact usedS_range hit (H i s hi)
  refine ok15 (NilC.mk rfl ⟨row, C.blk.cell rfl, fun n i h' d => ∃ m : Nat, i = m ∧ m ≤ σ.sh.length ∧ d = σ.sh.length - m ∧ n = ((σ.sh.take m).map (usedS σ.it)).foldl plusS 0 ∧ Ext0 h h', ⟨_, 0, rfl, by omega, rfl, rfl, Ext.refl _ _⟩, ?_⟩)
  rintro _ _ h7 _ ⟨m, rfl, hm, rfl, rfl, e⟩
  refine Br.dec (fun hi => ?_) fun hi => ?_
  · have hi' : m < σ.sh.length := by omega
    have hbs : bs[m]? = some (bs[m]'(by omega)) := List.getElem?_eq_getElem _
    have hs : σ.sh[m]? = some σ.sh[m] := List.getElem?_eq_getElem hi'
    refine ((C.rowo.arr pF_sized).ext0 e).ix rfl hbs fun b o hc => ⟨_, hc, c71 (C.ext0 e) hs hbs (H _ _ hs).all fun h13 e13 => ?_⟩
    have hpre := fold_range (l := (σ.sh.take m).map (usedS σ.it)) (a := 0) (by decide) (by decide) fun x hx => hur x (by
      obtain ⟨s, hs, rfl⟩ := List.mem_map.1 hx
      exact List.mem_map.2 ⟨s, List.mem_of_mem_take hs, rfl⟩)
    have hu := usedS_range hit (H _ _ hs)
    refine c70 hpre.1 hpre.2 hu.1 hu.2 ⟨_, ?_, m + 1, ?_, by omega, rfl, ?_, e.trans e13⟩
    · show σ.sh.length - (m + 1) < σ.sh.length - m; omega
    · rw [wi64 (by omega) (by omega)]; rfl
    · rw [List.take_succ_eq_append_getElem hi', List.map_append, List.foldl_append]; rfl
  · have : m = σ.sh.length := by omega
    subst this
    have := k h7 e
    unfold chargeS at this
    rw [List.take_length]; exact this

end Go.V.Yteojmnnobmpdiaa
set_option linter.unusedVariables false
set_option linter.unusedSimpArgs false
/-! The cache: Free. -/
namespace Go.V.Yteojmnnobmpdiaa
open Go Go.V

def unpin (σ : CS) (n : Int) (x : Nat) (X : It) : CS := { σ.setIt x { X with pins := X.pins - 1 } with pins := adel (.int .i64) n σ.pins }
def freeT (σ : CS) (n : Int) (x : Nat) (X : It) : CS :=
  let σ1 := unpin σ n x X
  let i := shardOf σ.sh.length X.key
  let s := σ.shAt i
  if X.pins - 1 > 0 then σ1
  else if X.inn then makesS i 0 (share σ) (s.waits.length + 1) (σ1.setSh i { s with waits := s.waits ++ [x] })
  else goneS σ1 i s x { X with pins := X.pins - 1 }

/-- Labels, with a new row of what waits. -/
def newLab (lab : Nat → Option Lab) (i : Nat) (a : Option (Nat × Nat)) (y : Nat) : Option Lab := match a with
  | some (q, _) => if y = q then some (.wt i) else lab y
  | none => lab y

theorem c16 {h : Heap} {lab : Nat → Option Lab} {c : Nat} {row : Slc} {pm : Nat} {bs : List Nat} {σ : CS} (C : CR h lab c row pm bs σ) {n : Int}
    (H : ∀ (i : Nat) (s : Sh), σ.sh[i]? = some s → Has σ s ∧ s.waits.length < 4398046511104) (hk : ∀ p X, σ.it p = some X → X.key.size ≤ 9223372036854775807) (hp : ∀ p X, σ.it p = some X → -4611686018427387904 ≤ X.pins ∧ X.pins ≤ 4611686018427387904)
    (hpi : ∀ x, (n, x) ∈ σ.pins → ∃ X, σ.it x = some X) {R : Int → Heap → Prop}
    (k0 : (∀ y ∈ σ.pins, y.1 ≠ n) → R 111 h)
    (k1 : ∀ x X, (n, x) ∈ σ.pins → σ.it x = some X → ∀ h' lab', CR h' lab' c row pm bs (freeT σ n x X) → Grows lab lab' h → Ext (fun y => lab y ≠ none) h h' → R 0 h') :
    Call Go.Proofs.Try.prog 16 [.lf (.ptr (some (c, 0))), .lf (.int .i64 n)] h [.one (.int .i64)] R := by
  refine ok16 (NilC.mk rfl ⟨some pm, C.blk.cell rfl, ?_⟩)
  by_cases hm : ∃ x, (n, x) ∈ σ.pins
  · obtain ⟨x, hx⟩ := hm
    obtain ⟨X, hX⟩ := hpi x hx
    have hit := C.its x X hX
    have hpp := hp x X hX
    refine ⟨some (x, 0), true, C.pins.hit trivial hx trivial _ rfl, Br.f rfl (NilC.mk rfl ⟨some pm, C.blk.cell rfl, C.pins.del (k := n) trivial fun h8 hs8 M8 e8 => ?_⟩)⟩
    have e8' : Ext (fun y => lab y = some .pm) h h8 := e8.mono fun y hy => by rw [show y = pm from hy]; exact C.lpm
    have nopm : ∀ y l, lab y = some l → l ≠ .pm → ¬ lab y = some .pm := fun y l hy hn he => by rw [hy] at he; cases he; exact hn rfl
    have C8 : CR h8 lab c row pm bs { σ with pins := adel (.int .i64) n σ.pins } :=
      ⟨C.blk.ext e8' (nopm _ _ C.lc (by simp)), C.rowo.ext e8' fun ⟨y, o, hy, hS⟩ => nopm _ _ (C.lrow y o hy) (by simp) hS, C.len,
        fun j s' b' h4 h5 => by
          obtain ⟨im', am', ws', r⟩ := C.shs j s' b' h4 h5
          exact ⟨im', am', ws', r.ext' e8' (fun y l hy hl => nopm y l hy (by rcases hl with rfl | rfl | rfl | rfl <;> simp)) fun _ _ k => k⟩,
        M8, fun p Y hp => ⟨(C.its p Y hp).1.ext e8' (nopm _ _ (C.its p Y hp).2.1 (by simp)), (C.its p Y hp).2⟩, C.lc, C.lrow, C.lpm, fun y hy => by rw [hs8]; exact C.lt y hy, C.r0, C.r1, C.n0, C.n1⟩
    have hit8 := C8.its x X hX
    refine NilC.mk rfl ⟨X.pins, hit8.1.cell rfl, NilC.mk rfl ?_⟩
    rw [wi64 (by omega) (by omega)]
    refine StC.one hit8.1 (by simp [It.lfs]) fun h14 hs14 k14 e14 => ?_
    have C14 : CR h14 lab c row pm bs (unpin σ n x X) := C8.setIt (X := { X with pins := X.pins - 1 }) e14 hit.2.1 k14 ⟨hit.2.2.v0, hit.2.2.v1, hit.2.2.c0, hit.2.2.c1⟩
    have hx14 : (unpin σ n x X).it x = some { X with pins := X.pins - 1 } := by simp [unpin, CS.setIt]
    have e014 : Ext (fun y => lab y ≠ none) h h14 := (e8'.mono fun y hy => by rw [hy]; simp).trans (e14.mono fun y hy => by rw [show y = x from hy, hit.2.1]; simp)
    refine NilC.mk rfl ⟨X.key, (C14.its x _ hx14).1.cell rfl, c67 C14 (hk x X hX) fun h19 b s e19 hbs hs => ?_⟩
    have hs' : σ.sh[shardOf σ.sh.length X.key]? = some s := hs
    have hbs' : bs[shardOf σ.sh.length X.key]? = some b := hbs
    have hsh := shAt_of hs'
    obtain ⟨Hs, hwl⟩ := H _ s hs'
    have has : ∀ p, (∃ Y, σ.it p = some Y) → ∃ Y, (unpin σ n x X).it p = some Y := fun p ⟨Y, hY⟩ => by
      simp only [unpin, CS.setIt]
      split
      · exact ⟨_, rfl⟩
      · exact ⟨Y, hY⟩
    have H14 : Has (unpin σ n x X) s := ⟨fun p hp => has p (Hs.all p hp), fun p hp => has p (Hs.waits p hp), Hs.len, fun e he => has e.2 (Hs.ins e he)⟩
    have C19 := C14.ext0 e19
    have e019 := e014.then0 e19
    have hfree := k1 x X hx hX
    unfold freeT at hfree
    simp only [hsh] at hfree
    have hit19 := C19.its x _ hx14
    refine NilC.mk rfl ⟨X.pins - 1, hit19.1.cell rfl, Br.dec (fun hgt => ?_) fun hle => ?_⟩
    · have := hfree h19 lab
      rw [if_pos hgt] at this
      exact this C19 ⟨fun _ _ k => k, fun _ hy => .inl hy⟩ e019
    · refine NilC.mk rfl ⟨X.inn, hit19.1.cell rfl, Br.mk (fun hin => ?_) fun hin => ?_⟩
      · obtain ⟨im, am, ws, S⟩ := C19.shs (shardOf σ.sh.length X.key) s b (show (unpin σ n x X).sh[shardOf σ.sh.length X.key]? = some s from hs') hbs'
        refine NilC.mk rfl ⟨ws, S.blk.cell rfl, New.mk fun b29 h30 hb29 hs30 e30 k30 => ?_⟩
        have S30 := S.ext e30 fun _ _ _ k => k
        have C30 := C19.ext0 e30
        refine AppC.grow pF_sized (by decide) rfl S30.waits ((Own.new (l := [x]) pF_sized k30).arr pF_sized) (by simp only [List.length_singleton]; omega) fun s31 h32 o32 g32 => ?_
        generalize hi : shardOf σ.sh.length X.key = i at *
        have hbw : ∀ o, ws.a ≠ some (b, o) := fun o ho => by have := S.lws b o ho; rw [S.lb] at this; cases this
        refine NilC.mk rfl (StC.one (S30.blk.ext g32.ext fun ⟨o, ho⟩ => hbw o ho) (by simp) fun h35 hs35 k35 e35 => ?_)
        obtain ⟨lab', hlab'⟩ : ∃ lab', lab' = newLab lab i s31.a := ⟨_, rfl⟩
        have hl : ∀ y l, lab y = some l → lab' y = some l := fun y l hy => by
          rw [hlab']
          unfold newLab
          split
          · rename_i q o hq
            split
            · rename_i hyq
              subst hyq
              rcases g32.new with h1 | ⟨b', h1, h2⟩
              · have := S.lws y o (h1 ▸ hq); rw [this] at hy; exact hy
              · rw [h1] at hq; cases hq
                have := C30.lt y (by rw [hy]; simp)
                omega
            · exact hy
          · exact hy
        have hws : ∀ y o, s31.a = some (y, o) → lab' y = some (.wt i) := fun y o hy => by rw [hlab']; simp [newLab, hy]
        have hnew : ∀ y, lab' y ≠ none → lab y ≠ none ∨ (h30.size ≤ y ∧ y < h32.size) := fun y hy => by
          rw [hlab'] at hy
          unfold newLab at hy
          split at hy
          · rename_i q o hq
            split at hy
            · rename_i hyq
              subst hyq
              rcases g32.new with h1 | ⟨b', h1, h2⟩
              · left; rw [S.lws y o (h1 ▸ hq)]; simp
              · right; rw [h1] at hq; cases hq; exact ⟨h2, (o32.lt y 0 h1).1⟩
            · exact .inl hy
          · exact .inl hy
        have e3035 : Ext (fun y => lab y = some (.sh i) ∨ lab y = some (.wt i)) h30 h35 := (g32.ext.mono fun y ⟨o, ho⟩ => .inr (S.lws y o ho)).trans (e35.mono fun y hy => .inl (by rw [show y = b from hy]; exact S.lb))
        have hsb : ∀ o, s31.a ≠ some (b, o) := fun o ho => by have h1 := hws b o ho; rw [hl b _ S.lb] at h1; cases h1
        have C35 := C30.upd (lab' := lab') (im := im) (am := am) (ws := s31) (s' := { s with waits := s.waits ++ [x] }) (i := i) e3035 (fun y l hy hS => by
          rcases hS with hS | hS
          · rw [hy] at hS; cases hS; exact .inl rfl
          · rw [hy] at hS; cases hS; exact .inr (.inr (.inr rfl))) hl (fun y hy => by
            rcases hnew y hy with h1 | ⟨h1, h2⟩
            · exact Nat.lt_of_lt_of_le (C30.lt y h1) e3035.size
            · omega) hbs' ⟨k35, S30.ins.ext e3035 (by rw [S.lim]; simp), S30.all.ext e3035 (by rw [S.lam]; simp), o32.ext e35 fun ⟨y, o, hy, hyb⟩ => hsb o (by rw [← show y = b from hyb]; exact hy), hl _ _ S.lb, hl _ _ S.lim, hl _ _ S.lam, hws⟩
        have hi35 : i < σ.sh.length := by
          rcases Nat.lt_or_ge i σ.sh.length with h' | h'
          · exact h'
          · rw [List.getElem?_eq_none h'] at hs'; cases hs'
        have hshare : share { (unpin σ n x X) with sh := (unpin σ n x X).sh.set i { s with waits := s.waits ++ [x] } } = share σ := by
          simp [share, unpin, CS.setIt]
        refine c69 C35 ?_
        rw [hshare]
        have hw1 : (s.waits ++ [x]).length = s.waits.length + 1 := by simp
        refine c68 C35 (s := { s with waits := s.waits ++ [x] }) (by simp [unpin, CS.setIt, hi35]) hbs' ⟨fun p hp => H14.all p hp, fun p hp => ?_, by simp only [hw1]; omega, fun e he => H14.ins e he⟩ (by decide) (by decide) fun h38 C38 e38 => ?_
        · rcases List.mem_append.1 hp with hp | hp
          · exact H14.waits p hp
          · simp at hp; subst hp; exact ⟨_, hx14⟩
        · have := hfree h38 lab'
          rw [if_neg hle, if_pos hin] at this
          have e030 := (e019.then0 e30)
          have hg : ∀ y, lab' y ≠ none → lab y ≠ none ∨ h.size ≤ y := fun y hy => (hnew y hy).imp id fun ⟨h1, _⟩ => by have := e030.size; omega
          refine this (by rw [hw1] at C38; exact C38) ⟨hl, hg⟩ ?_
          exact (e030.trans (e3035.mono fun y hy => by rcases hy with h | h <;> rw [h] <;> simp)).trans' (e38.mono fun y => ofShIt_ne) fun y hy hl' => (hg y hl').elim id fun hh => by omega
      · refine c74 C19 hs hbs hx14 H14 fun h39 C39 e39 => ?_
        have := hfree h39 lab
        rw [if_neg hle, if_neg (by simp [hin])] at this
        exact this C39 ⟨fun _ _ k => k, fun _ hy => .inl hy⟩ (e019.trans (e39.mono fun y hy => by
          rcases hy with (h | h | h | h) | h
          · rw [h]; simp
          · rw [h]; simp
          · rw [h]; simp
          · rw [h]; simp
          · rw [h, hit.2.1]; simp))
  · have hm' : ∀ y ∈ σ.pins, y.1 ≠ n := fun y hy he => hm ⟨y.2, by rw [← he]; exact hy⟩
    exact ⟨none, false, C.pins.miss trivial hm' trivial _, Br.t rfl (k0 hm')⟩

end Go.V.Yteojmnnobmpdiaa
set_option linter.unusedVariables false
set_option linter.unusedSimpArgs false
/-! The cache: New, Room. -/
namespace Go.V.Yteojmnnobmpdiaa
open Go Go.V

def emptySh : Sh := ⟨[], [], []⟩
def newS (n : Nat) (room : Int) (strict : Bool) : CS := ⟨room, strict, 0, List.replicate n emptySh, [], fun _ => none⟩

/-- Labels of a new part of the cache. -/
def shLab (lab : Nat → Option Lab) (m im am b : Nat) (a : Option (Nat × Nat)) (y : Nat) : Option Lab :=
  if y = im then some (.im m) else if y = am then some (.am m) else if y = b then some (.sh m) else match a with
  | some (q, _) => if y = q then some .row else lab y
  | none => lab y

theorem c12 {h : Heap} {n room : Int} {strict : Bool} (r0 : 0 ≤ room) (r1 : room ≤ big) (hn0 : -9223372036854775808 ≤ n) (hn1 : n ≤ 9223372036854775807) {R : Option (Nat × Nat) → Int → Heap → Prop}
    (k0 : n < 1 ∨ n > 64 → R none 1 h)
    (k1 : 1 ≤ n → n ≤ 64 → ∀ h' lab c row pm bs, CR h' lab c row pm bs (newS n.toNat room strict) → Ext0 h h' → (∀ y, lab y ≠ none → h.size ≤ y) → R (some (c, 0)) 0 h') :
    Call Go.Proofs.Try.prog 12 [.lf (.int .i64 n), .lf (.int .u64 room), .lf (.bool strict)] h [.one .ptr, .one (.int .i64)] R := by
  refine ok12 ⟨fun cc h' => h = h' ∧ (cc = true ↔ n < 1 ∨ n > 64), Br.dec (fun hh => ⟨rfl, by simp [hh]⟩) fun hh => ⟨rfl, by simp; omega⟩, ?_⟩
  rintro cc _ ⟨rfl, hcc⟩
  refine Br.mk (fun ht => k0 (hcc.1 ht)) fun hf => ?_
  have hn : 1 ≤ n ∧ n ≤ 64 := by
    have : ¬ (n < 1 ∨ n > 64) := fun hh => by rw [hcc.2 hh] at hf; cases hf
    omega
  refine NewM.mk fun b3 h4 hb3 hs4 e4 m4 => New.mk fun b5 h6 hb5 hs6 e6 k6 => ?_
  have M6 : MapR (β := Nat) h6 b3 (.int .i64) (.one .ptr) pF [] := (MapR.new m4).ext e6
  refine ⟨fun i h' d => ∃ (m : Nat) (lab : Nat → Option Lab) (row : Slc) (bs : List Nat), i = m ∧ (m : Int) ≤ n ∧ d = n.toNat - m ∧ Blk h' b5 103 [.slc row, .int .u64 room, .bool strict, .map (some b3), .int .i64 0] ∧
      Own 1 pF h' row bs ∧ bs.length = m ∧ (∀ j b, bs[j]? = some b → ∃ im am ws, ShR h' lab j b im am ws emptySh) ∧ MapR (β := Nat) h' b3 (.int .i64) (.one .ptr) pF [] ∧ lab b5 = some .c ∧ (∀ x o, row.a = some (x, o) → lab x = some .row) ∧ lab b3 = some .pm ∧
      (∀ y, lab y ≠ none → y < h'.size ∧ h.size ≤ y) ∧ Ext0 h h',
    ⟨_, 0, fun y => if y = b5 then some .c else if y = b3 then some .pm else none, ⟨none, 0, 0⟩, [], rfl, by omega, rfl, k6, Own.nil _ _ _, rfl, by simp, M6, by simp, by simp, by (have : b3 ≠ b5 := by omega); simp [this], ?_, e4.trans e6⟩, ?_⟩
  · intro y hy
    simp only at hy
    split at hy
    · omega
    · split at hy
      · omega
      · exact absurd rfl hy
  rintro _ h10 _ ⟨m, lab, row, bs, rfl, hm, rfl, kc, orow, hbl, hsh, M, lc, lrow, lpm, hlt, e⟩
  refine Br.dec (fun hi => ?_) fun hi => ?_
  · refine ⟨row, kc.cell rfl, NewM.mk fun b13 h14 hb13 hs14 e14 m14 => NewM.mk fun b15 h16 hb15 hs16 e16 m16 => New.mk fun b17 h18 hb17 hs18 e18 k18 => New.mk fun b19 h20 hb19 hs20 e20 k20 => ?_⟩
    have e1020 : Ext0 h10 h20 := ((e14.trans e16).trans e18).trans e20
    refine AppC.grow pF_sized (by decide) rfl (orow.ext0 e1020) ((Own.new (l := [b17]) pF_sized k20).arr pF_sized) (by simp only [List.length_singleton]; omega) fun row' h22 o22 g22 => ?_
    have hrow5 : ∀ o, row.a ≠ some (b5, o) := fun o ho => by have := lrow b5 o ho; rw [lc] at this; cases this
    have kc22 := (kc.ext e1020).ext g22.ext fun ⟨o, ho⟩ => hrow5 o ho
    refine StC.one kc22 (by simp) fun h23 hs23 k23 e23 => ?_
    obtain ⟨lab', hlab'⟩ : ∃ lab', lab' = shLab lab m b13 b15 b17 row'.a := ⟨_, rfl⟩
    have hold : ∀ y l, lab y = some l → y < h10.size := fun y l hy => (hlt y (by rw [hy]; simp)).1
    have hrowb : ∀ q o, row'.a = some (q, o) → lab q = some .row ∨ h20.size ≤ q := fun q o hq => by
      rcases g22.new with h1 | ⟨b', h1, h2⟩
      · exact .inl (lrow q o (h1 ▸ hq))
      · rw [h1] at hq; cases hq; exact .inr h2
    have hl : ∀ y l, lab y = some l → lab' y = some l := fun y l hy => by
      have := hold y l hy
      rw [hlab']
      unfold shLab
      rw [if_neg (by omega), if_neg (by omega), if_neg (by omega)]
      split
      · rename_i q o hq
        split
        · rename_i hyq
          subst hyq
          rcases hrowb y o hq with h1 | h1
          · rw [h1] at hy; exact hy
          · omega
        · exact hy
      · exact hy
    have hn17 : ∀ q o, row'.a = some (q, o) → q ≠ b13 ∧ q ≠ b15 ∧ q ≠ b17 := fun q o hq => by
      rcases hrowb q o hq with h1 | h1
      · have := hold q _ h1; omega
      · omega
    have hlrow : ∀ x o, row'.a = some (x, o) → lab' x = some .row := fun x o hx => by
      obtain ⟨h1, h2, h3⟩ := hn17 x o hx
      rw [hlab']; simp [shLab, h1, h2, h3, hx]
    have l13 : lab' b13 = some (.im m) := by rw [hlab']; simp [shLab]
    have l15 : lab' b15 = some (.am m) := by rw [hlab']; simp [shLab, show b15 ≠ b13 by omega]
    have l17 : lab' b17 = some (.sh m) := by rw [hlab']; simp [shLab, show b17 ≠ b13 by omega, show b17 ≠ b15 by omega]
    have e2023 : Ext (fun y => lab' y = some .row ∨ lab' y = some .c) h20 h23 := (g22.ext.mono fun y ⟨o, ho⟩ => .inl (hl y _ (lrow y o ho))).trans (e23.mono fun y hy => .inr (by rw [show y = b5 from hy]; exact hl _ _ lc))
    have no : ∀ y l, lab' y = some l → l ≠ .row → l ≠ .c → ¬ (lab' y = some .row ∨ lab' y = some .c) := fun y l hy h1 h2 hh => by
      rcases hh with hh | hh
      · rw [hy] at hh; cases hh; exact h1 rfl
      · rw [hy] at hh; cases hh; exact h2 rfl
    refine ⟨_, ?_, m + 1, lab', row', bs ++ [b17], ?_, by omega, rfl, k23, ?_, by simp [hbl], ?_, (M.ext e1020).ext e2023 (no _ _ (hl _ _ lpm) (by simp) (by simp)), hl _ _ lc, hlrow, hl _ _ lpm, ?_, ?_⟩
    · show n.toNat - (m + 1) < n.toNat - m; omega
    · rw [wi64 (by omega) (by omega)]; rfl
    · refine o22.ext e23 fun ⟨y, o, hy, hyb⟩ => ?_
      have h1 := hlrow y o hy
      rw [show y = b5 from hyb, hl _ _ lc] at h1; cases h1
    · intro j b hj
      rw [List.getElem?_append] at hj
      split at hj
      · obtain ⟨im, am, ws, r⟩ := hsh j b hj
        exact ⟨im, am, ws, (r.ext e1020 fun _ _ _ k => k).ext' e2023 (fun y l hy hl' => no y l (hl y l hy) (by rcases hl' with rfl | rfl | rfl | rfl <;> simp) (by rcases hl' with rfl | rfl | rfl | rfl <;> simp)) hl⟩
      · rename_i hge
        rw [List.getElem?_singleton] at hj
        split at hj
        · cases hj
          have hjm : j = m := by omega
          subst hjm
          have k18' : Blk h20 b17 109 [.map (some b13), .map (some b15), .slc ⟨none, 0, 0⟩] := k18.ext e20
          refine ⟨b13, b15, ⟨none, 0, 0⟩, k18'.ext e2023 (no _ _ l17 (by simp) (by simp)), ?_, ?_, Own.nil _ _ _, l17, l13, l15, by simp⟩
          · exact ((MapR.new (β := Nat) m14).ext ((e16.trans e18).trans e20)).ext e2023 (no _ _ l13 (by simp) (by simp))
          · exact ((MapR.new (β := Bool) m16).ext (e18.trans e20)).ext e2023 (no _ _ l15 (by simp) (by simp))
        · cases hj
    · intro y hy
      have hs2022 := g22.ext.size
      have hhs := e.size
      rw [hlab'] at hy
      unfold shLab at hy
      split at hy
      · omega
      · split at hy
        · omega
        · split at hy
          · omega
          · split at hy
            · rename_i q o hq
              split at hy
              · rename_i hyq
                subst hyq
                have h1 := (o22.lt y o hq).1
                rcases hrowb y o hq with h2 | h2
                · have := hlt y (by rw [h2]; simp); omega
                · omega
              · have := hlt y hy; omega
            · have := hlt y hy; omega
    · refine (e.trans e1020).trans' e2023 fun y hy hl' => ?_
      have hlt' : lab y ≠ none := by
        rw [hlab'] at hl'
        have hs10 := e.size
        have hne : y ≠ b13 ∧ y ≠ b15 ∧ y ≠ b17 := by omega
        simp only [shLab, hne.1, hne.2.1, hne.2.2, if_false] at hl'
        split at hl'
        · rename_i q o hq
          split at hl'
          · rename_i hyq
            subst hyq
            rcases hrowb y o hq with h2 | h2
            · rw [h2]; simp
            · omega
          · rcases hl' with h | h <;> rw [h] <;> simp
        · rcases hl' with h | h <;> rw [h] <;> simp
      have := hlt y hlt'
      omega
  · have hmn : m = n.toNat := by omega
    subst hmn
    refine k1 hn.1 hn.2 h10 lab b5 row b3 bs ⟨kc, orow, by simp [newS, hbl], fun i s b h1 h2 => ?_, M, fun p x hp => by simp [newS] at hp, lc, lrow, lpm, fun y hy => (hlt y hy).1, r0, r1, by simp [newS]; omega, by simp [newS]; omega⟩ e fun y hy => (hlt y hy).2
    have : s = emptySh := by
      simp only [newS] at h1
      rw [List.getElem?_replicate] at h1
      split at h1
      · cases h1; rfl
      · cases h1
    subst this
    exact hsh i b h2

end Go.V.Yteojmnnobmpdiaa
set_option linter.unusedVariables false
set_option linter.unusedSimpArgs false
/-! The cache: Room, Pinned. -/
namespace Go.V.Yteojmnnobmpdiaa
open Go Go.V

def AllHas (σ : CS) : Prop := ∀ (i : Nat) (s : Sh), σ.sh[i]? = some s → Has σ s

theorem goneS_All {σ : CS} {i : Nat} {s : Sh} {x : Nat} {X : It} (hs : σ.sh[i]? = some s) (hx : σ.it x = some X) (H : AllHas σ) : AllHas (goneS σ i s x X) := by
  intro j t ht
  by_cases hij : i = j
  · subst hij
    rw [goneS_sh hs] at ht
    cases ht
    exact goneS_Has hx (H i s hs)
  · have : σ.sh[j]? = some t := by
      unfold goneS CS.setSh CS.setIt at ht
      split at ht <;> simpa [List.getElem?_set, hij] using ht
    have := H j t this
    exact ⟨fun p hp => goneS_has hx (this.all p hp), fun p hp => goneS_has hx (this.waits p hp), this.len, fun e he => goneS_has hx (this.ins e he)⟩
theorem makesS_All (i : Nat) (more room : Int) : ∀ (n : Nat) (σ : CS), AllHas σ → AllHas (makesS i more room n σ)
  | 0, σ, H => H
  | n + 1, σ, H => by
    unfold makesS
    split
    · rename_i s hs
      split
      · exact H
      · split
        · split
          · rename_i X hX
            exact makesS_All i more room n _ (goneS_All hs hX H)
          · exact H
        · exact H
    · exact H

def roomS (σ : CS) (r : Int) : CS := (List.range σ.sh.length).foldl (fun τ i => makesS i 0 (share τ) (τ.shAt i).waits.length τ) { σ with room := r }

/-- Room. -/
theorem c22 {h : Heap} {lab : Nat → Option Lab} {c : Nat} {row : Slc} {pm : Nat} {bs : List Nat} {σ : CS} (C : CR h lab c row pm bs σ) (H : AllHas σ) {r : Int} (r0 : 0 ≤ r) (r1 : r ≤ big) {R : Heap → Prop}
    (k : ∀ h', CR h' lab c row pm bs (roomS σ r) → Ext (fun y => lab y ≠ none) h h' → R h') : Call Go.Proofs.Try.prog 22 [.lf (.ptr (some (c, 0))), .lf (.int .u64 r)] h [] R := by
  have hrl := C.rowo.len
  have hcl := C.len
  have hn1 := C.n1
  refine ok22 (NilC.mk rfl (StC.one C.blk (by simp) fun h2 hs2 k2 e2 => NilC.mk rfl ⟨row, k2.cell rfl, ?_⟩))
  have e2' : Ext (fun y => lab y = some .c) h h2 := e2.mono fun y hy => by rw [show y = c from hy]; exact C.lc
  have noc : ∀ y l, lab y = some l → l ≠ .c → ¬ lab y = some .c := fun y l hy hn he => by rw [hy] at he; cases he; exact hn rfl
  have C2 : CR h2 lab c row pm bs { σ with room := r } :=
    ⟨k2, C.rowo.ext e2' fun ⟨y, o, hy, hS⟩ => noc _ _ (C.lrow y o hy) (by simp) hS, C.len,
      fun j s' b' h4 h5 => by
        obtain ⟨im', am', ws', rr⟩ := C.shs j s' b' h4 h5
        exact ⟨im', am', ws', rr.ext' e2' (fun y l hy hl => noc y l hy (by rcases hl with rfl | rfl | rfl | rfl <;> simp)) fun _ _ k => k⟩,
      C.pins.ext e2' (noc _ _ C.lpm (by simp)), fun p Y hp => ⟨(C.its p Y hp).1.ext e2' (noc _ _ (C.its p Y hp).2.1 (by simp)), (C.its p Y hp).2⟩, C.lc, C.lrow, C.lpm, fun y hy => by rw [hs2]; exact C.lt y hy, r0, r1, C.n0, C.n1⟩
  have H2 : AllHas { σ with room := r } := fun i s hs => ⟨(H i s hs).all, (H i s hs).waits, (H i s hs).len, (H i s hs).ins⟩
  refine ⟨fun i h' d => ∃ (m : Nat) (τ : CS), i = m ∧ m ≤ σ.sh.length ∧ d = σ.sh.length - m ∧ CR h' lab c row pm bs τ ∧ AllHas τ ∧ Same { σ with room := r } τ ∧ τ = (List.range m).foldl (fun τ i => makesS i 0 (share τ) (τ.shAt i).waits.length τ) { σ with room := r } ∧ Ext (fun y => lab y ≠ none) h h',
    ⟨_, 0, _, rfl, by omega, rfl, C2, H2, Same.refl _, rfl, e2'.mono fun y hy => by rw [hy]; simp⟩, ?_⟩
  rintro _ h9 _ ⟨m, τ, rfl, hm, rfl, Cτ, Hτ, sτ, hτ, e⟩
  have hlen : τ.sh.length = σ.sh.length := sτ.len
  refine Br.dec (fun hi => ?_) fun hi => ?_
  · have hi' : m < τ.sh.length := by omega
    have hbs : bs[m]? = some (bs[m]'(by omega)) := List.getElem?_eq_getElem _
    have hs : τ.sh[m]? = some τ.sh[m] := List.getElem?_eq_getElem hi'
    refine (Cτ.rowo.arr pF_sized).ix rfl hbs fun b o hc => ⟨_, hc, c69 Cτ (c68 Cτ hs hbs (Hτ _ _ hs) (by decide) (by decide) fun h16 C16 e16 => ?_)⟩
    refine ⟨_, ?_, m + 1, makesS m 0 (share τ) (τ.shAt m).waits.length τ, ?_, by omega, rfl, ?_, makesS_All _ _ _ _ _ Hτ, sτ.trans (makesS_same ..), ?_, e.trans (e16.mono fun y => ofShIt_ne)⟩
    · show σ.sh.length - (m + 1) < σ.sh.length - m; omega
    · rw [wi64 (by omega) (by omega)]; rfl
    · rw [shAt_of hs]; exact C16
    · rw [List.range_succ, List.foldl_append, ← hτ]; rfl
  · have : m = σ.sh.length := by omega
    subst this
    exact k h9 (by unfold roomS; rw [← hτ]; exact Cτ) e

end Go.V.Yteojmnnobmpdiaa
set_option linter.unusedVariables false
set_option linter.unusedSimpArgs false
/-! The cache: Pinned. -/
namespace Go.V.Yteojmnnobmpdiaa
open Go Go.V

def pchOf (it : Nat → Option It) (p : Nat) : Int := match it p with | some x => if x.pins > 0 then x.ch else 0 | none => 0
def pinnedT (σ : CS) (l : List Sh) : Int := sums (l.map fun s => sums (s.all.map (pchOf σ.it)))
def pinnedS (σ : CS) : Int := cap (pinnedT σ σ.sh)

theorem rest_perm {l seen : List Nat} {p : Nat} {rest' : List (Option (Nat × Nat) × Bool)} (hl : (l.map fun p => ((some (p, 0), true) : Option (Nat × Nat) × Bool)).Perm ((seen.map fun p => (some (p, 0), true)) ++ (some (p, 0), true) :: rest')) :
    ∃ r2, l.Perm (seen ++ p :: r2) := by
  have hinj : ∀ {l m : List Nat}, (l.map fun p => ((some (p, 0), true) : Option (Nat × Nat) × Bool)).Perm (m.map fun p => (some (p, 0), true)) → l.Perm m := by
    intro l m hlm
    have := hlm.map fun x : Option (Nat × Nat) × Bool => (x.1.getD (0, 0)).1
    simpa [List.map_map, Function.comp_def] using this
  have hall' : ∀ x ∈ rest', x ∈ (l.map fun p => ((some (p, 0), true) : Option (Nat × Nat) × Bool)) := fun x hx => hl.mem_iff.2 (List.mem_append.2 (.inr (List.mem_cons_of_mem _ hx)))
  have hr2 : rest' = (rest'.map fun x => (x.1.getD (0, 0)).1).map fun p => (some (p, 0), true) := by
    rw [List.map_map]
    conv => lhs; rw [← List.map_id rest']
    apply List.map_congr_left
    intro x hx
    obtain ⟨q, _, rfl⟩ := List.mem_map.1 (hall' x hx)
    rfl
  refine ⟨rest'.map fun x => (x.1.getD (0, 0)).1, hinj ?_⟩
  rw [List.map_append, List.map_cons, ← hr2]
  exact hl

theorem perm_inj {l m : List Nat} (hlm : (l.map fun p => ((some (p, 0), true) : Option (Nat × Nat) × Bool)).Perm (m.map fun p => (some (p, 0), true))) : l.Perm m := by
  have := hlm.map fun x : Option (Nat × Nat) × Bool => (x.1.getD (0, 0)).1
  simpa [List.map_map, Function.comp_def] using this

theorem c17 {h : Heap} {lab : Nat → Option Lab} {c : Nat} {row : Slc} {pm : Nat} {bs : List Nat} {σ : CS} (C : CR h lab c row pm bs σ) (H : AllHas σ) {R : Int → Heap → Prop}
    (k : ∀ h', Ext0 h h' → R (pinnedS σ) h') : Call Go.Proofs.Try.prog 17 [.lf (.ptr (some (c, 0)))] h [.one (.int .u64)] R := by
  have hrl := C.rowo.len
  have hcl := C.len
  have hn1 := C.n1
  have hpc : ∀ p, 0 ≤ pchOf σ.it p ∧ pchOf σ.it p ≤ big := fun p => by
    unfold pchOf
    split
    · rename_i x hx
      have := (C.its p x hx).2.2
      split
      · exact ⟨this.c0, this.c1⟩
      · exact ⟨by decide, by decide⟩
    · exact ⟨by decide, by decide⟩
  have hsn : ∀ l : List Nat, 0 ≤ sums (l.map (pchOf σ.it)) := fun l => sums_nonneg fun x hx => by
    obtain ⟨p, _, rfl⟩ := List.mem_map.1 hx; exact (hpc p).1
  have hTn : ∀ l : List Sh, 0 ≤ pinnedT σ l := fun l => sums_nonneg fun x hx => by
    obtain ⟨s, _, rfl⟩ := List.mem_map.1 hx; exact hsn _
  refine ok17 (NilC.mk rfl ⟨row, C.blk.cell rfl, fun n i h' d => ∃ m : Nat, i = m ∧ m ≤ σ.sh.length ∧ d = σ.sh.length - m ∧ n = cap (pinnedT σ (σ.sh.take m)) ∧ Ext0 h h', ⟨_, 0, rfl, by omega, rfl, rfl, Ext.refl _ _⟩, ?_⟩)
  rintro _ _ h7 _ ⟨m, rfl, hm, rfl, rfl, e⟩
  refine Br.dec (fun hi => ?_) fun hi => ?_
  · have hi' : m < σ.sh.length := by omega
    have hbs : bs[m]? = some (bs[m]'(by omega)) := List.getElem?_eq_getElem _
    have hs : σ.sh[m]? = some σ.sh[m] := List.getElem?_eq_getElem hi'
    generalize hss : σ.sh[m] = s at *
    have hstep : pinnedT σ (σ.sh.take (m + 1)) = pinnedT σ (σ.sh.take m) + sums (s.all.map (pchOf σ.it)) := by
      rw [List.take_succ_eq_append_getElem hi', hss]
      unfold pinnedT
      rw [List.map_append, sums_append]
      simp [sums]
    refine ((C.rowo.arr pF_sized).ext0 e).ix rfl hbs fun b o hc => ⟨_, hc, ?_⟩
    obtain ⟨im, am, ws, S⟩ := (C.ext0 e).shs m s _ hs hbs
    refine NilC.mk rfl ⟨some am, S.blk.cell rfl, Iter.start S.all fun b3 h4 hb3 hs4 e4 I0 => ?_⟩
    refine ⟨fun n h' d => ∃ seen rest : List Nat, Iter h' b3 am .ptr (.one .bool) oF (s.all.map fun p => (some (p, 0), true)) (seen.map fun p => (some (p, 0), true)) ∧ s.all.Perm (seen ++ rest) ∧ d = rest.length ∧ n = cap (pinnedT σ (σ.sh.take m) + sums (seen.map (pchOf σ.it))) ∧ Ext0 h h' ∧ b3 < h'.size,
      ⟨_, [], s.all, I0, List.Perm.refl _, rfl, by simp [sums], e.trans e4, by omega⟩, ?_⟩
    rintro _ h8 _ ⟨seen, rest, I, hp, rfl, rfl, e8, hb8⟩
    have hT0 := hTn (σ.sh.take m)
    have hS0 := hsn seen
    refine I.next (fun hperm => ⟨_, ?_, m + 1, ?_, by omega, rfl, ?_, e8⟩) fun x rest' h' hl hs' e' I' hE => ?_
    · show σ.sh.length - (m + 1) < σ.sh.length - m; omega
    · rw [wi64 (by omega) (by omega)]; rfl
    · rw [hstep, sums_perm ((perm_inj hperm).map (pchOf σ.it))]
    · have hx : x ∈ (s.all.map fun p => ((some (p, 0), true) : Option (Nat × Nat) × Bool)) := hl.mem_iff.2 (List.mem_append.2 (.inr (List.mem_cons_self ..)))
      obtain ⟨p, hpm, rfl⟩ := List.mem_map.1 hx
      obtain ⟨y, hy⟩ := (H m s hs).all p hpm
      have eh : Ext0 h h' := e8.tmp e' (by have := e.size; omega)
      have hblk := ((C.its p y hy).1.ext eh)
      obtain ⟨r2, hr2⟩ := rest_perm hl
      have hlen : r2.length < rest.length := by
        have h1 := hp.length_eq
        have h2 := hr2.length_eq
        simp only [List.length_append, List.length_cons] at h1 h2
        omega
      have hcy : pchOf σ.it p = if y.pins > 0 then y.ch else 0 := by simp only [pchOf, hy]
      have hnext : pinnedT σ (σ.sh.take m) + sums ((seen ++ [p]).map (pchOf σ.it)) = pinnedT σ (σ.sh.take m) + sums (seen.map (pchOf σ.it)) + pchOf σ.it p := by
        rw [List.map_append, sums_append]; simp [sums]; omega
      refine ⟨some (p, 0), true, hE, NilC.mk rfl ⟨y.pins, hblk.cell rfl, Br.dec (fun hgt => ?_) fun hle => ?_⟩⟩
      · rw [if_pos hgt] at hcy
        have hc := hpc p
        rw [hcy] at hc
        have hcr := cap_range (show 0 ≤ pinnedT σ (σ.sh.take m) + sums (seen.map (pchOf σ.it)) by omega)
        refine NilC.mk rfl ⟨y.ch, hblk.cell rfl, c70 hcr.1 hcr.2 hc.1 hc.2 ⟨_, hlen, seen ++ [p], r2, by simpa using I', by simpa using hr2, rfl, ?_, eh, by have := e'.size; omega⟩⟩
        rw [plusS_cap (by omega) hc.1 hc.2, hnext, hcy]
      · rw [if_neg hle] at hcy
        refine ⟨_, hlen, seen ++ [p], r2, by simpa using I', by simpa using hr2, rfl, ?_, eh, by have := e'.size; omega⟩
        rw [hnext, hcy, Int.add_zero]
  · have : m = σ.sh.length := by omega
    subst this
    rw [List.take_length]
    exact k h7 e

end Go.V.Yteojmnnobmpdiaa
set_option linter.unusedVariables false
set_option linter.unusedSimpArgs false
/-! The cache: Len. -/
namespace Go.V.Yteojmnnobmpdiaa
open Go Go.V

def lenS (σ : CS) : Int := sums (σ.sh.map fun s => (s.ins.length : Int))

/-- Len. -/
theorem c83 {h : Heap} {lab : Nat → Option Lab} {c : Nat} {row : Slc} {pm : Nat} {bs : List Nat} {σ : CS} (C : CR h lab c row pm bs σ) (H : ∀ s ∈ σ.sh, s.ins.length ≤ 4398046511104) {R : Int → Heap → Prop}
    (k : R (lenS σ) h) : Call Go.Proofs.Try.prog 83 [.lf (.ptr (some (c, 0)))] h [.one (.int .i64)] R := by
  have hrl := C.rowo.len
  have hcl := C.len
  have hn1 := C.n1
  refine ok83 (NilC.mk rfl ⟨row, C.blk.cell rfl, fun n i h' d => ∃ m : Nat, i = m ∧ m ≤ σ.sh.length ∧ d = σ.sh.length - m ∧ n = sums ((σ.sh.take m).map fun s => (s.ins.length : Int)) ∧ 0 ≤ n ∧ n ≤ 4398046511104 * (m : Int) ∧ h' = h, ⟨_, 0, rfl, by omega, rfl, rfl, by simp [sums], by simp [sums], rfl⟩, ?_⟩)
  rintro n _ _ _ ⟨m, rfl, hm, rfl, hn, hn0, hn2, rfl⟩
  refine Br.dec (fun hi => ?_) fun hi => ?_
  · have hi' : m < σ.sh.length := by omega
    have hbs : bs[m]? = some (bs[m]'(by omega)) := List.getElem?_eq_getElem _
    have hs : σ.sh[m]? = some σ.sh[m] := List.getElem?_eq_getElem hi'
    have hl := H _ (List.getElem_mem hi')
    have hstep : sums ((σ.sh.take (m + 1)).map fun s => (s.ins.length : Int)) = n + (σ.sh[m].ins.length : Int) := by
      rw [List.take_succ_eq_append_getElem hi', List.map_append, sums_append, ← hn]
      simp [sums]
    generalize hss : σ.sh[m] = s at *
    refine (C.rowo.arr pF_sized).ix rfl hbs fun b o hc => ⟨_, hc, ?_⟩
    obtain ⟨im, am, ws, S⟩ := C.shs m s _ hs hbs
    refine NilC.mk rfl ⟨some im, S.blk.cell rfl, _, S.ins.len, _, ?_, m + 1, ?_, by omega, rfl, ?_, ?_, ?_, rfl⟩
    · show σ.sh.length - (m + 1) < σ.sh.length - m; omega
    · rw [wi64 (by omega) (by omega)]; rfl
    · rw [wi64 (by omega) (by omega), hstep]
    · rw [wi64 (by omega) (by omega)]; omega
    · rw [wi64 (by omega) (by omega)]; omega
  · have : m = σ.sh.length := by omega
    subst this
    rw [List.take_length] at hn
    rw [hn]; exact k

end Go.V.Yteojmnnobmpdiaa
