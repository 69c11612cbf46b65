/- This text proves a part of the laws of seat Yteojmnnobmpdiaa, under no condition: C11n C11o C11p C11q. -/
import Derived.Test.YteojmnnobmpdiaaCC
set_option linter.unusedVariables false
set_option linter.unusedSimpArgs false
/-! The cache: what holds of it between calls. -/
namespace Go.V.Yteojmnnobmpdiaa
open Go Go.V

theorem adel_mem {β : Type} {kt : LT} (hk : KeyLT kt) {k : kt.den} {e : kt.den × β} : ∀ {l : List (kt.den × β)}, (l.map (·.1)).Nodup → (e ∈ adel kt k l ↔ e ∈ l ∧ e.1 ≠ k)
  | [], _ => by simp [adel]
  | x :: l, hn => by
    simp only [List.map_cons, List.nodup_cons] at hn
    have ih := adel_mem hk (k := k) (e := e) hn.2
    by_cases hx : keq kt k x.1 = true
    · have hxk := (keq_iff hk _ _).1 hx
      rw [adel, if_pos hx, List.mem_cons]
      constructor
      · intro h
        exact ⟨.inr h, fun he => hn.1 (List.mem_map.2 ⟨e, h, by rw [he, hxk]⟩)⟩
      · rintro ⟨rfl | h, hne⟩
        · exact absurd hxk.symm hne
        · exact h
    · rw [adel, if_neg hx, List.mem_cons, List.mem_cons, ih]
      constructor
      · rintro (rfl | ⟨h, hne⟩)
        · exact ⟨.inl rfl, fun he => hx ((keq_iff hk _ _).2 he.symm)⟩
        · exact ⟨.inr h, hne⟩
      · rintro ⟨rfl | h, hne⟩
        · exact .inl rfl
        · exact .inr ⟨h, hne⟩
theorem adel_nodup {β : Type} {kt : LT} {k : kt.den} {l : List (kt.den × β)} (hn : (l.map (·.1)).Nodup) : ((adel kt k l).map (·.1)).Nodup := ((adel_sub l).map _).nodup hn

structure EOk (n : Nat) (i : Nat) (s : Sh) (p : Nat) (X : It) : Prop where
  sh : shardOf n X.key = i
  p0 : 0 ≤ X.pins
  out : X.inn = false → 0 < X.pins
  inn : X.inn = true → (X.key, p) ∈ s.ins

/-- What holds of a part of the cache. -/
structure SInv (n : Nat) (it : Nat → Option It) (i : Nat) (s : Sh) : Prop where
  nd : s.all.Nodup
  ent : ∀ p ∈ s.all, ∃ X, it p = some X ∧ EOk n i s p X
  ins : ∀ e ∈ s.ins, e.2 ∈ s.all ∧ ∃ X, it e.2 = some X ∧ X.key = e.1 ∧ X.inn = true
  insN : (s.ins.map (·.1)).Nodup
  wn : s.waits.Nodup
  w : ∀ p, p ∈ s.waits ↔ p ∈ s.all ∧ ∃ X, it p = some X ∧ X.inn = true ∧ X.pins = 0

/-- The same, but at one entry. -/
structure SInvX (n : Nat) (it : Nat → Option It) (i : Nat) (s : Sh) (x : Nat) : Prop where
  nd : s.all.Nodup
  ent : ∀ p ∈ s.all, p ≠ x → ∃ X, it p = some X ∧ EOk n i s p X
  ins : ∀ e ∈ s.ins, e.2 ≠ x → e.2 ∈ s.all ∧ ∃ X, it e.2 = some X ∧ X.key = e.1 ∧ X.inn = true
  insN : (s.ins.map (·.1)).Nodup
  wn : s.waits.Nodup
  w : ∀ p, p ≠ x → (p ∈ s.waits ↔ p ∈ s.all ∧ ∃ X, it p = some X ∧ X.inn = true ∧ X.pins = 0)

theorem SInv.x {n : Nat} {it it' : Nat → Option It} {i : Nat} {s : Sh} {x : Nat} (S : SInv n it i s) (h : ∀ p, p ≠ x → it' p = it p) : SInvX n it' i s x :=
  ⟨S.nd, fun p hp hx => by rw [h p hx]; exact S.ent p hp, fun e he hx => by rw [h _ hx]; exact S.ins e he, S.insN, S.wn, fun p hx => by rw [h p hx]; exact S.w p⟩
theorem SInv.congr {n : Nat} {it it' : Nat → Option It} {i : Nat} {s : Sh} (S : SInv n it i s) (h : ∀ p ∈ s.all, it' p = it p) : SInv n it' i s :=
  ⟨S.nd, fun p hp => by rw [h p hp]; exact S.ent p hp, fun e he => ⟨(S.ins e he).1, by rw [h _ (S.ins e he).1]; exact (S.ins e he).2⟩, S.insN, S.wn, fun p => by
    rw [S.w p]
    constructor
    · rintro ⟨h1, h2⟩; exact ⟨h1, by rw [h p h1]; exact h2⟩
    · rintro ⟨h1, h2⟩; exact ⟨h1, by rw [← h p h1]; exact h2⟩⟩
/-- An entry is put anew, and is as it should be. -/
theorem SInvX.all {n : Nat} {it : Nat → Option It} {i : Nat} {s : Sh} {x : Nat} {X : It} (S : SInvX n it i s x) (hx : it x = some X) (hm : x ∈ s.all) (e : EOk n i s x X)
    (hi : ∀ e ∈ s.ins, e.2 = x → X.key = e.1 ∧ X.inn = true) (hw : x ∈ s.waits ↔ X.inn = true ∧ X.pins = 0) : SInv n it i s := by
  refine ⟨S.nd, fun p hp => ?_, fun e he => ?_, S.insN, S.wn, fun p => ?_⟩
  · by_cases h : p = x
    · subst h; exact ⟨X, hx, e⟩
    · exact S.ent p hp h
  · by_cases h : e.2 = x
    · have := hi e he h
      rw [h]; exact ⟨hm, X, hx, this⟩
    · exact S.ins e he h
  · by_cases h : p = x
    · subst h
      rw [hw]
      constructor
      · intro h; exact ⟨hm, X, hx, h⟩
      · rintro ⟨_, Y, hY, h⟩
        rw [hx] at hY; cases hY; exact h
    · exact S.w p h

/-- An entry goes. -/
theorem SInvX.gone {n : Nat} {it it' : Nat → Option It} {i : Nat} {s : Sh} {x : Nat} {X : It} (S : SInvX n it i s x) (hit : ∀ p, p ≠ x → it' p = it p)
    (hi : ∀ e ∈ s.ins, e.2 = x → X.inn = true ∧ e.1 = X.key) (hinn : X.inn = true → (X.key, x) ∈ s.ins) :
    SInv n it' i ⟨if X.inn then adel .str X.key s.ins else s.ins, s.all.erase x, s.waits.filter fun p => !decide (p = x)⟩ := by
  have hmem : ∀ e : ByteArray × Nat, e ∈ (if X.inn then adel .str X.key s.ins else s.ins) ↔ e ∈ s.ins ∧ e.2 ≠ x := by
    intro e
    by_cases hX : X.inn = true
    · rw [if_pos hX]
      rw [adel_mem (kt := .str) (e := e) trivial S.insN]
      constructor
      · rintro ⟨h1, h2⟩
        exact ⟨h1, fun h3 => h2 (hi e h1 h3).2⟩
      · rintro ⟨h1, h2⟩
        refine ⟨h1, fun h3 => h2 ?_⟩
        have hx := hinn hX
        have := (List.pairwise_map.1 S.insN)
        by_cases he : e = (X.key, x)
        · rw [he]
        · exfalso
          have h4 : ∀ {l : List (ByteArray × Nat)}, (l.map (·.1)).Nodup → e ∈ l → (X.key, x) ∈ l → e.1 = X.key → e = (X.key, x) := by
            intro l
            induction l with
            | nil => intro _ h; simp at h
            | cons y l ih =>
              intro hn he hx hk
              simp only [List.map_cons, List.nodup_cons] at hn
              rcases List.mem_cons.1 he with rfl | he
              · rcases List.mem_cons.1 hx with hx | hx
                · exact hx.symm
                · exact absurd (List.mem_map.2 ⟨_, hx, hk.symm⟩) hn.1
              · rcases List.mem_cons.1 hx with hx | hx
                · exact absurd (List.mem_map.2 ⟨e, he, by rw [← hx]; exact hk⟩) hn.1
                · exact ih hn.2 he hx hk
          exact he (h4 S.insN h1 hx h3)
    · rw [if_neg hX]
      exact ⟨fun h => ⟨h, fun h2 => hX (hi e h h2).1⟩, fun h => h.1⟩
  refine ⟨S.nd.erase x, fun p hp => ?_, fun e he => ?_, ?_, S.wn.filter _, fun p => ?_⟩
  · have := (List.Nodup.mem_erase_iff S.nd).1 hp
    obtain ⟨Y, hY, e⟩ := S.ent p this.2 this.1
    exact ⟨Y, by rw [hit p this.1]; exact hY, e.sh, e.p0, e.out, fun h => (hmem _).2 ⟨e.inn h, this.1⟩⟩
  · obtain ⟨h1, h2⟩ := (hmem e).1 he
    obtain ⟨h3, h4⟩ := S.ins e h1 h2
    exact ⟨(List.Nodup.mem_erase_iff S.nd).2 ⟨h2, h3⟩, by rw [hit _ h2]; exact h4⟩
  · show ((if X.inn then adel .str X.key s.ins else s.ins).map (·.1)).Nodup
    split
    · exact adel_nodup S.insN
    · exact S.insN
  · simp only [List.mem_filter, List.Nodup.mem_erase_iff S.nd]
    by_cases h : p = x
    · subst h; simp
    · rw [hit p h, S.w p h]; simp [h]

def cnt (p : Nat) (l : List (Int × Nat)) : Int := ((l.countP fun e => decide (e.2 = p) : Nat) : Int)

/-- What holds of a cache, behind at most m calls. -/
structure Inv (m : Nat) (σ : CS) : Prop where
  sh : ∀ (i : Nat) (s : Sh), σ.sh[i]? = some s → SInv σ.sh.length σ.it i s
  cn : ∀ p X, σ.it p = some X → X.pins = cnt p σ.pins
  pin : ∀ e ∈ σ.pins, 1 ≤ e.1 ∧ e.1 ≤ σ.last ∧ ∃ X, σ.it e.2 = some X ∧ e.2 ∈ (σ.shAt (shardOf σ.sh.length X.key)).all
  pinN : (σ.pins.map (·.1)).Nodup
  pl : σ.pins.length ≤ m
  keys : ∀ p X, σ.it p = some X → X.key.size ≤ 1024
  l0 : 0 ≤ σ.last
  l1 : σ.last ≤ m
  len : ∀ (i : Nat) (s : Sh), σ.sh[i]? = some s → s.all.length ≤ m
  ok : ∀ p X, σ.it p = some X → ItOk X

theorem Inv.mono {m m' : Nat} {σ : CS} (I : Inv m σ) (h : m ≤ m') : Inv m' σ :=
  ⟨I.sh, I.cn, I.pin, I.pinN, Nat.le_trans I.pl h, I.keys, I.l0, by have := I.l1; omega, fun i s hs => Nat.le_trans (I.len i s hs) h, I.ok⟩

theorem len_of_sub : ∀ {l m : List Nat}, l.Nodup → (∀ p ∈ l, p ∈ m) → l.length ≤ m.length
  | [], _, _, _ => Nat.zero_le _
  | x :: l, m, hn, h => by
    have hx := h x (List.mem_cons_self ..)
    have hn' := List.nodup_cons.1 hn
    have := len_of_sub (l := l) (m := m.erase x) hn'.2 fun p hp => (List.mem_erase_of_ne (fun e : p = x => hn'.1 (e ▸ hp))).2 (h p (List.mem_cons_of_mem _ hp))
    have h2 := List.length_erase_of_mem hx
    have h3 := List.length_pos_of_mem hx
    simp only [List.length_cons]; omega
theorem SInv.wlen {n : Nat} {it : Nat → Option It} {i : Nat} {s : Sh} (S : SInv n it i s) : s.waits.length ≤ s.all.length := len_of_sub S.wn fun p hp => ((S.w p).1 hp).1

theorem Inv.has {m : Nat} {σ : CS} (I : Inv m σ) (hm : m ≤ 4398046511104) : AllHas σ := fun i s hs => by
  have S := I.sh i s hs
  refine ⟨fun p hp => ?_, fun p hp => ?_, ?_, fun e he => ?_⟩
  · obtain ⟨X, hX, _⟩ := S.ent p hp; exact ⟨X, hX⟩
  · obtain ⟨_, X, hX, _⟩ := (S.w p).1 hp; exact ⟨X, hX⟩
  · have := S.wlen; have := I.len i s hs; omega
  · obtain ⟨_, X, hX, _⟩ := S.ins e he; exact ⟨X, hX⟩
theorem Inv.pins {m : Nat} {σ : CS} (I : Inv m σ) (hm : m ≤ 4398046511104) {p : Nat} {X : It} (h : σ.it p = some X) : 0 ≤ X.pins ∧ X.pins ≤ m := by
  have := I.cn p X h
  have h2 := List.countP_le_length (p := fun e : Int × Nat => decide (e.2 = p)) (l := σ.pins)
  have := I.pl
  unfold cnt at *
  omega

theorem sh_lt {σ : CS} {i : Nat} {s : Sh} (hs : σ.sh[i]? = some s) : i < σ.sh.length := by
  rcases Nat.lt_or_ge i σ.sh.length with h' | h'
  · exact h'
  · rw [List.getElem?_eq_none h'] at hs; cases hs

/-- One part, and one entry of it, are put anew. -/
theorem Inv.upd {m : Nat} {σ σ' : CS} {i x : Nat} {s s' : Sh} (I : Inv m σ) (hs : σ.sh[i]? = some s) (hsh : σ'.sh = σ.sh.set i s') (hit : ∀ p, p ≠ x → σ'.it p = σ.it p) (hx : ∀ (j : Nat) (t : Sh), σ.sh[j]? = some t → j ≠ i → x ∉ t.all)
    (S' : SInv σ.sh.length σ'.it i s') : ∀ (j : Nat) (t : Sh), σ'.sh[j]? = some t → SInv σ'.sh.length σ'.it j t := by
  intro j t ht
  have hl : σ'.sh.length = σ.sh.length := by rw [hsh]; simp
  rw [hl]
  rw [hsh, List.getElem?_set] at ht
  split at ht
  · rename_i hij
    subst hij
    split at ht
    · cases ht; exact S'
    · cases ht
  · rename_i hij
    exact (I.sh j t ht).congr fun p hp => hit p fun e => hx j t ht (fun h => hij h.symm) (e ▸ hp)

/-- An entry lies in one part alone. -/
theorem Inv.apart {m : Nat} {σ : CS} (I : Inv m σ) {i j x : Nat} {s t : Sh} (hs : σ.sh[i]? = some s) (ht : σ.sh[j]? = some t) (hx : x ∈ s.all) (hy : x ∈ t.all) : i = j := by
  obtain ⟨X, hX, e⟩ := (I.sh i s hs).ent x hx
  obtain ⟨Y, hY, f⟩ := (I.sh j t ht).ent x hy
  rw [hX] at hY; cases hY
  rw [← e.sh, f.sh]

theorem shAt_set {σ : CS} {i : Nat} {s s' : Sh} (hs : σ.sh[i]? = some s) (j : Nat) : (σ.setSh i s').shAt j = if j = i then s' else σ.shAt j := by
  have hi := sh_lt hs
  unfold CS.shAt CS.setSh
  simp only [List.getElem?_set]
  by_cases h : i = j
  · subst h; simp [hi]
  · have h' : ¬ j = i := fun e => h e.symm
    simp [h, h']

/-- An entry without pins goes. -/
theorem Inv.gone {m : Nat} {σ : CS} {i x : Nat} {s : Sh} {X : It} (I : Inv m σ) (hs : σ.sh[i]? = some s) (hm : x ∈ s.all) (hx : σ.it x = some X) (hp : X.pins = 0) : Inv m (goneS σ i s x X) := by
  have S := I.sh i s hs
  have same := goneS_same σ i s x X
  have hit := goneS_it (σ := σ) (i := i) (s := s) hx
  have hsh : (goneS σ i s x X).sh = σ.sh.set i ⟨if X.inn then adel .str X.key s.ins else s.ins, s.all.erase x, s.waits.filter fun p => !decide (p = x)⟩ := by
    unfold goneS CS.setSh CS.setIt; split <;> rfl
  have hout : ∀ (j : Nat) (t : Sh), σ.sh[j]? = some t → j ≠ i → x ∉ t.all := fun j t ht hj hx' => hj (I.apart ht hs hx' hm)
  refine ⟨?_, fun p Y hY => ?_, fun e he => ?_, by rw [same.pins]; exact I.pinN, by rw [same.pins]; exact I.pl, fun p Y hY => ?_, by rw [same.last]; exact I.l0, by rw [same.last]; exact I.l1, fun j t ht => ?_, fun p Y hY => ?_⟩
  · refine I.upd hs hsh (fun p h => by rw [hit]; simp [h]) hout ((S.x fun _ _ => rfl).gone (fun p h => by rw [hit]; simp [h]) (fun e he hex => ?_) fun hX => ?_)
    · obtain ⟨_, Y, hY, h1, h2⟩ := S.ins e he
      rw [hex, hx] at hY; cases hY; exact ⟨h2, h1.symm⟩
    · obtain ⟨Y, hY, e⟩ := S.ent x hm
      rw [hx] at hY; cases hY; exact e.inn hX
  · rw [hit] at hY
    rw [same.pins]
    split at hY
    · rename_i h
      subst h
      cases hY
      exact I.cn p X hx
    · exact I.cn p Y hY
  · rw [same.pins] at he
    rw [same.last, same.len]
    obtain ⟨h1, h2, Y, hY, h3⟩ := I.pin e he
    have hne : e.2 ≠ x := by
      intro h
      have h4 := I.cn x X hx
      rw [hp] at h4
      unfold cnt at h4
      have h5 : 0 < σ.pins.countP fun e => decide (e.2 = x) := List.countP_pos_iff.2 ⟨e, he, by simp [h]⟩
      omega
    refine ⟨h1, h2, Y, by rw [hit, if_neg hne]; exact hY, ?_⟩
    have : (goneS σ i s x X).shAt = (σ.setSh i ⟨if X.inn then adel .str X.key s.ins else s.ins, s.all.erase x, s.waits.filter fun p => !decide (p = x)⟩).shAt := by
      funext j; unfold CS.shAt; rw [hsh]; rfl
    rw [this, shAt_set hs]
    split
    · rename_i hj
      rw [hj, shAt_of hs] at h3
      exact (List.Nodup.mem_erase_iff S.nd).2 ⟨hne, h3⟩
    · exact h3
  · rw [hit] at hY
    split at hY
    · cases hY; exact I.keys x X hx
    · exact I.keys p Y hY
  · rw [hsh, List.getElem?_set] at ht
    split at ht
    · split at ht
      · cases ht
        have := I.len i s hs
        have h2 := List.length_erase_le (a := x) (l := s.all)
        simp only; omega
      · cases ht
    · exact I.len j t ht
  · rw [hit] at hY
    split at hY
    · cases hY; exact ⟨(I.ok x X hx).v0, (I.ok x X hx).v1, (I.ok x X hx).c0, (I.ok x X hx).c1⟩
    · exact I.ok p Y hY

theorem Inv.makes {m : Nat} (i : Nat) (more room : Int) : ∀ (n : Nat) {σ : CS}, Inv m σ → Inv m (makesS i more room n σ)
  | 0, σ, I => I
  | n + 1, σ, I => by
    unfold makesS
    split
    · rename_i s hs
      split
      · exact I
      · rename_i x rest hw
        split
        · split
          · rename_i X hX
            have S := I.sh i s hs
            obtain ⟨h1, Y, hY, h2, h3⟩ := (S.w x).1 (by rw [hw]; exact List.mem_cons_self ..)
            rw [hX] at hY; cases hY
            exact Inv.makes i more room n (I.gone hs h1 hX h3)
          · exact I
        · exact I
    · exact I

end Go.V.Yteojmnnobmpdiaa
set_option linter.unusedVariables false
set_option linter.unusedSimpArgs false
/-! The cache: what holds of it stays behind each call. -/
namespace Go.V.Yteojmnnobmpdiaa
open Go Go.V

/-- Entries keep their keys, values and charges. -/
def Keep (σ σ' : CS) : Prop := ∀ p X, σ.it p = some X → ∃ X', σ'.it p = some X' ∧ X'.key = X.key ∧ X'.v = X.v ∧ X'.ch = X.ch
theorem Keep.refl (σ : CS) : Keep σ σ := fun p X h => ⟨X, h, rfl, rfl, rfl⟩
theorem Keep.trans {a b c : CS} (h : Keep a b) (k : Keep b c) : Keep a c := fun p X hX => by
  obtain ⟨Y, hY, h1, h2, h3⟩ := h p X hX
  obtain ⟨Z, hZ, k1, k2, k3⟩ := k p Y hY
  exact ⟨Z, hZ, k1.trans h1, k2.trans h2, k3.trans h3⟩
theorem Keep.one {σ σ' : CS} {x : Nat} {X X' : It} (hx : σ.it x = some X) (hx' : σ'.it x = some X') (h : ∀ p, p ≠ x → σ'.it p = σ.it p) (h1 : X'.key = X.key) (h2 : X'.v = X.v) (h3 : X'.ch = X.ch) : Keep σ σ' := fun p Y hY => by
  by_cases hp : p = x
  · subst hp; rw [hx] at hY; cases hY; exact ⟨X', hx', h1, h2, h3⟩
  · exact ⟨Y, by rw [h p hp]; exact hY, rfl, rfl, rfl⟩
theorem Keep.ch {σ σ' : CS} (k : Keep σ σ') {p : Nat} {X : It} (h : σ.it p = some X) : chOf σ'.it p = chOf σ.it p := by
  obtain ⟨Y, hY, _, _, h3⟩ := k p X h
  simp only [chOf, hY, h, h3]

theorem goneS_keep {σ : CS} {i : Nat} {s : Sh} {x : Nat} {X : It} (hx : σ.it x = some X) : Keep σ (goneS σ i s x X) := by
  refine Keep.one (X' := { X with inn := false }) hx (by rw [goneS_it hx]; simp) (fun p hp => by rw [goneS_it hx]; simp [hp]) rfl rfl rfl
theorem makesS_keep (i : Nat) (more room : Int) : ∀ (n : Nat) (σ : CS), Keep σ (makesS i more room n σ)
  | 0, σ => Keep.refl σ
  | n + 1, σ => by
    unfold makesS
    split
    · split
      · exact Keep.refl σ
      · split
        · split
          · rename_i X hX
            exact (goneS_keep hX).trans (makesS_keep i more room n _)
          · exact Keep.refl σ
        · exact Keep.refl σ
    · exact Keep.refl σ
theorem makesS_none (i : Nat) (more room : Int) {p : Nat} : ∀ (n : Nat) (σ : CS), σ.it p = none → (makesS i more room n σ).it p = none
  | 0, σ, h => h
  | n + 1, σ, h => by
    unfold makesS
    split
    · split
      · exact h
      · split
        · split
          · rename_i x _ _ _ X hX
            refine makesS_none i more room n _ ?_
            rw [goneS_it hX]
            split
            · rename_i hp; subst hp; rw [h] at hX; cases hX
            · exact h
          · exact h
        · exact h
    · exact h

theorem key_uniq {e f : ByteArray × Nat} : ∀ {l : List (ByteArray × Nat)}, (l.map (·.1)).Nodup → e ∈ l → f ∈ l → e.1 = f.1 → e = f
  | [], _, h, _, _ => by simp at h
  | y :: l, hn, he, hf, hk => by
    simp only [List.map_cons, List.nodup_cons] at hn
    rcases List.mem_cons.1 he with h1 | h1
    · rcases List.mem_cons.1 hf with h2 | h2
      · rw [h1, h2]
      · exact (hn.1 (List.mem_map.2 ⟨f, h2, by rw [← hk, h1]⟩)).elim
    · rcases List.mem_cons.1 hf with h2 | h2
      · exact (hn.1 (List.mem_map.2 ⟨e, h1, by rw [hk, h2]⟩)).elim
      · exact key_uniq hn.2 h1 h2 hk
theorem pin_uniq {e f : Int × Nat} : ∀ {l : List (Int × Nat)}, (l.map (·.1)).Nodup → e ∈ l → f ∈ l → e.1 = f.1 → e = f
  | [], _, h, _, _ => by simp at h
  | y :: l, hn, he, hf, hk => by
    simp only [List.map_cons, List.nodup_cons] at hn
    rcases List.mem_cons.1 he with h1 | h1
    · rcases List.mem_cons.1 hf with h2 | h2
      · rw [h1, h2]
      · exact (hn.1 (List.mem_map.2 ⟨f, h2, by rw [← hk, h1]⟩)).elim
    · rcases List.mem_cons.1 hf with h2 | h2
      · exact (hn.1 (List.mem_map.2 ⟨e, h1, by rw [hk, h2]⟩)).elim
      · exact pin_uniq hn.2 h1 h2 hk

theorem SInv.at {n : Nat} {it : Nat → Option It} {i : Nat} {s : Sh} (S : SInv n it i s) {key : ByteArray} {q : Nat} (hq : (key, q) ∈ s.ins) {X : It} (hX : it q = some X) : q ∈ s.all ∧ X.key = key ∧ X.inn = true := by
  obtain ⟨h1, Y, hY, h2, h3⟩ := S.ins _ hq
  rw [hX] at hY; cases hY
  exact ⟨h1, h2, h3⟩

theorem outS_gone {σ : CS} {i : Nat} {s : Sh} {x : Nat} {X : It} (hp : X.pins = 0) (hin : X.inn = true) : outS σ i s x X = goneS σ i s x X := by
  unfold outS goneS CS.setSh CS.setIt
  simp [hp, hin]
def outP (σ : CS) (i : Nat) (s : Sh) (x : Nat) (X : It) : CS := (σ.setIt x { X with inn := false }).setSh i { s with ins := adel .str X.key s.ins }
theorem outS_pinned {σ : CS} {i : Nat} {s : Sh} {x : Nat} {X : It} (hp : X.pins ≠ 0) : outS σ i s x X = outP σ i s x X := by
  unfold outS outP; simp [hp]
theorem outP_it {σ : CS} {i : Nat} {s : Sh} {x : Nat} {X : It} (p : Nat) : (outP σ i s x X).it p = if p = x then some { X with inn := false } else σ.it p := rfl

theorem outS_keep {σ : CS} {i : Nat} {s : Sh} {x : Nat} {X : It} (hx : σ.it x = some X) (hin : X.inn = true) : Keep σ (outS σ i s x X) := by
  by_cases hp : X.pins = 0
  · rw [outS_gone hp hin]; exact goneS_keep hx
  · rw [outS_pinned hp]
    exact Keep.one (X' := { X with inn := false }) hx (by rw [outP_it]; simp) (fun p hp => by rw [outP_it]; simp [hp]) rfl rfl rfl
theorem outS_it {σ : CS} {i : Nat} {s : Sh} {x : Nat} {X : It} (hx : σ.it x = some X) (hin : X.inn = true) (p : Nat) : (outS σ i s x X).it p = if p = x then some { X with inn := false } else σ.it p := by
  by_cases hp : X.pins = 0
  · rw [outS_gone hp hin]; exact goneS_it hx p
  · rw [outS_pinned hp]; rfl

/-- An entry is taken out. -/
theorem Inv.out {m : Nat} {σ : CS} {i x : Nat} {s : Sh} {X : It} {key : ByteArray} (I : Inv m σ) (hs : σ.sh[i]? = some s) (hq : (key, x) ∈ s.ins) (hx : σ.it x = some X) : Inv m (outS σ i s x X) := by
  have S := I.sh i s hs
  obtain ⟨hm, hk, hin⟩ := S.at hq hx
  by_cases hp : X.pins = 0
  · rw [outS_gone hp hin]; exact I.gone hs hm hx hp
  · rw [outS_pinned hp]
    have hout : ∀ (j : Nat) (t : Sh), σ.sh[j]? = some t → j ≠ i → x ∉ t.all := fun j t ht hj hx' => hj (I.apart ht hs hx' hm)
    have hit : ∀ p, p ≠ x → (outP σ i s x X).it p = σ.it p := fun p h => by rw [outP_it]; simp [h]
    have hX : (outP σ i s x X).it x = some { X with inn := false } := by rw [outP_it]; simp
    obtain ⟨_, hXY, eX⟩ := S.ent x hm
    rw [hx] at hXY; cases hXY
    have hmem : ∀ e : ByteArray × Nat, e ∈ adel .str X.key s.ins ↔ e ∈ s.ins ∧ e.2 ≠ x := fun e => by
      rw [adel_mem (kt := .str) (e := e) trivial S.insN]
      constructor
      · rintro ⟨h1, h2⟩
        refine ⟨h1, fun h3 => h2 ?_⟩
        obtain ⟨_, Y, hY, h4, _⟩ := S.ins e h1
        rw [h3, hx] at hY; cases hY; exact h4.symm
      · rintro ⟨h1, h2⟩
        refine ⟨h1, fun h3 => h2 ?_⟩
        rw [key_uniq S.insN h1 hq (by rw [h3, hk])]
    have hsx : SInv σ.sh.length (outP σ i s x X).it i { s with ins := adel .str X.key s.ins } := by
      have SX := S.x (x := x) hit
      refine SInvX.all ⟨SX.nd, fun p hp h => ?_, fun e he h => ?_, adel_nodup (kt := .str) S.insN, S.wn, SX.w⟩ hX hm ⟨eX.sh, eX.p0, fun _ => by have := eX.p0; show 0 < X.pins; omega, fun h => by cases h⟩ (fun e he h => absurd h ((hmem e).1 he).2) ?_
      · obtain ⟨Y, hY, e⟩ := SX.ent p hp h
        exact ⟨Y, hY, e.sh, e.p0, e.out, fun hy => (hmem _).2 ⟨e.inn hy, h⟩⟩
      · exact SX.ins e ((hmem e).1 he).1 h
      · simp only [Bool.false_eq_true, false_and, iff_false]
        intro hw
        obtain ⟨_, Y, hY, _, h0⟩ := (S.w x).1 hw
        rw [hx] at hY; cases hY; exact hp h0
    refine ⟨I.upd hs rfl hit hout hsx, fun p Y hY => ?_, fun e he => ?_, I.pinN, I.pl, fun p Y hY => ?_, I.l0, I.l1, fun j t ht => ?_, fun p Y hY => ?_⟩
    · rw [outP_it] at hY
      split at hY
      · rename_i h; subst h; cases hY; exact I.cn p X hx
      · exact I.cn p Y hY
    · obtain ⟨h1, h2, Y, hY, h3⟩ := I.pin e he
      refine ⟨h1, h2, ?_⟩
      have hall : ∀ j, ((outP σ i s x X).shAt j).all = (σ.shAt j).all := fun j => by
        have : (outP σ i s x X).shAt j = (σ.setSh i { s with ins := adel .str X.key s.ins }).shAt j := rfl
        rw [this, shAt_set hs]
        split
        · rename_i hj; subst hj; rw [shAt_of hs]
        · rfl
      have hlen : (outP σ i s x X).sh.length = σ.sh.length := by simp [outP, CS.setSh, CS.setIt]
      by_cases h : e.2 = x
      · rw [h, hx] at hY; cases hY
        exact ⟨{ X with inn := false }, by rw [h]; exact hX, by rw [hlen, hall]; exact h3⟩
      · exact ⟨Y, by rw [hit _ h]; exact hY, by rw [hlen, hall]; exact h3⟩
    · rw [outP_it] at hY
      split at hY
      · cases hY; exact I.keys x X hx
      · exact I.keys p Y hY
    · have ht' : (σ.sh.set i { s with ins := adel .str X.key s.ins })[j]? = some t := ht
      rw [List.getElem?_set] at ht'
      split at ht'
      · split at ht'
        · cases ht'; exact I.len i s hs
        · cases ht'
      · exact I.len j t ht'
    · rw [outP_it] at hY
      split at hY
      · cases hY; exact ⟨(I.ok x X hx).v0, (I.ok x X hx).v1, (I.ok x X hx).c0, (I.ok x X hx).c1⟩
      · exact I.ok p Y hY

/-- In the part, the key isn't any more. -/
theorem outS_ins {σ : CS} {i : Nat} {s : Sh} {x : Nat} {X : It} (hs : σ.sh[i]? = some s) (hin : X.inn = true) : ((outS σ i s x X).shAt i).ins = adel .str X.key s.ins := by
  have hi := sh_lt hs
  by_cases hp : X.pins = 0
  · rw [outS_gone hp hin]
    simp [goneS, CS.shAt, CS.setSh, CS.setIt, hi, hin]
  · rw [outS_pinned hp]; simp [outP, CS.shAt, CS.setSh, CS.setIt, hi]

end Go.V.Yteojmnnobmpdiaa
set_option linter.unusedVariables false
set_option linter.unusedSimpArgs false
/-! The cache: what holds of it stays behind Put, Get, Free, Room. -/
namespace Go.V.Yteojmnnobmpdiaa
open Go Go.V

theorem cnt_zero {p : Nat} {l : List (Int × Nat)} (h : ∀ e ∈ l, e.2 ≠ p) : cnt p l = 0 := by
  unfold cnt
  rw [List.countP_eq_zero.2 fun e he => by simpa using h e he]
  rfl
theorem cnt_ne {p : Nat} {l : List (Int × Nat)} {e : Int × Nat} (h : e ∈ l) (he : e.2 = p) : cnt p l ≠ 0 := by
  unfold cnt
  have : 0 < l.countP fun e => decide (e.2 = p) := List.countP_pos_iff.2 ⟨e, h, by simp [he]⟩
  omega
theorem cnt_append (p : Nat) (l m : List (Int × Nat)) : cnt p (l ++ m) = cnt p l + cnt p m := by
  unfold cnt; rw [List.countP_append]; omega
theorem cnt_one (p : Nat) (e : Int × Nat) : cnt p [e] = if e.2 = p then 1 else 0 := by
  unfold cnt
  by_cases h : e.2 = p <;> simp [h, List.countP_cons]
theorem cnt_del {n : Int} {x : Nat} (p : Nat) : ∀ {l : List (Int × Nat)}, (n, x) ∈ l → (l.map (·.1)).Nodup → cnt p (adel (.int .i64) n l) = cnt p l - if x = p then 1 else 0
  | [], h, _ => by simp at h
  | y :: l, h, hn => by
    simp only [List.map_cons, List.nodup_cons] at hn
    have hc : cnt p (y :: l) = cnt p [y] + cnt p l := by rw [← cnt_append]; rfl
    by_cases hy : keq (.int .i64) n y.1 = true
    · have hyk := (keq_iff (kt := .int .i64) trivial _ _).1 hy
      have : y = (n, x) := by
        rcases List.mem_cons.1 h with h | h
        · exact h.symm
        · exact (hn.1 (List.mem_map.2 ⟨_, h, hyk⟩)).elim
      subst this
      rw [adel, if_pos hy, hc, cnt_one]
      split <;> omega
    · rw [adel, if_neg hy]
      have hm : (n, x) ∈ l := by
        rcases List.mem_cons.1 h with h | h
        · subst h; exact (hy ((keq_iff (kt := .int .i64) trivial _ _).2 rfl)).elim
        · exact h
      have hc2 : cnt p (y :: adel (.int .i64) n l) = cnt p [y] + cnt p (adel (.int .i64) n l) := by rw [← cnt_append]; rfl
      rw [hc2, cnt_del p hm hn.2, hc]
      omega

/-- One part, one entry and the pins are put anew. -/
theorem Inv.build {m m' : Nat} {σ σ' : CS} {i x : Nat} {s s' : Sh} {X' : It} (I : Inv m σ) (hs : σ.sh[i]? = some s) (hsh : σ'.sh = σ.sh.set i s') (hit : ∀ p, p ≠ x → σ'.it p = σ.it p) (hx' : σ'.it x = some X')
    (hout : ∀ (j : Nat) (t : Sh), σ.sh[j]? = some t → j ≠ i → x ∉ t.all) (S' : SInv σ.sh.length σ'.it i s') (hcq : ∀ p, p ≠ x → cnt p σ'.pins = cnt p σ.pins) (hcx : X'.pins = cnt x σ'.pins) (hkey : X'.key.size ≤ 1024) (hok : ItOk X')
    (hl : σ.last ≤ σ'.last) (hlm : σ'.last ≤ m') (hpl : σ'.pins.length ≤ m') (hpn : (σ'.pins.map (·.1)).Nodup) (hp : ∀ e ∈ σ'.pins, e ∈ σ.pins ∨ (e = (σ'.last, x) ∧ 1 ≤ σ'.last))
    (hxall : cnt x σ'.pins ≠ 0 → x ∈ s'.all ∧ shardOf σ.sh.length X'.key = i) (hall : ∀ q ∈ s.all, q ≠ x → q ∈ s'.all) (hlen : s'.all.length ≤ m') (hmm : m ≤ m') : Inv m' σ' := by
  have hn : σ'.sh.length = σ.sh.length := by rw [hsh]; simp
  have hat : ∀ j, σ'.shAt j = if j = i then s' else σ.shAt j := fun j => by
    have : σ'.shAt j = (σ.setSh i s').shAt j := by unfold CS.shAt CS.setSh; rw [hsh]
    rw [this, shAt_set hs]
  refine ⟨I.upd hs hsh hit hout S', fun p Y hY => ?_, fun e he => ?_, hpn, hpl, fun p Y hY => ?_, by have := I.l0; omega, hlm, fun j t ht => ?_, fun p Y hY => ?_⟩
  · by_cases h : p = x
    · subst h; rw [hx'] at hY; cases hY; exact hcx
    · rw [hit p h] at hY; rw [hcq p h]; exact I.cn p Y hY
  · by_cases h : e.2 = x
    · obtain ⟨h1, h2⟩ := hxall (cnt_ne he h)
      have hr : 1 ≤ e.1 ∧ e.1 ≤ σ'.last := by
        rcases hp e he with h3 | ⟨h3, h4⟩
        · have := I.pin e h3; omega
        · rw [h3]; exact ⟨h4, Int.le_refl _⟩
      exact ⟨hr.1, hr.2, X', by rw [h]; exact hx', by rw [hn, h2, hat, if_pos rfl, h]; exact h1⟩
    · rcases hp e he with h3 | ⟨h3, _⟩
      · obtain ⟨h1, h2, Y, hY, h4⟩ := I.pin e h3
        refine ⟨h1, by omega, Y, by rw [hit _ h]; exact hY, ?_⟩
        rw [hn, hat]
        split
        · rename_i hj
          rw [hj, shAt_of hs] at h4
          exact hall _ h4 h
        · exact h4
      · rw [h3] at h; exact absurd rfl h
  · by_cases h : p = x
    · subst h; rw [hx'] at hY; cases hY; exact hkey
    · rw [hit p h] at hY; exact I.keys p Y hY
  · rw [hsh, List.getElem?_set] at ht
    split at ht
    · split at ht
      · cases ht; exact hlen
      · cases ht
    · exact Nat.le_trans (I.len j t ht) hmm
  · by_cases h : p = x
    · subst h; rw [hx'] at hY; cases hY; exact hok
    · rw [hit p h] at hY; exact I.ok p Y hY

theorem Inv.pin_new {m : Nat} {σ : CS} (I : Inv m σ) : ∀ y ∈ σ.pins, y.1 ≠ σ.last + 1 := fun y hy h => by have := (I.pin y hy).2.1; omega
theorem Inv.aput {m : Nat} {σ : CS} (I : Inv m σ) (x : Nat) : aput (.int .i64) (σ.last + 1) x σ.pins = σ.pins ++ [(σ.last + 1, x)] := aput_new (kt := .int .i64) trivial I.pin_new
theorem Inv.pinN' {m : Nat} {σ : CS} (I : Inv m σ) (x : Nat) : ((σ.pins ++ [(σ.last + 1, x)]).map (·.1)).Nodup := by
  rw [List.map_append, List.nodup_append]
  refine ⟨I.pinN, by simp, ?_⟩
  intro a ha b hb
  simp at hb
  subst hb
  obtain ⟨y, hy, rfl⟩ := List.mem_map.1 ha
  exact I.pin_new y hy

/-- A new entry, pinned. -/
def addS (σ : CS) (i : Nat) (key : ByteArray) (v ch : Int) (p : Nat) : CS :=
  { σ with last := σ.last + 1, sh := σ.sh.set i ⟨(σ.shAt i).ins ++ [(key, p)], (σ.shAt i).all ++ [p], (σ.shAt i).waits⟩, pins := σ.pins ++ [(σ.last + 1, p)], it := fun q => if q = p then some ⟨key, v, ch, true, 1⟩ else σ.it q }
/-- The key's entry is taken out. -/
def takeS (σ : CS) (i : Nat) (key : ByteArray) : CS := match lookK key (σ.shAt i).ins with
  | some q => (match σ.it q with | some X => outS σ i (σ.shAt i) q X | none => σ)
  | none => σ

theorem takeS_same (σ : CS) (i : Nat) (key : ByteArray) : Same σ (takeS σ i key) := by
  unfold takeS
  split
  · split
    · exact outS_same ..
    · exact Same.refl _
  · exact Same.refl _
theorem takeS_none {σ : CS} {i : Nat} {key : ByteArray} {m : Nat} (I : Inv m σ) {s : Sh} (hs : σ.sh[i]? = some s) {p : Nat} (h : σ.it p = none) : (takeS σ i key).it p = none := by
  unfold takeS
  rw [shAt_of hs]
  split
  · rename_i q hq
    split
    · rename_i X hX
      rw [outS_it hX ((I.sh i s hs).at (lookK_some hq) hX).2.2]
      split
      · rename_i hp; subst hp; rw [h] at hX; cases hX
      · exact h
    · exact h
  · exact h
theorem takeS_keep {σ : CS} {i : Nat} {key : ByteArray} {m : Nat} (I : Inv m σ) {s : Sh} (hs : σ.sh[i]? = some s) : Keep σ (takeS σ i key) := by
  unfold takeS
  rw [shAt_of hs]
  split
  · rename_i q hq
    split
    · rename_i X hX
      exact outS_keep hX ((I.sh i s hs).at (lookK_some hq) hX).2.2
    · exact Keep.refl _
  · exact Keep.refl _
theorem Inv.take {σ : CS} {i : Nat} {key : ByteArray} {m : Nat} (I : Inv m σ) {s : Sh} (hs : σ.sh[i]? = some s) : Inv m (takeS σ i key) := by
  unfold takeS
  rw [shAt_of hs]
  split
  · rename_i q hq
    split
    · rename_i X hX
      exact I.out hs (lookK_some hq) hX
    · exact I
  · exact I
theorem takeS_ins {σ : CS} {i : Nat} {key : ByteArray} {m : Nat} (I : Inv m σ) {s : Sh} (hs : σ.sh[i]? = some s) : ∀ e ∈ ((takeS σ i key).shAt i).ins, e.1 ≠ key := by
  unfold takeS
  rw [shAt_of hs]
  cases hq : lookK key s.ins with
  | none => simp only; rw [shAt_of hs]; exact lookK_none hq
  | some q =>
    have hm := lookK_some hq
    obtain ⟨_, X, hX, hk, hin⟩ := (I.sh i s hs).ins _ hm
    have hX' : σ.it q = some X := hX
    simp only [hX']
    rw [outS_ins hs hin, hk]
    intro e he
    exact ((adel_mem (kt := .str) (e := e) trivial (I.sh i s hs).insN).1 he).2

theorem putT_eq {τ : CS} {i : Nat} {key : ByteArray} {v ch : Int} {p m : Nat} (I : Inv m τ) {s : Sh} (hs : τ.sh[i]? = some s) : putT τ i key v ch p = addS (takeS τ i key) i key v ch p := by
  have I2 := I.take (key := key) hs
  have hn := takeS_ins I (key := key) hs
  have h3 : putT τ i key v ch p = pinS (((takeS τ i key).setIt p ⟨key, v, ch, true, 0⟩).setSh i ⟨aput .str key p ((takeS τ i key).shAt i).ins, ((takeS τ i key).shAt i).all ++ [p], ((takeS τ i key).shAt i).waits⟩) p ⟨key, v, ch, true, 0⟩ := rfl
  rw [h3]
  generalize takeS τ i key = σ2 at *
  unfold addS pinS CS.setSh CS.setIt
  have e1 : Go.V.aput .str key p (σ2.shAt i).ins = (σ2.shAt i).ins ++ [(key, p)] := aput_new (kt := .str) trivial hn
  simp only [I2.aput, e1]
  congr 1
  funext q
  split <;> rfl

theorem Inv.add {m : Nat} {σ : CS} {i : Nat} {s : Sh} {key : ByteArray} {v ch : Int} {p : Nat} (I : Inv m σ) (hs : σ.sh[i]? = some s) (hp : σ.it p = none) (hk : ∀ e ∈ s.ins, e.1 ≠ key) (hi : shardOf σ.sh.length key = i) (hsz : key.size ≤ 1024)
    (hv0 : 0 ≤ v) (hv1 : v ≤ big) (hc0 : 0 ≤ ch) (hc1 : ch ≤ big) : Inv (m + 1) (addS σ i key v ch p) := by
  have S := I.sh i s hs
  have hne : ∀ (j : Nat) (t : Sh), σ.sh[j]? = some t → p ∉ t.all := fun j t ht hm => by
    obtain ⟨X, hX, _⟩ := (I.sh j t ht).ent p hm
    rw [hp] at hX; cases hX
  have hit : ∀ q, q ≠ p → (addS σ i key v ch p).it q = σ.it q := fun q h => by simp [addS, h]
  have hX : (addS σ i key v ch p).it p = some ⟨key, v, ch, true, 1⟩ := by simp [addS]
  have hc0' : cnt p σ.pins = 0 := cnt_zero fun e he h => by
    obtain ⟨_, _, Y, hY, _⟩ := I.pin e he
    rw [h, hp] at hY; cases hY
  have hcnt : ∀ q, cnt q (addS σ i key v ch p).pins = cnt q σ.pins + if p = q then 1 else 0 := fun q => by
    show cnt q (σ.pins ++ [(σ.last + 1, p)]) = _
    rw [cnt_append, cnt_one]
  have hl1 := I.l1
  have hl0 := I.l0
  have hpl := I.pl
  have hlen := I.len i s hs
  refine I.build (x := p) (s' := ⟨s.ins ++ [(key, p)], s.all ++ [p], s.waits⟩) (X' := ⟨key, v, ch, true, 1⟩) hs (by simp [addS, shAt_of hs]) hit hX (fun j t ht _ => hne j t ht) ?_ (fun q h => by rw [hcnt, if_neg fun e => h e.symm]; omega) (by rw [hcnt, hc0']; simp) hsz ⟨hv0, hv1, hc0, hc1⟩
    (by simp only [addS]; omega) (by simp only [addS]; omega) (by simp [addS]; omega) (I.pinN' p) (fun e he => ?_) (fun _ => ⟨by simp, hi⟩) (fun q hq _ => by simp [hq]) (by simp; omega) (by omega)
  · have SX := S.x (x := p) hit
    refine SInvX.all ⟨?_, fun q hq h => ?_, fun e he h => ?_, ?_, S.wn, fun q h => ?_⟩ hX (by simp) ⟨hi, show (0 : Int) ≤ 1 by decide, (fun h => by cases h), (fun _ => by simp)⟩ (fun e he h => ?_) ?_
    · rw [List.nodup_append]
      refine ⟨S.nd, by simp, ?_⟩
      intro a ha b hb
      simp at hb; subst hb
      intro h; subst h; exact hne i s hs ha
    · simp only [List.mem_append, List.mem_singleton, h, or_false] at hq
      obtain ⟨Y, hY, e⟩ := SX.ent q hq h
      exact ⟨Y, hY, e.sh, e.p0, e.out, fun hy => List.mem_append.2 (.inl (e.inn hy))⟩
    · rcases List.mem_append.1 he with he | he
      · obtain ⟨h1, h2⟩ := SX.ins e he h
        exact ⟨List.mem_append.2 (.inl h1), h2⟩
      · simp at he; subst he; exact absurd rfl h
    · rw [List.map_append, List.nodup_append]
      refine ⟨S.insN, by simp, ?_⟩
      intro a ha b hb
      simp at hb; subst hb
      obtain ⟨y, hy, rfl⟩ := List.mem_map.1 ha
      exact hk y hy
    · simp only [List.mem_append, List.mem_singleton, h, or_false]
      exact SX.w q h
    · rcases List.mem_append.1 he with he | he
      · exact absurd (h ▸ (S.ins e he).1) (hne i s hs)
      · simp at he; subst he; exact ⟨rfl, rfl⟩
    · constructor
      · intro hw; exact absurd ((S.w p).1 hw).1 (hne i s hs)
      · rintro ⟨_, h⟩; cases h
  · have he' : e ∈ σ.pins ++ [(σ.last + 1, p)] := he
    rcases List.mem_append.1 he' with he' | he'
    · exact .inl he'
    · simp at he'; exact .inr ⟨he', by simp only [addS]; omega⟩

end Go.V.Yteojmnnobmpdiaa
set_option linter.unusedVariables false
set_option linter.unusedSimpArgs false
/-! The cache: what holds of it stays behind Get, Free, Room, Drop. -/
namespace Go.V.Yteojmnnobmpdiaa
open Go Go.V

/-- An entry is pinned once more. -/
def repin (σ : CS) (i : Nat) (s : Sh) (q : Nat) (X : It) : CS :=
  { σ with last := σ.last + 1, sh := σ.sh.set i { s with waits := s.waits.filter fun p => !decide (p = q) }, pins := σ.pins ++ [(σ.last + 1, q)], it := fun p => if p = q then some { X with pins := X.pins + 1 } else σ.it p }

theorem Inv.repin_eq {m : Nat} {σ : CS} (I : Inv m σ) (i : Nat) (s : Sh) (q : Nat) (X : It) : pinS (busyS σ i s q) q X = repin σ i s q X := by
  unfold pinS busyS CS.setSh CS.setIt repin
  simp only [I.aput]

theorem Inv.get {m : Nat} {σ : CS} {i q : Nat} {s : Sh} {X : It} {key : ByteArray} (I : Inv m σ) (hs : σ.sh[i]? = some s) (hq : (key, q) ∈ s.ins) (hX : σ.it q = some X) : Inv (m + 1) (repin σ i s q X) := by
  have S := I.sh i s hs
  obtain ⟨hm, hk, hin⟩ := S.at hq hX
  have hit : ∀ p, p ≠ q → (repin σ i s q X).it p = σ.it p := fun p h => by simp [repin, h]
  have hX' : (repin σ i s q X).it q = some { X with pins := X.pins + 1 } := by simp [repin]
  have hcnt : ∀ p, cnt p (repin σ i s q X).pins = cnt p σ.pins + if q = p then 1 else 0 := fun p => by
    show cnt p (σ.pins ++ [(σ.last + 1, q)]) = _
    rw [cnt_append, cnt_one]
  have hl1 := I.l1
  have hl0 := I.l0
  have hpl := I.pl
  have hlen := I.len i s hs
  obtain ⟨_, hXY, eX⟩ := S.ent q hm
  rw [hX] at hXY; cases hXY
  have hok := I.ok q X hX
  refine I.build (x := q) (s' := { s with waits := s.waits.filter fun p => !decide (p = q) }) (X' := { X with pins := X.pins + 1 }) hs rfl hit hX' (fun j t ht hj hx' => hj (I.apart ht hs hx' hm)) ?_ (fun p h => by rw [hcnt, if_neg fun e => h e.symm]; omega) (by rw [hcnt, ← I.cn q X hX]; simp) (I.keys q X hX) ⟨hok.v0, hok.v1, hok.c0, hok.c1⟩
    (by simp only [repin]; omega) (by simp only [repin]; omega) (by simp [repin]; omega) (I.pinN' q) (fun e he => ?_) (fun _ => ⟨hm, eX.sh⟩) (fun p hp _ => hp) (by simp only; omega) (by omega)
  · have SX := S.x (x := q) hit
    have hp0 := eX.p0
    refine SInvX.all ⟨S.nd, fun p hp h => ?_, SX.ins, S.insN, S.wn.filter _, fun p h => ?_⟩ hX' hm ⟨eX.sh, by show 0 ≤ X.pins + 1; omega, fun _ => by show 0 < X.pins + 1; omega, fun hy => eX.inn hy⟩ (fun e he h => ?_) ?_
    · obtain ⟨Y, hY, e⟩ := SX.ent p hp h
      exact ⟨Y, hY, e.sh, e.p0, e.out, e.inn⟩
    · rw [← SX.w p h]; simp [h]
    · obtain ⟨_, Y, hY, h1, h2⟩ := S.ins e he
      rw [h, hX] at hY; cases hY; exact ⟨h1, h2⟩
    · simp only [List.mem_filter, decide_true, Bool.not_true, Bool.false_eq_true, and_false, false_iff, not_and]
      intro _ h; omega
  · have he' : e ∈ σ.pins ++ [(σ.last + 1, q)] := he
    rcases List.mem_append.1 he' with he' | he'
    · exact .inl he'
    · simp at he'; exact .inr ⟨he', by simp only [repin]; omega⟩

/-- A pin goes, and its entry has others. -/
theorem Inv.unpinned {m : Nat} {σ : CS} {n : Int} {x : Nat} {X : It} (I : Inv m σ) (hn : (n, x) ∈ σ.pins) (hX : σ.it x = some X) (h1 : X.pins - 1 > 0) : Inv m (unpin σ n x X) := by
  obtain ⟨_, _, Y, hY, hm⟩ := I.pin _ hn
  have hY' : σ.it x = some Y := hY
  rw [hX] at hY'; cases hY'
  have hm' : x ∈ (σ.shAt (shardOf σ.sh.length X.key)).all := hm
  obtain ⟨s, hs⟩ : ∃ s, σ.sh[shardOf σ.sh.length X.key]? = some s := by
    cases hh : σ.sh[shardOf σ.sh.length X.key]? with
    | some s => exact ⟨s, rfl⟩
    | none => simp [CS.shAt, hh] at hm'
  rw [shAt_of hs] at hm'
  have S := I.sh _ s hs
  obtain ⟨_, hXY, eX⟩ := S.ent x hm'
  rw [hX] at hXY; cases hXY
  have hok := I.ok x X hX
  have hit : ∀ p, p ≠ x → (unpin σ n x X).it p = σ.it p := fun p h => by simp [unpin, CS.setIt, h]
  have hX' : (unpin σ n x X).it x = some { X with pins := X.pins - 1 } := by simp [unpin, CS.setIt]
  have hcnt : ∀ p, cnt p (unpin σ n x X).pins = cnt p σ.pins - if x = p then 1 else 0 := fun p => cnt_del p hn I.pinN
  have hset : σ.sh.set (shardOf σ.sh.length X.key) s = σ.sh := by
    apply List.ext_getElem?
    intro j
    rw [List.getElem?_set]
    split
    · rename_i hj; subst hj; rw [if_pos (sh_lt hs), hs]
    · rfl
  have hpl := (adel_sub (kt := .int .i64) (k := n) σ.pins).length_le
  have hpl' := I.pl
  refine I.build (x := x) (s' := s) (X' := { X with pins := X.pins - 1 }) hs hset.symm hit hX' (fun j t ht hj hx' => hj (I.apart ht hs hx' hm')) ?_ (fun p h => by rw [hcnt, if_neg fun e => h e.symm]; omega) (by rw [hcnt, ← I.cn x X hX]; simp) (I.keys x X hX) ⟨hok.v0, hok.v1, hok.c0, hok.c1⟩
    (Int.le_refl _) I.l1 (Nat.le_trans hpl hpl') (adel_nodup (kt := .int .i64) I.pinN) (fun e he => .inl ((adel_sub _).subset he)) (fun _ => ⟨hm', eX.sh⟩) (fun p hp _ => hp) (I.len _ s hs) (Nat.le_refl _)
  have SX := S.x (x := x) hit
  refine SInvX.all SX hX' hm' ⟨eX.sh, by show 0 ≤ X.pins - 1; omega, fun _ => h1, eX.inn⟩ (fun e he h => ?_) ?_
  · obtain ⟨_, Y, hY, h1, h2⟩ := S.ins e he
    rw [h, hX] at hY; cases hY; exact ⟨h1, h2⟩
  · constructor
    · intro hw
      obtain ⟨_, Y, hY, _, h0⟩ := (S.w x).1 hw
      rw [hX] at hY; cases hY; omega
    · rintro ⟨_, h0⟩; simp only at h0; omega

/-- The part that a pin's entry lies in. -/
theorem Inv.at {m : Nat} {σ : CS} {n : Int} {x : Nat} {X : It} (I : Inv m σ) (hn : (n, x) ∈ σ.pins) (hX : σ.it x = some X) : ∃ s, σ.sh[shardOf σ.sh.length X.key]? = some s ∧ x ∈ s.all ∧ EOk σ.sh.length (shardOf σ.sh.length X.key) s x X ∧ 1 ≤ X.pins := by
  obtain ⟨_, _, Y, hY, hm⟩ := I.pin _ hn
  have hY' : σ.it x = some Y := hY
  rw [hX] at hY'; cases hY'
  have hm' : x ∈ (σ.shAt (shardOf σ.sh.length X.key)).all := hm
  obtain ⟨s, hs⟩ : ∃ s, σ.sh[shardOf σ.sh.length X.key]? = some s := by
    cases hh : σ.sh[shardOf σ.sh.length X.key]? with
    | some s => exact ⟨s, rfl⟩
    | none => simp [CS.shAt, hh] at hm'
  rw [shAt_of hs] at hm'
  obtain ⟨_, hXY, eX⟩ := (I.sh _ s hs).ent x hm'
  rw [hX] at hXY; cases hXY
  have := I.cn x X hX
  have h2 := cnt_ne hn (p := x) rfl
  have := eX.p0
  exact ⟨s, hs, hm', eX, by omega⟩

/-- The last pin goes, and the entry waits. -/
def waitS (σ : CS) (n : Int) (x : Nat) (X : It) (s : Sh) : CS := (unpin σ n x X).setSh (shardOf σ.sh.length X.key) { s with waits := s.waits ++ [x] }
theorem Inv.wait {m : Nat} {σ : CS} {n : Int} {x : Nat} {X : It} {s : Sh} (I : Inv m σ) (hn : (n, x) ∈ σ.pins) (hX : σ.it x = some X) (hs : σ.sh[shardOf σ.sh.length X.key]? = some s) (h1 : ¬ X.pins - 1 > 0) (hin : X.inn = true) : Inv m (waitS σ n x X s) := by
  obtain ⟨s', hs', hm', eX, hp1⟩ := I.at hn hX
  rw [hs] at hs'; cases hs'
  have S := I.sh _ s hs
  have hok := I.ok x X hX
  have hit : ∀ p, p ≠ x → (waitS σ n x X s).it p = σ.it p := fun p h => by simp [waitS, CS.setSh, unpin, CS.setIt, h]
  have hX' : (waitS σ n x X s).it x = some { X with pins := X.pins - 1 } := by simp [waitS, CS.setSh, unpin, CS.setIt]
  have hcnt : ∀ p, cnt p (waitS σ n x X s).pins = cnt p σ.pins - if x = p then 1 else 0 := fun p => cnt_del p hn I.pinN
  have hpl := (adel_sub (kt := .int .i64) (k := n) σ.pins).length_le
  have hpl' := I.pl
  have hxw : x ∉ s.waits := fun hw => by
    obtain ⟨_, Y, hY, _, h0⟩ := (S.w x).1 hw
    rw [hX] at hY; cases hY; omega
  refine I.build (x := x) (s' := { s with waits := s.waits ++ [x] }) (X' := { X with pins := X.pins - 1 }) hs rfl hit hX' (fun j t ht hj hx' => hj (I.apart ht hs hx' hm')) ?_ (fun p h => by rw [hcnt, if_neg fun e => h e.symm]; omega) (by rw [hcnt, ← I.cn x X hX]; simp) (I.keys x X hX) ⟨hok.v0, hok.v1, hok.c0, hok.c1⟩
    (Int.le_refl _) I.l1 (Nat.le_trans hpl hpl') (adel_nodup (kt := .int .i64) I.pinN) (fun e he => .inl ((adel_sub _).subset he)) (fun _ => ⟨hm', eX.sh⟩) (fun p hp _ => hp) (I.len _ s hs) (Nat.le_refl _)
  have SX := S.x (x := x) hit
  refine SInvX.all ⟨S.nd, fun p hp h => ?_, SX.ins, S.insN, ?_, fun p h => ?_⟩ hX' hm' ⟨eX.sh, by show 0 ≤ X.pins - 1; omega, (fun h => by rw [show ({ X with pins := X.pins - 1 } : It).inn = X.inn from rfl, hin] at h; cases h), eX.inn⟩ (fun e he h => ?_) ?_
  · obtain ⟨Y, hY, e⟩ := SX.ent p hp h
    exact ⟨Y, hY, e.sh, e.p0, e.out, e.inn⟩
  · rw [List.nodup_append]
    refine ⟨S.wn, by simp, ?_⟩
    intro a ha b hb
    simp at hb; subst hb
    intro h; subst h; exact hxw ha
  · rw [← SX.w p h]; simp [h]
  · obtain ⟨_, Y, hY, h1, h2⟩ := S.ins e he
    rw [h, hX] at hY; cases hY; exact ⟨h1, h2⟩
  · simp only [List.mem_append, List.mem_singleton, or_true, true_iff]
    exact ⟨hin, by omega⟩

/-- The last pin goes, and the entry with it. -/
theorem Inv.last {m : Nat} {σ : CS} {n : Int} {x : Nat} {X : It} {s : Sh} (I : Inv m σ) (hn : (n, x) ∈ σ.pins) (hX : σ.it x = some X) (hs : σ.sh[shardOf σ.sh.length X.key]? = some s) (h1 : ¬ X.pins - 1 > 0) (hin : X.inn = false) :
    Inv m (goneS (unpin σ n x X) (shardOf σ.sh.length X.key) s x { X with pins := X.pins - 1 }) := by
  obtain ⟨s', hs', hm', eX, hp1⟩ := I.at hn hX
  rw [hs] at hs'; cases hs'
  have S := I.sh _ s hs
  have hok := I.ok x X hX
  have hg : goneS (unpin σ n x X) (shardOf σ.sh.length X.key) s x { X with pins := X.pins - 1 } = (unpin σ n x X).setSh (shardOf σ.sh.length X.key) ⟨if X.inn then adel .str X.key s.ins else s.ins, s.all.erase x, s.waits.filter fun p => !decide (p = x)⟩ := by
    unfold goneS; simp [hin]
  rw [hg]
  have hit : ∀ p, p ≠ x → ((unpin σ n x X).setSh (shardOf σ.sh.length X.key) ⟨if X.inn then adel .str X.key s.ins else s.ins, s.all.erase x, s.waits.filter fun p => !decide (p = x)⟩).it p = σ.it p := fun p h => by simp [CS.setSh, unpin, CS.setIt, h]
  have hX' : ((unpin σ n x X).setSh (shardOf σ.sh.length X.key) ⟨if X.inn then adel .str X.key s.ins else s.ins, s.all.erase x, s.waits.filter fun p => !decide (p = x)⟩).it x = some { X with pins := X.pins - 1 } := by simp [CS.setSh, unpin, CS.setIt]
  have hcnt : ∀ p, cnt p (adel (.int .i64) n σ.pins) = cnt p σ.pins - if x = p then 1 else 0 := fun p => cnt_del p hn I.pinN
  have hpl := (adel_sub (kt := .int .i64) (k := n) σ.pins).length_le
  have hpl' := I.pl
  have hc := I.cn x X hX
  have hel := List.length_erase_le (a := x) (l := s.all)
  have hlen := I.len _ s hs
  refine I.build (x := x) (s' := ⟨if X.inn then adel .str X.key s.ins else s.ins, s.all.erase x, s.waits.filter fun p => !decide (p = x)⟩) (X' := { X with pins := X.pins - 1 }) hs rfl hit hX' (fun j t ht hj hx' => hj (I.apart ht hs hx' hm')) ?_ (fun p h => by
      show cnt p (adel (.int .i64) n σ.pins) = _
      rw [hcnt, if_neg fun e => h e.symm]; omega) (by
      show X.pins - 1 = cnt x (adel (.int .i64) n σ.pins)
      rw [hcnt, ← hc]; simp) (I.keys x X hX) ⟨hok.v0, hok.v1, hok.c0, hok.c1⟩
    (Int.le_refl _) I.l1 (Nat.le_trans hpl hpl') (adel_nodup (kt := .int .i64) I.pinN) (fun e he => .inl ((adel_sub _).subset he)) (fun h => absurd (show cnt x (adel (.int .i64) n σ.pins) = 0 by rw [hcnt, ← hc]; simp; omega) h) (fun p hp h => (List.Nodup.mem_erase_iff S.nd).2 ⟨h, hp⟩) (by simp only; omega) (Nat.le_refl _)
  refine (S.x (x := x) (fun p h => rfl)).gone hit (fun e he h => ?_) fun h => by rw [hin] at h; cases h
  obtain ⟨_, Y, hY, h2, h3⟩ := S.ins e he
  rw [h, hX] at hY; cases hY; exact ⟨h3, h2.symm⟩

theorem freeT_eq {m : Nat} {σ : CS} {n : Int} {x : Nat} {X : It} {s : Sh} (hs : σ.sh[shardOf σ.sh.length X.key]? = some s) : freeT σ n x X =
    if X.pins - 1 > 0 then unpin σ n x X else if X.inn then makesS (shardOf σ.sh.length X.key) 0 (share σ) (s.waits.length + 1) (waitS σ n x X s) else goneS (unpin σ n x X) (shardOf σ.sh.length X.key) s x { X with pins := X.pins - 1 } := by
  unfold freeT
  simp only [shAt_of hs]
  rfl

theorem Inv.free {m : Nat} {σ : CS} {n : Int} {x : Nat} {X : It} (I : Inv m σ) (hn : (n, x) ∈ σ.pins) (hX : σ.it x = some X) : Inv m (freeT σ n x X) := by
  obtain ⟨s, hs, hm, eX, hp1⟩ := I.at hn hX
  rw [freeT_eq (m := m) hs]
  split
  · rename_i h1; exact I.unpinned hn hX h1
  · rename_i h1
    split
    · rename_i hin; exact Inv.makes _ _ _ _ (I.wait hn hX hs h1 hin)
    · rename_i hin; exact I.last hn hX hs h1 (by simpa using hin)

theorem Inv.drop {m : Nat} {σ : CS} (I : Inv m σ) (h1 : 1 ≤ σ.sh.length) (key : ByteArray) : Inv m (dropS σ key).2 := by
  have hlt := shardOf_lt h1 key
  obtain ⟨s, hs⟩ : ∃ s, σ.sh[shardOf σ.sh.length key]? = some s := ⟨_, List.getElem?_eq_getElem hlt⟩
  unfold dropS
  simp only [shAt_of hs]
  split
  · rename_i q hq
    split
    · rename_i X hX; exact I.out hs (lookK_some hq) hX
    · exact I
  · exact I

theorem Inv.room {m : Nat} {σ : CS} (I : Inv m σ) (r : Int) : Inv m (roomS σ r) := by
  unfold roomS
  have I0 : Inv m { σ with room := r } := ⟨I.sh, I.cn, I.pin, I.pinN, I.pl, I.keys, I.l0, I.l1, I.len, I.ok⟩
  have key : ∀ (l : List Nat) (τ : CS), Inv m τ → Inv m (l.foldl (fun τ i => makesS i 0 (share τ) (τ.shAt i).waits.length τ) τ) := by
    intro l
    induction l with
    | nil => intro τ h; exact h
    | cons i l ih => intro τ h; exact ih _ (Inv.makes _ _ _ _ h)
  exact key _ _ I0

theorem Inv.new (n : Nat) (room : Int) (strict : Bool) : Inv 0 (newS n room strict) := by
  refine ⟨fun i s hs => ?_, (fun p X h => by cases h), (fun e he => by simp [newS] at he), by simp [newS], by simp [newS], (fun p X h => by cases h), Int.le_refl _, Int.le_refl _, fun i s hs => ?_, (fun p X h => by cases h)⟩
  · have : s = emptySh := by
      simp only [newS, List.getElem?_replicate] at hs
      split at hs
      · cases hs; rfl
      · cases hs
    subst this
    exact ⟨by simp [emptySh], by simp [emptySh], by simp [emptySh], by simp [emptySh], by simp [emptySh], by simp [emptySh]⟩
  · have : s = emptySh := by
      simp only [newS, List.getElem?_replicate] at hs
      split at hs
      · cases hs; rfl
      · cases hs
    subst this; simp [emptySh]

end Go.V.Yteojmnnobmpdiaa
