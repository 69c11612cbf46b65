/- This text proves a part of the laws of seat Yteojmnnobmpdiaa, under no condition: X22r X22s X22t X22u. -/
import Derived.Test.YteojmnnobmpdiaaSK
import Derived.Test.YteojmnnobmpdiaaSD
set_option linter.unusedVariables false
set_option linter.unusedSimpArgs false
/-! Handles with whatever they hold; counts in a map. -/
namespace Go.V.Snap
open Go Go.V

/-- Of all handles that ever were: those that hold, with what they hold. -/
def aliveP {α : Type} : Nat → List (α × Bool) → List (Int × α)
  | _, [] => []
  | k, (s, true) :: l => ((k : Int) + 1, s) :: aliveP (k + 1) l
  | k, (_, false) :: l => aliveP (k + 1) l

theorem aliveP_mem {α : Type} : ∀ {σ : List (α × Bool)} {k : Nat} {x : Int} {s : α}, (x, s) ∈ aliveP k σ ↔ ∃ i : Nat, x = (k : Int) + i + 1 ∧ σ[i]? = some (s, true)
  | [], k, x, s => by simp [aliveP]
  | (t, true) :: σ, k, x, s => by
    simp only [aliveP, List.mem_cons, Prod.mk.injEq, aliveP_mem (σ := σ)]
    constructor
    · rintro (⟨rfl, rfl⟩ | ⟨i, rfl, h⟩)
      · exact ⟨0, by simp, rfl⟩
      · exact ⟨i + 1, by push_cast; omega, by simpa using h⟩
    · rintro ⟨i, rfl, h⟩
      cases i with
      | zero => simp at h; exact .inl ⟨by simp, h.symm⟩
      | succ i => exact .inr ⟨i, by push_cast; omega, by simpa using h⟩
  | (t, false) :: σ, k, x, s => by
    simp only [aliveP, aliveP_mem (σ := σ)]
    constructor
    · rintro ⟨i, rfl, h⟩; exact ⟨i + 1, by push_cast; omega, by simpa using h⟩
    · rintro ⟨i, rfl, h⟩
      cases i with
      | zero => simp at h
      | succ i => exact ⟨i, by push_cast; omega, by simpa using h⟩

theorem aliveP_snoc {α : Type} (q : α) : ∀ (σ : List (α × Bool)) (k : Nat), aliveP k (σ ++ [(q, true)]) = aliveP k σ ++ [((k : Int) + σ.length + 1, q)]
  | [], k => by simp [aliveP]
  | (t, true) :: σ, k => by simp only [List.cons_append, aliveP, aliveP_snoc q σ]; simp; omega
  | (t, false) :: σ, k => by simp only [List.cons_append, aliveP, aliveP_snoc q σ]; simp; omega

theorem aliveP_del {α : Type} : ∀ {σ : List (α × Bool)} {k i : Nat} {s : α}, σ[i]? = some (s, true) → aliveP k (σ.set i (s, false)) = adel (.int .i64) ((k : Int) + i + 1 : Int) (aliveP k σ)
  | [], k, i, s, h => by simp at h
  | (t, b) :: σ, k, 0, s, h => by
    simp at h
    obtain ⟨rfl, rfl⟩ := h
    simp [aliveP, adel, keq]
  | (t, b) :: σ, k, i + 1, s, h => by
    have ih := aliveP_del (σ := σ) (k := k + 1) (i := i) (s := s) (by simpa using h)
    have e : (((k + 1 : Nat) : Int) + i + 1) = (k : Int) + ((i + 1 : Nat) : Int) + 1 := by push_cast; omega
    rw [e] at ih
    cases b with
    | true =>
      have hne' : ¬ ((k : Int) + ((i + 1 : Nat) : Int) + 1 = (k : Int) + 1) := by push_cast; omega
      have hk : ∀ a b : Int, keq (.int .i64) a b = (a == b) := fun _ _ => rfl
      simp only [List.set_cons_succ, aliveP, adel, ih, hk]
      simp only [beq_iff_eq, hne', if_false]
    | false => simp only [List.set_cons_succ, aliveP, ih]

/-- What a handle holds. -/
def hgot {α : Type} (σ : List (α × Bool)) (x : Int) : Option α := if 1 ≤ x then (match σ[(x - 1).toNat]? with | some (s, true) => some s | _ => none) else none

theorem hgot_mem {α : Type} {σ : List (α × Bool)} {x : Int} {s : α} : (x, s) ∈ aliveP 0 σ ↔ hgot σ x = some s := by
  rw [aliveP_mem]
  unfold hgot
  constructor
  · rintro ⟨i, rfl, h⟩
    rw [if_pos (by push_cast; omega), show (((0 : Nat) : Int) + (i : Int) + 1 - 1).toNat = i by omega, h]
  · intro h
    split at h
    · rename_i hx
      split at h
      · rename_i s' hs; cases h; exact ⟨(x - 1).toNat, by omega, hs⟩
      · cases h
    · cases h

theorem hgot_not {α : Type} {σ : List (α × Bool)} {x : Int} (h : hgot σ x = none) : ∀ y ∈ aliveP 0 σ, y.1 ≠ x := by
  rintro ⟨a, s⟩ hy rfl
  rw [hgot_mem.1 hy] at h; cases h

theorem hgot_some {α : Type} {σ : List (α × Bool)} {x : Int} {s : α} (hx : hgot σ x = some s) : 1 ≤ x ∧ (x - 1).toNat < σ.length ∧ σ[(x - 1).toNat]? = some (s, true) := by
  unfold hgot at hx
  split at hx
  · rename_i h1
    split at hx
    · rename_i s' hs
      cases hx
      refine ⟨h1, ?_, hs⟩
      rcases Nat.lt_or_ge (x - 1).toNat σ.length with h | h
      · exact h
      · rw [List.getElem?_eq_none h] at hs; cases hs
    · cases hx
  · cases hx

/-! ### Counts in a map -/

theorem aput_mem {β : Type} {kt : LT} (hk : KeyLT kt) {k : kt.den} {v : β} : ∀ {l : List (kt.den × β)}, (l.map (·.1)).Nodup → ∀ x, x ∈ aput kt k v l ↔ x = (k, v) ∨ (x.1 ≠ k ∧ x ∈ l)
  | [], _, x => by simp [aput]
  | y :: l, hn, x => by
    simp only [List.map_cons, List.nodup_cons] at hn
    unfold aput
    by_cases e : keq kt k y.1 = true
    · have e' := (keq_iff hk _ _).1 e
      rw [if_pos e]
      simp only [List.mem_cons]
      constructor
      · rintro (h | h)
        · exact .inl h
        · refine .inr ⟨fun hx => hn.1 ?_, .inr h⟩
          rw [← e', ← hx]; exact List.mem_map.2 ⟨x, h, rfl⟩
      · rintro (h | ⟨h1, h2 | h2⟩)
        · exact .inl h
        · rw [h2] at h1; exact absurd e'.symm h1
        · exact .inr h2
    · have e' : ¬ k = y.1 := fun h => e ((keq_iff hk _ _).2 h)
      rw [if_neg e]
      simp only [List.mem_cons, aput_mem hk hn.2]
      constructor
      · rintro (h | h | h)
        · exact .inr ⟨by rw [h]; exact fun h' => e' h'.symm, .inl h⟩
        · exact .inl h
        · exact .inr ⟨h.1, .inr h.2⟩
      · rintro (h | ⟨h1, h2 | h2⟩)
        · exact .inr (.inl h)
        · exact .inl h2
        · exact .inr (.inr ⟨h1, h2⟩)

theorem adel_mem {β : Type} {kt : LT} (hk : KeyLT kt) {k : kt.den} : ∀ {l : List (kt.den × β)}, (l.map (·.1)).Nodup → ∀ x, x ∈ adel kt k l ↔ x.1 ≠ k ∧ x ∈ l
  | [], _, x => by simp [adel]
  | y :: l, hn, x => by
    simp only [List.map_cons, List.nodup_cons] at hn
    unfold adel
    by_cases e : keq kt k y.1 = true
    · have e' := (keq_iff hk _ _).1 e
      rw [if_pos e]
      simp only [List.mem_cons]
      constructor
      · intro h
        exact ⟨fun hx => hn.1 (by rw [← e', ← hx]; exact List.mem_map.2 ⟨x, h, rfl⟩), .inr h⟩
      · rintro ⟨h1, h2 | h2⟩
        · rw [h2] at h1; exact absurd e'.symm h1
        · exact h2
    · have e' : ¬ k = y.1 := fun h => e ((keq_iff hk _ _).2 h)
      rw [if_neg e]
      simp only [List.mem_cons, adel_mem hk hn.2]
      constructor
      · rintro (h | h)
        · exact ⟨by rw [h]; exact fun h' => e' h'.symm, .inl h⟩
        · exact ⟨h.1, .inr h.2⟩
      · rintro ⟨h1, h2 | h2⟩
        · exact .inl h2
        · exact .inr ⟨h1, h2⟩

def cF (n : Nat) : List Lf := [.int .i64 (n : Int)]
def upd {β : Type} (g : Int → β) (f : Int) (x : β) : Int → β := fun y => if y = f then x else g y

/-- A map of counts: which keys are there, and what each counts. -/
structure TM (h : Heap) (m : Nat) (g : Int → Nat) (e : Int → Bool) : Prop where
  rep : ∃ l : List (Int × Nat), MapR h m (.int .u64) (.one (.int .i64)) cF l ∧ ∀ f c, (f, c) ∈ l ↔ c = g f ∧ e f = true
  out : ∀ f, e f = false → g f = 0

theorem tlt : KeyLT (.int .u64) := trivial

theorem TM.ext {S : Nat → Prop} {h h' : Heap} {m : Nat} {g : Int → Nat} {e : Int → Bool} (T : TM h m g e) (x : Ext S h h') (hs : ¬ S m := by exact id) : TM h' m g e :=
  ⟨let ⟨l, M, h⟩ := T.rep; ⟨l, M.ext x hs, h⟩, T.out⟩
theorem TM.lt {h : Heap} {m : Nat} {g : Int → Nat} {e : Int → Bool} (T : TM h m g e) : m < h.size := let ⟨_, M, _⟩ := T.rep; M.lt
theorem TM.new {h : Heap} {m : Nat} (hm : h[m]? = some (.map #[] 0)) : TM h m (fun _ => 0) fun _ => false := ⟨⟨[], MapR.new hm, by simp⟩, fun _ _ => rfl⟩

theorem TM.look {h : Heap} {m : Nat} {g : Int → Nat} {e : Int → Bool} (T : TM h m g e) (f : Int) : LookR h (.int .u64) (.one (.int .i64)) [.int .i64 0] (some m) f [.int .i64 (g f : Int)] (e f) := by
  obtain ⟨l, M, hl⟩ := T.rep
  cases he : e f with
  | true => exact M.hit tlt ((hl f (g f)).2 ⟨rfl, he⟩) trivial _ rfl
  | false =>
    rw [T.out f he]
    exact M.miss tlt (fun x hx hh => by
      obtain ⟨a, c⟩ := x
      have hh : a = f := hh
      subst hh
      have := ((hl a c).1 hx).2
      rw [he] at this; cases this) trivial _

theorem TM.put {h : Heap} {m : Nat} {g : Int → Nat} {e : Int → Bool} (T : TM h m g e) (f : Int) (n : Nat) {x : Int} (hx : x = n) {K : Heap → Prop}
    (c : ∀ h', h'.size = h.size → TM h' m (upd g f n) (upd e f true) → Ext (fun i => i = m) h h' → K h') : UpdC (.int .u64) (.one (.int .i64)) h (some m) f [.int .i64 x] K := by
  obtain ⟨l, M, hl⟩ := T.rep
  subst hx
  refine M.put tlt (v := n) trivial rfl fun h' hs M' e' => c h' hs ⟨⟨_, M', fun f' c' => ?_⟩, fun f' he => ?_⟩ e'
  · rw [aput_mem tlt M.nodup]
    unfold upd
    by_cases hf : f' = f
    · subst hf; simp
    · simp only [Prod.mk.injEq, hf, false_and, false_or, ne_eq, not_false_eq_true, true_and, if_false]
      exact hl f' c'
  · unfold upd at he ⊢
    split at he
    · cases he
    · rename_i hf; rw [if_neg hf]; exact T.out f' he

theorem TM.del {h : Heap} {m : Nat} {g : Int → Nat} {e : Int → Bool} (T : TM h m g e) (f : Int) {K : Heap → Prop}
    (c : ∀ h', h'.size = h.size → TM h' m (upd g f 0) (upd e f false) → Ext (fun i => i = m) h h' → K h') : DelC (.int .u64) (.one (.int .i64)) h (some m) f K := by
  obtain ⟨l, M, hl⟩ := T.rep
  refine M.del trivial fun h' hs M' e' => c h' hs ⟨⟨_, M', fun f' c' => ?_⟩, fun f' he => ?_⟩ e'
  · rw [adel_mem tlt M.nodup]
    unfold upd
    by_cases hf : f' = f
    · subst hf; simp
    · simp only [hf, ne_eq, not_false_eq_true, true_and, if_false]
      exact hl f' c'
  · unfold upd at he ⊢
    split
    · rfl
    · rename_i hf; rw [if_neg hf] at he; exact T.out f' he

end Go.V.Snap
set_option linter.unusedVariables false
set_option linter.unusedSimpArgs false
/-! The program's files that are needed. -/
namespace Go.V.Yteojmnnobmpdiaa
open Go Go.V Go.V.Snap

/-- What is mentioned by those that hold. -/
def ment (c : List (List Int × Bool)) : List Int := (c.filter (·.2)).flatMap (·.1)
def cnt (c : List (List Int × Bool)) (f : Int) : Nat := (ment c).count f
def texts (ρ : List ((Slc × List Int) × Bool)) : List (List Int × Bool) := ρ.map fun x => (x.1.2, x.2)
def rF (x : Slc × List Int) : List Lf := [.slc x.1]
def has (g : Int → Nat) (f : Int) : Bool := decide (0 < g f)

/-- The program's files in memory. -/
structure RF (h : Heap) (p m1 m2 : Nat) (ρ : List ((Slc × List Int) × Bool)) : Prop where
  blk : Blk h p 152 [.map (some m1), .map (some m2), .int .i64 ρ.length]
  by_ : MapR h m1 (.int .i64) (.one .slc) rF (aliveP 0 ρ)
  arr : ∀ x ∈ ρ, Arr 1 uF h x.1.1 x.1.2 ∧ ∀ b off, x.1.1.a = some (b, off) → b ≠ p ∧ b ≠ m1 ∧ b ≠ m2 ∧ b < h.size
  times : TM h m2 (cnt (texts ρ)) (has (cnt (texts ρ)))
  mm : m1 ≠ m2
  sz : ρ.length ≤ 4398046511104
  few : (ment (texts ρ)).length ≤ 1073741824

/-- Its blocks. -/
def RB (p m1 m2 : Nat) (ρ : List ((Slc × List Int) × Bool)) (b : Nat) : Prop := b = p ∨ b = m1 ∨ b = m2 ∨ ∃ x ∈ ρ, inS x.1.1 b

theorem RF.ext {S : Nat → Prop} {h h' : Heap} {p m1 m2 : Nat} {ρ : List ((Slc × List Int) × Bool)} (L : RF h p m1 m2 ρ) (e : Ext S h h') (hs : ∀ b, RB p m1 m2 ρ b → ¬ S b) : RF h' p m1 m2 ρ :=
  ⟨L.blk.ext e (hs p (.inl rfl)), L.by_.ext e (hs m1 (.inr (.inl rfl))), fun x hx => ⟨(L.arr x hx).1.ext e fun ⟨b, off, h1, h2⟩ => hs b (.inr (.inr (.inr ⟨x, hx, off, h1⟩))) h2, fun b off hb => by
    obtain ⟨h1, h2, h3, h4⟩ := (L.arr x hx).2 b off hb
    exact ⟨h1, h2, h3, Nat.lt_of_lt_of_le h4 e.size⟩⟩, L.times.ext e (hs m2 (.inr (.inr (.inl rfl)))), L.mm, L.sz, L.few⟩
theorem RF.ext0 {h h' : Heap} {p m1 m2 : Nat} {ρ : List ((Slc × List Int) × Bool)} (L : RF h p m1 m2 ρ) (e : Ext0 h h') : RF h' p m1 m2 ρ := L.ext e fun _ _ x => x
theorem RF.ne {h : Heap} {p m1 m2 : Nat} {ρ : List ((Slc × List Int) × Bool)} (L : RF h p m1 m2 ρ) : p ≠ m1 ∧ p ≠ m2 := by
  have hb := L.blk
  unfold Blk at hb
  constructor
  · intro e
    obtain ⟨es, c, hm, _⟩ := L.by_.rep
    rw [e, hm] at hb; cases hb
  · intro e
    obtain ⟨l, M, _⟩ := L.times.rep
    obtain ⟨es, c, hm, _⟩ := M.rep
    rw [e, hm] at hb; cases hb

theorem c35 {h : Heap} {R : Option (Nat × Nat) → Heap → Prop} (k : ∀ p m1 m2 h', h.size ≤ p → h.size ≤ m1 → h.size ≤ m2 → RF h' p m1 m2 [] → Ext0 h h' → R (some (p, 0)) h') : Call Go.Proofs.Try.prog 35 [] h [.one .ptr] R := by
  refine ok35 (NewM.mk fun b0 h1 hb0 hs1 e1 k1 => NewM.mk fun b2 h3 hb2 hs3 e3 k3 => New.mk fun b4 h5 hb4 hs5 e5 k5 => k b4 b0 b2 h5 (by omega) (by omega) (by omega) ⟨k5, ((MapR.new k1).ext e3).ext e5, by simp, (TM.new k3).ext e5, by omega, by simp, by simp [texts, ment]⟩ ((e1.trans e3).trans e5))

theorem klt' : KeyLT (.int .i64) := trivial

theorem c92 {h : Heap} {s : Slc} {l : List Int} (a : Arr 1 uF h s l) (hl : l.length ≤ 4398046511104) {R : Slc → Heap → Prop} (k : ∀ s' h', Own 1 uF h' s' l → Fresh h h' s' → R s' h') : Call Go.Proofs.Try.prog 92 [.lf (.slc s)] h [.one .slc] R := by
  refine ok92 (Br.mk (fun c => ?_) fun c => ?_)
  · have hn : s.a = none := by simpa using c
    have : l = [] := Classical.byContradiction fun hne => by
      obtain ⟨b, off, hb⟩ := a.ne hne
      rw [hn] at hb; cases hb
    subst this
    exact k _ h (Own.nil _ _ _) (Fresh.nil _)
  · refine New.mk fun b0 h1 hb0 hs1 e1 k1 => ?_
    have o1 : Own 1 uF h1 ⟨some (b0, 0), 0, 0⟩ ([] : List Int) := Own.new (l := ([] : List Int)) (sz := 1) (f := uF) uF_sized (by simpa using k1)
    refine AppC.grow uF_sized (by omega) rfl o1 (a.ext0 e1) (by simp; omega) fun s2 h3 o3 g3 => k s2 h3 (by simpa using o3) ?_
    have f1 : Fresh h h1 ⟨some (b0, 0), 0, 0⟩ := ⟨e1, fun b off e => by cases e; omega⟩
    exact f1.grow g3

theorem cnt_le (c : List (List Int × Bool)) (f : Int) : cnt c f ≤ (ment c).length := List.count_le_length

theorem c43 {h : Heap} {p m1 m2 : Nat} {ρ : List ((Slc × List Int) × Bool)} (L : RF h p m1 m2 ρ) {f : Int} {R : Int → Heap → Prop} (k : R (cnt (texts ρ) f : Int) h) : Call Go.Proofs.Try.prog 43 [.lf (.ptr (some (p, 0))), .lf (.int .u64 f)] h [.one (.int .i64)] R :=
  ok43 (NilC.mk rfl ⟨some m2, L.blk.cell rfl, _, _, L.times.look f, k⟩)

theorem sortI_SS {l : List Int} (hn : l.Nodup) : SS (sortI l) := by
  have h1 := List.pairwise_mergeSort (le := fun x y : Int => decide (x ≤ y)) (by simp; omega) (by simp; omega) l
  have h2 : (sortI l).Nodup := (List.mergeSort_perm l _).nodup_iff.2 hn
  refine (List.Pairwise.and h1 h2).imp ?_
  intro a b hab
  simp at hab
  omega
theorem sortI_mem {l : List Int} {x : Int} : x ∈ sortI l ↔ x ∈ l := (List.mergeSort_perm l _).mem_iff

theorem c41 {h : Heap} {p m1 m2 : Nat} {ρ : List ((Slc × List Int) × Bool)} (L : RF h p m1 m2 ρ) {R : Slc → Heap → Prop}
    (k : ∀ s' h' N, Own 1 uF h' s' N → SS N → (∀ f, f ∈ N ↔ 0 < cnt (texts ρ) f) → N.length ≤ 1073741824 → Fresh h h' s' → R s' h') : Call Go.Proofs.Try.prog 41 [.lf (.ptr (some (p, 0)))] h [.one .slc] R := by
  obtain ⟨l, M, hl⟩ := L.times.rep
  have hk : ∀ f, f ∈ l.map (·.1) ↔ 0 < cnt (texts ρ) f := by
    intro f
    simp only [List.mem_map]
    constructor
    · rintro ⟨⟨a, c⟩, hm, rfl⟩
      have := ((hl a c).1 hm).2
      simpa [has] using this
    · intro hc
      exact ⟨(f, cnt (texts ρ) f), (hl _ _).2 ⟨rfl, by simpa [has] using hc⟩, rfl⟩
  have hsub : (l.map (·.1)).length ≤ (ment (texts ρ)).length := by
    refine List.Nodup.length_le_of_subset M.nodup fun f hf => ?_
    have := (hk f).1 hf
    exact List.count_pos_iff.1 this
  have hfew := L.few
  refine ok41 (NilC.mk rfl ⟨some m2, L.blk.cell rfl, ok96 (New.mk fun b0 h1 hb0 hs1 e1 k1 => ?_)⟩)
  refine c95 (seq129 (fun v => ⟨_, rfl⟩) k1 (M.ext e1)) (by omega) fun s5 h6 o6 f6 => k s5 h6 _ o6 (sortI_SS M.nodup) (fun f => by rw [sortI_mem]; exact hk f) (by unfold sortI; rw [List.length_mergeSort]; omega) ⟨e1.trans f6.ext, fun b off hb => ?_⟩
  have := f6.new _ _ hb
  omega

end Go.V.Yteojmnnobmpdiaa
set_option linter.unusedVariables false
set_option linter.unusedSimpArgs false
/-! The program's Add, of files. -/
namespace Go.V.Yteojmnnobmpdiaa
open Go Go.V Go.V.Snap

theorem count_take {L : List Int} {q : Nat} (hq : q < L.length) (f : Int) : (L.take (q + 1)).count f = (L.take q).count f + if L[q] = f then 1 else 0 := by
  rw [List.take_add_one, show L[q]? = some L[q] by simp [hq], List.count_append]
  congr 1
  simp [List.count_cons, beq_iff_eq]

theorem texts_snoc (ρ : List ((Slc × List Int) × Bool)) (s : Slc) (L : List Int) : texts (ρ ++ [((s, L), true)]) = texts ρ ++ [(L, true)] := by simp [texts]
theorem ment_snoc (c : List (List Int × Bool)) (L : List Int) : ment (c ++ [(L, true)]) = ment c ++ L := by simp [ment]
theorem cnt_snoc (c : List (List Int × Bool)) (L : List Int) (f : Int) : cnt (c ++ [(L, true)]) f = cnt c f + L.count f := by unfold cnt; rw [ment_snoc, List.count_append]

theorem c36 {h : Heap} {p m1 m2 : Nat} {ρ : List ((Slc × List Int) × Bool)} (D : RF h p m1 m2 ρ) (hl : ρ.length < 4398046511104) {s : Slc} {L : List Int} (a : Arr 1 uF h s L) (hs : ∀ b off, s.a = some (b, off) → b ≠ p ∧ b ≠ m1 ∧ b ≠ m2)
    (hf : (ment (texts ρ)).length + L.length ≤ 1073741824) {R : Int → Heap → Prop}
    (k : ∀ s' h', RF h' p m1 m2 (ρ ++ [((s', L), true)]) → Ext (fun b => b = p ∨ b = m1 ∨ b = m2) h h' → (∀ b off, s'.a = some (b, off) → h.size ≤ b) → R ((ρ.length : Int) + 1) h') :
    Call Go.Proofs.Try.prog 36 [.lf (.ptr (some (p, 0))), .lf (.slc s)] h [.one (.int .i64)] R := by
  have hp := D.blk.lt
  have hm1 := D.by_.lt
  have hm2 := D.times.lt
  have hne := D.ne
  have hLl : L.length ≤ 4398046511104 := by omega
  refine ok36 (NilC.mk rfl ⟨_, D.blk.cell rfl, NilC.mk rfl ?_⟩)
  rw [wi64 (by omega) (by omega)]
  refine StC.one D.blk (x := .int .i64 ((ρ.length : Int) + 1)) (by simp) fun h5 hs5 k5 e5 => ?_
  refine NilC.mk rfl ⟨some m1, k5.cell rfl, NilC.mk rfl ⟨(ρ.length : Int) + 1, k5.cell rfl, ?_⟩⟩
  have a5 : Arr 1 uF h5 s L := a.ext e5 fun ⟨b, off, h1, h2⟩ => (hs b off h1).1 h2
  refine c92 a5 hLl fun s12 h13 o13 f13 => ?_
  have k13 := k5.ext f13.ext
  refine ⟨k13.cell rfl, k13.cell rfl, ?_⟩
  have M13 : MapR h13 m1 (.int .i64) (.one .slc) rF (aliveP 0 ρ) := (D.by_.ext e5 fun x => hne.1 x.symm).ext f13.ext
  have hno : ∀ y ∈ aliveP 0 ρ, y.1 ≠ (ρ.length : Int) + 1 := by
    rintro ⟨w, t⟩ hy hw
    obtain ⟨i, hi, hs⟩ := aliveP_mem.1 hy
    have hi2 : i < ρ.length := by
      rcases Nat.lt_or_ge i ρ.length with h | h
      · exact h
      · rw [List.getElem?_eq_none h] at hs; cases hs
    have h2 : ((0 : Nat) : Int) + (i : Int) + 1 = (ρ.length : Int) + 1 := hi.symm.trans hw
    omega
  refine M13.put klt' (v := (s12, L)) trivial rfl fun h14 hs14 M14 e14 => ?_
  rw [aput_new klt' hno] at M14
  have hs13 := f13.ext.size
  have e14' : Ext (fun b => b = p ∨ b = m1 ∨ b = m2) h h14 := ((e5.mono fun i x => .inl x).then0 f13.ext).trans (e14.mono fun i x => .inr (.inl x))
  have n12 : ∀ b off, s12.a = some (b, off) → h.size ≤ b := fun b off hb => by have := f13.new _ _ hb; omega
  have k14 := k13.ext e14 hne.1
  have T14 : TM h14 m2 (cnt (texts ρ)) (has (cnt (texts ρ))) := ((D.times.ext e5 fun x => hne.2 x.symm).ext f13.ext).ext e14 fun x => D.mm x.symm
  have hcl : ∀ f, cnt (texts ρ) f ≤ (ment (texts ρ)).length := cnt_le _
  refine ⟨fun i hh n => ∃ q : Nat, i = q ∧ q ≤ L.length ∧ TM hh m2 (fun f => cnt (texts ρ) f + (L.take q).count f) (has fun f => cnt (texts ρ) f + (L.take q).count f) ∧ Ext (fun b => b = m2) h14 hh ∧ n = L.length - q,
    ⟨_, 0, rfl, by omega, by simpa using T14, Ext.refl _ _, rfl⟩, ?_⟩
  rintro _ h18 _ ⟨q, rfl, hq, T, e18, rfl⟩
  have hlen : s.len = L.length := a.len
  rw [hlen]
  have k18 := k14.ext e18 hne.2
  refine Br.dec (fun hlt => ?_) fun hge => ?_
  · have hql : q < L.length := by omega
    have a18 : Arr 1 uF h18 s L := (((a5.ext0 f13.ext).ext e14 fun ⟨b, off, h1, h2⟩ => (hs b off h1).2.1 h2).ext e18 fun ⟨b, off, h1, h2⟩ => (hs b off h1).2.2 h2)
    refine a18.ix rfl (getE hql) fun b off hb => ⟨_, hb, NilC.mk rfl ⟨some m2, k18.cell rfl, _, _, T.look L[q], ?_⟩⟩
    have hc1 := hcl L[q]
    have hc2 : (L.take q).count L[q] ≤ L.length := Nat.le_trans List.count_le_length (by simp; omega)
    refine T.put L[q] (cnt (texts ρ) L[q] + (L.take q).count L[q] + 1) (by rw [wi64 (by omega) (by omega)]; push_cast; omega) fun h28 hs28 T28 e28 => ?_
    refine ⟨L.length - (q + 1), by omega, q + 1, by rw [wi64 (by omega) (by omega)]; omega, by omega, ?_, e18.trans e28, rfl⟩
    have g1 : (upd (fun f => cnt (texts ρ) f + (L.take q).count f) L[q] (cnt (texts ρ) L[q] + (L.take q).count L[q] + 1)) = fun f => cnt (texts ρ) f + (L.take (q + 1)).count f := by
      funext f
      unfold upd
      rw [count_take hql]
      by_cases e : f = L[q]
      · rw [if_pos e, if_pos e.symm, e]; omega
      · rw [if_neg e, if_neg fun x => e x.symm]; rfl
    have g2 : upd (has fun f => cnt (texts ρ) f + (L.take q).count f) L[q] true = has fun f => cnt (texts ρ) f + (L.take (q + 1)).count f := by
      rw [← g1]
      funext f
      unfold upd has
      by_cases e : f = L[q]
      · simp [e]
      · simp [e]
    rw [g1, g2] at T28
    exact T28
  · have hqe : q = L.length := by omega
    subst hqe
    rw [List.take_length] at T
    refine NilC.mk rfl ⟨(ρ.length : Int) + 1, k18.cell rfl, k s12 h18 ⟨?_, ?_, ?_, ?_, D.mm, by simp; omega, ?_⟩ (e14'.trans (e18.mono fun i x => .inr (.inr x))) n12⟩
    · simpa using k18
    · rw [aliveP_snoc]
      have := M14.ext e18 D.mm
      simpa using this
    · intro x hx
      rcases List.mem_append.1 hx with hx | hx
      · obtain ⟨h1, h2⟩ := D.arr x hx
        refine ⟨(((h1.ext e5 fun ⟨b, off, g1, g2⟩ => (h2 b off g1).1 g2).ext0 f13.ext).ext e14 fun ⟨b, off, g1, g2⟩ => (h2 b off g1).2.1 g2).ext e18 fun ⟨b, off, g1, g2⟩ => (h2 b off g1).2.2.1 g2, fun b off hb => ?_⟩
        obtain ⟨g1, g2, g3, g4⟩ := h2 b off hb
        have := e14'.size; have := e18.size
        exact ⟨g1, g2, g3, by omega⟩
      · simp at hx
        subst hx
        have nn : ∀ b off, s12.a = some (b, off) → b ≠ p ∧ b ≠ m1 ∧ b ≠ m2 := fun b off hb => by have := n12 b off hb; exact ⟨by omega, by omega, by omega⟩
        refine ⟨((o13.ext e14 fun ⟨b, off, g1, g2⟩ => (nn b off g1).2.1 g2).ext e18 fun ⟨b, off, g1, g2⟩ => (nn b off g1).2.2 g2).arr uF_sized, fun b off hb => ?_⟩
        obtain ⟨g1, g2, g3⟩ := nn b off hb
        have := (o13.lt _ _ hb).1
        have := e14.size; have := e18.size
        exact ⟨g1, g2, g3, by omega⟩
    · rw [texts_snoc]
      have : cnt (texts ρ ++ [(L, true)]) = fun f => cnt (texts ρ) f + L.count f := funext fun f => cnt_snoc _ _ f
      rw [this]; exact T
    · rw [texts_snoc, ment_snoc, List.length_append]; exact hf

end Go.V.Yteojmnnobmpdiaa
set_option linter.unusedVariables false
set_option linter.unusedSimpArgs false
/-! The program's Drop. -/
namespace Go.V.Yteojmnnobmpdiaa
open Go Go.V Go.V.Snap

/-- All handles, one of them let go. -/
def letGo (ρ : List ((Slc × List Int) × Bool)) (x : Int) : List ((Slc × List Int) × Bool) := match hgot ρ x with
  | some y => ρ.set (x - 1).toNat (y, false)
  | none => ρ

theorem ment_set : ∀ {c : List (List Int × Bool)} {i : Nat} {L : List Int}, c[i]? = some (L, true) → (ment c).Perm (L ++ ment (c.set i (L, false)))
  | [], i, L, h => by simp at h
  | (l, b) :: c, 0, L, h => by
    simp at h
    obtain ⟨rfl, rfl⟩ := h
    simp [ment]
  | (l, b) :: c, i + 1, L, h => by
    have ih := ment_set (c := c) (i := i) (L := L) (by simpa using h)
    cases b with
    | true =>
      have e1 : ment ((l, true) :: c) = l ++ ment c := by simp [ment]
      have e2 : ment (((l, true) :: c).set (i + 1) (L, false)) = l ++ ment (c.set i (L, false)) := by simp [ment]
      rw [e1, e2]
      refine (List.Perm.append_left l ih).trans ?_
      rw [← List.append_assoc, ← List.append_assoc]
      exact List.Perm.append_right _ List.perm_append_comm
    | false =>
      have e1 : ment ((l, false) :: c) = ment c := by simp [ment]
      have e2 : ment (((l, false) :: c).set (i + 1) (L, false)) = ment (c.set i (L, false)) := by simp [ment]
      rw [e1, e2]; exact ih

theorem texts_set (ρ : List ((Slc × List Int) × Bool)) (i : Nat) (y : Slc × List Int) (b : Bool) : texts (ρ.set i (y, b)) = (texts ρ).set i (y.2, b) := by simp [texts, List.map_set]
theorem texts_get {ρ : List ((Slc × List Int) × Bool)} {i : Nat} {y : Slc × List Int} {b : Bool} (h : ρ[i]? = some (y, b)) : (texts ρ)[i]? = some (y.2, b) := by simp [texts, h]

theorem count_drop {L : List Int} {q : Nat} (hq : q < L.length) (f : Int) : (L.drop q).count f = (L.drop (q + 1)).count f + if L[q] = f then 1 else 0 := by
  rw [List.drop_eq_getElem_cons hq, List.count_cons]
  simp [beq_iff_eq]

theorem c38 {h : Heap} {p m1 m2 : Nat} {ρ : List ((Slc × List Int) × Bool)} (D : RF h p m1 m2 ρ) {x : Int} {R : Slc → Int → Heap → Prop}
    (k0 : hgot ρ x = none → R ⟨none, 0, 0⟩ 220 h)
    (k : ∀ s L s' h' G, hgot ρ x = some (s, L) → RF h' p m1 m2 (letGo ρ x) → Ext (fun b => b = m1 ∨ b = m2) h h' → Own 1 uF h' s' G → SS G → (∀ f, f ∈ G ↔ f ∈ L ∧ cnt (texts (letGo ρ x)) f = 0) → G.length ≤ 1073741824 →
      (∀ b off, s'.a = some (b, off) → h.size ≤ b) → R s' 0 h') :
    Call Go.Proofs.Try.prog 38 [.lf (.ptr (some (p, 0))), .lf (.int .i64 x)] h [.one .slc, .one (.int .i64)] R := by
  have hp := D.blk.lt
  have hm1 := D.by_.lt
  have hm2 := D.times.lt
  have hne := D.ne
  refine ok38 (NilC.mk rfl ⟨some m1, D.blk.cell rfl, ?_⟩)
  cases hx : hgot ρ x with
  | none => exact ⟨⟨none, 0, 0⟩, false, D.by_.miss klt' (hgot_not hx) trivial _, Br.t rfl (k0 hx)⟩
  | some y =>
    obtain ⟨s, L⟩ := y
    have hmem := hgot_mem.2 hx
    obtain ⟨hx1, hx2, hx3⟩ := hgot_some hx
    have hlg : letGo ρ x = ρ.set (x - 1).toNat ((s, L), false) := by unfold letGo; rw [hx]
    have hxm := List.mem_of_getElem? hx3
    obtain ⟨a0, hs0⟩ := D.arr _ hxm
    have a0 : Arr 1 uF h s L := a0
    have hperm := ment_set (texts_get hx3)
    rw [← texts_set ρ _ (s, L) false, ← hlg] at hperm
    have hcnt : ∀ f, cnt (texts ρ) f = cnt (texts (letGo ρ x)) f + L.count f := by
      intro f
      unfold cnt
      rw [hperm.count_eq, List.count_append]
      exact Nat.add_comm _ _
    have hfew := D.few
    have hplen := hperm.length_eq
    rw [List.length_append] at hplen
    have hplen : (ment (texts ρ)).length = L.length + (ment (texts (letGo ρ x))).length := hplen
    generalize hg' : cnt (texts (letGo ρ x)) = g' at hcnt
    have hgl : ∀ f, g' f ≤ (ment (texts (letGo ρ x))).length := by rw [← hg']; exact cnt_le _
    refine ⟨s, true, D.by_.hit klt' hmem trivial _ rfl, Br.f rfl (NilC.mk rfl ⟨some m1, D.blk.cell rfl, D.by_.del trivial fun h8 hs8 M8 e8 => ?_⟩)⟩
    have k8 := D.blk.ext e8 hne.1
    have T8 : TM h8 m2 (fun f => g' f + (L.drop 0).count f) (has fun f => g' f + (L.drop 0).count f) := by
      have := D.times.ext e8 fun x => D.mm x.symm
      have e : cnt (texts ρ) = fun f => g' f + (L.drop 0).count f := funext fun f => by rw [hcnt, List.drop_zero]
      rw [e] at this; exact this
    refine ⟨fun t i hh n => ∃ (q : Nat) (G : List Int), i = q ∧ q ≤ L.length ∧ TM hh m2 (fun f => g' f + (L.drop q).count f) (has fun f => g' f + (L.drop q).count f) ∧ Ext (fun b => b = m2) h8 hh ∧ Own 1 uF hh t G ∧ G.Nodup ∧ G.length ≤ q ∧
        (∀ f, f ∈ G ↔ f ∈ L.take q ∧ g' f + (L.drop q).count f = 0) ∧ (∀ b off, t.a = some (b, off) → h8.size ≤ b) ∧ n = L.length - q,
      ⟨_, 0, [], rfl, by omega, T8, Ext.refl _ _, Own.nil _ _ _, List.nodup_nil, by simp, by simp, (fun b off e => by cases e), rfl⟩, ?_⟩
    rintro t _ h13 _ ⟨q, G, rfl, hq, T, e13, oG, nG, lG, mG, fG, rfl⟩
    have hlen : s.len = L.length := a0.len
    rw [hlen]
    have hs13 := e13.size
    have k13 := k8.ext e13 hne.2
    refine Br.dec (fun hlt => ?_) fun hge => ?_
    · have hql : q < L.length := by omega
      have a13 : Arr 1 uF h13 s L := (a0.ext e8 fun ⟨b, off, h1, h2⟩ => (hs0 b off h1).2.1 h2).ext e13 fun ⟨b, off, h1, h2⟩ => (hs0 b off h1).2.2.1 h2
      refine a13.ix rfl (getE hql) fun b off hb => ⟨_, hb, NilC.mk rfl ⟨some m2, k13.cell rfl, _, _, T.look L[q], ?_⟩⟩
      have hcd := count_drop hql L[q]
      rw [if_pos rfl] at hcd
      have hcdn : ∀ f, f ≠ L[q] → (L.drop q).count f = (L.drop (q + 1)).count f := fun f hf => by rw [count_drop hql f, if_neg fun x => hf x.symm]; rfl
      have hc1 := hgl L[q]
      have hc2 : (L.drop (q + 1)).count L[q] ≤ L.length := Nat.le_trans List.count_le_length (by simp)
      refine T.put L[q] (g' L[q] + (L.drop (q + 1)).count L[q]) (by rw [wi64 (by omega) (by omega)]; push_cast; omega) fun h23 hs23 T23 e23 => ?_
      have g1 : upd (fun f => g' f + (L.drop q).count f) L[q] (g' L[q] + (L.drop (q + 1)).count L[q]) = fun f => g' f + (L.drop (q + 1)).count f := by
        funext f
        unfold upd
        by_cases e : f = L[q]
        · rw [if_pos e, e]
        · rw [if_neg e]
          show g' f + (L.drop q).count f = _
          rw [hcdn f e]
      rw [g1] at T23
      have k23 := k13.ext e23 hne.2
      have hmt : ∀ f, f ∈ L.take (q + 1) ↔ f ∈ L.take q ∨ f = L[q] := by
        intro f
        rw [List.take_add_one, getE hql, List.mem_append]
        exact or_congr Iff.rfl List.mem_singleton
      have hmG : ∀ f, f ≠ L[q] → ((f ∈ L.take q ∧ g' f + (L.drop q).count f = 0) ↔ (f ∈ L.take (q + 1) ∧ g' f + (L.drop (q + 1)).count f = 0)) := by
        intro f hf
        rw [hmt, hcdn f hf]
        exact ⟨fun h => ⟨.inl h.1, h.2⟩, fun h => ⟨h.1.resolve_right hf, h.2⟩⟩
      have hnG : L[q] ∉ G := fun hh => by have := ((mG _).1 hh).2; omega
      refine NilC.mk rfl ⟨some m2, k23.cell rfl, _, _, T23.look L[q], Br.eq (fun c => ?_) fun c => ?_⟩
      · have hz : g' L[q] + (L.drop (q + 1)).count L[q] = 0 := by omega
        refine NilC.mk rfl ⟨some m2, k23.cell rfl, T23.del L[q] fun h32 hs32 T32 e32 => ?_⟩
        have oG32 : Own 1 uF h32 t G := (oG.ext e23 fun ⟨b, off, h1, h2⟩ => by have := fG b off h1; have : b = m2 := h2; omega).ext e32 fun ⟨b, off, h1, h2⟩ => by have := fG b off h1; have : b = m2 := h2; omega
        refine New.mk fun b33 h34 hb33 hs34 e34 k34 => ?_
        refine AppC.grow uF_sized (by omega) rfl (oG32.ext0 e34) ((Own.new (l := [L[q]]) (sz := 1) (f := uF) uF_sized (by simpa [uF] using k34)).arr uF_sized) (by simp; omega) fun s35 h36 o36 g36 => ?_
        have e36 : Ext (fun b => b = m2) h8 h36 := (((e13.trans e23).trans e32).then0 e34).trans' g36.ext fun i hi ⟨off, z⟩ => by have := fG _ _ z; omega
        have T36 := (T32.ext e34).ext g36.ext fun ⟨off, z⟩ => by have := fG _ _ z; omega
        refine ⟨L.length - (q + 1), by omega, q + 1, G ++ [L[q]], by rw [wi64 (by omega) (by omega)]; omega, by omega, ?_, e36, o36, ?_, by simp; omega, fun f => ?_, fun b off hb => ?_, rfl⟩
        · have h1 : upd (fun f => g' f + (L.drop (q + 1)).count f) L[q] 0 = fun f => g' f + (L.drop (q + 1)).count f := by
            funext f
            unfold upd
            by_cases e : f = L[q]
            · rw [if_pos e, e]; exact hz.symm
            · rw [if_neg e]
          have h2 : upd (upd (has fun f => g' f + (L.drop q).count f) L[q] true) L[q] false = has fun f => g' f + (L.drop (q + 1)).count f := by
            funext f
            unfold upd has
            by_cases e : f = L[q]
            · rw [if_pos e, e]; simp [hz]
            · rw [if_neg e, if_neg e]
              show decide (0 < g' f + (L.drop q).count f) = decide (0 < g' f + (L.drop (q + 1)).count f)
              rw [hcdn f e]
          rw [h1, h2] at T36
          exact T36
        · rw [List.nodup_append]
          refine ⟨nG, by simp, fun a ha b hb hab => ?_⟩
          simp at hb
          subst hb; subst hab
          exact hnG ha
        · rw [List.mem_append, List.mem_singleton]
          by_cases e : f = L[q]
          · subst e
            simp only [hmt, or_true, true_and, true_iff]
            exact hz
          · rw [mG f, hmG f e]; simp [e]
        · rcases g36.new with n | ⟨b', n, hb'⟩
          · exact fG b off (n ▸ hb)
          · rw [n] at hb; cases hb; have := e23.size; have := e32.size; omega
      · have hz : ¬ g' L[q] + (L.drop (q + 1)).count L[q] = 0 := by omega
        have oG23 : Own 1 uF h23 t G := oG.ext e23 fun ⟨b, off, h1, h2⟩ => by have := fG b off h1; have : b = m2 := h2; omega
        refine ⟨L.length - (q + 1), by omega, q + 1, G, by rw [wi64 (by omega) (by omega)]; omega, by omega, ?_, e13.trans e23, oG23, nG, by omega, fun f => ?_, fG, rfl⟩
        · have h2 : upd (has fun f => g' f + (L.drop q).count f) L[q] true = has fun f => g' f + (L.drop (q + 1)).count f := by
            funext f
            unfold upd has
            by_cases e : f = L[q]
            · rw [if_pos e, e]; simp; omega
            · rw [if_neg e]
              show decide (0 < g' f + (L.drop q).count f) = decide (0 < g' f + (L.drop (q + 1)).count f)
              rw [hcdn f e]
          rw [h2] at T23
          exact T23
        · by_cases e : f = L[q]
          · subst e
            exact ⟨fun hh => absurd hh hnG, fun hh => absurd hh.2 hz⟩
          · rw [mG f, hmG f e]
    · have hqe : q = L.length := by omega
      subst hqe
      have hd : ∀ f, (L.drop L.length).count f = 0 := fun f => by simp
      have hGl : G.length ≤ 4398046511104 := by omega
      refine c93 oG hGl fun h39 o39 e39 => ?_
      have e39' : Ext (fun b => b = m2) h8 h39 := e13.trans' e39 fun i hi ⟨off, z⟩ => by have := fG _ _ z; omega
      have eAll : Ext (fun b => b = m1 ∨ b = m2) h h39 := (e8.mono fun i z => .inl z).trans (e39'.mono fun i z => .inr z)
      refine k s L t h39 (sortI G) hx ⟨?_, ?_, ?_, ?_, D.mm, ?_, ?_⟩ eAll o39 (sortI_SS nG) (fun f => ?_) ?_ fun b off hb => ?_
      · rw [hlg, List.length_set]
        exact D.blk.ext eAll fun z => z.elim hne.1 hne.2
      · rw [hlg]
        obtain ⟨i, hi, hsx⟩ := aliveP_mem.1 hmem
        have := aliveP_del (k := 0) hsx
        rw [show (x - 1).toNat = i by omega, this, show ((0 : Nat) : Int) + (i : Int) + 1 = x by omega]
        exact M8.ext e39' D.mm
      · intro z hz
        rw [hlg] at hz
        have hz' : ∃ z' ∈ ρ, z'.1 = z.1 := by
          rcases List.mem_or_eq_of_mem_set hz with hh | rfl
          · exact ⟨z, hh, rfl⟩
          · exact ⟨_, hxm, rfl⟩
        obtain ⟨z', hz1, hz2⟩ := hz'
        obtain ⟨h1, h2⟩ := D.arr z' hz1
        rw [hz2] at h1 h2
        refine ⟨h1.ext eAll fun ⟨b, off, g1, g2⟩ => g2.elim (h2 b off g1).2.1 (h2 b off g1).2.2.1, fun b off hb => ?_⟩
        obtain ⟨g1, g2, g3, g4⟩ := h2 b off hb
        have := eAll.size
        exact ⟨g1, g2, g3, by omega⟩
      · have e : (fun f => g' f + (L.drop L.length).count f) = cnt (texts (letGo ρ x)) := by
          rw [hg']; funext f; simp
        rw [e] at T
        exact T.ext e39 fun ⟨off, z⟩ => by have := fG _ _ z; omega
      · rw [hlg, List.length_set]; exact D.sz
      · omega
      · rw [sortI_mem, mG f, List.take_length, hd f, hg']; simp
      · unfold sortI; rw [List.length_mergeSort]; omega
      · have := fG b off hb; omega

end Go.V.Yteojmnnobmpdiaa
