/- This text proves a part of the laws of seat Yteojmnnobmpdiaa, under no condition: X22e X22f X22g X22h. -/
import Derived.Test.YteojmnnobmpdiaaSK
import Derived.Test.YteojmnnobmpdiaaSD
set_option linter.unusedVariables false
set_option linter.unusedSimpArgs false
/-! Which handles hold: plain laws. -/
namespace Go.V.Snap
open Go Go.V

/-- Of all handles that ever were (a number; whether it holds): those that hold, with their numbers. -/
def alive : Nat → List (Int × Bool) → List (Int × Int)
  | _, [] => []
  | k, (s, true) :: l => ((k : Int) + 1, s) :: alive (k + 1) l
  | k, (_, false) :: l => alive (k + 1) l

def vals (σ : List (Int × Bool)) : List Int := (alive 0 σ).map (·.2)

theorem alive_mem : ∀ {σ : List (Int × Bool)} {k : Nat} {x s : Int}, (x, s) ∈ alive k σ ↔ ∃ i : Nat, x = (k : Int) + i + 1 ∧ σ[i]? = some (s, true)
  | [], k, x, s => by simp [alive]
  | (t, true) :: σ, k, x, s => by
    simp only [alive, List.mem_cons, Prod.mk.injEq, alive_mem (σ := σ)]
    constructor
    · rintro (⟨rfl, rfl⟩ | ⟨i, rfl, h⟩)
      · exact ⟨0, by simp, rfl⟩
      · exact ⟨i + 1, by push_cast; omega, by simpa using h⟩
    · rintro ⟨i, rfl, h⟩
      cases i with
      | zero => simp at h; exact .inl ⟨by simp, h.symm⟩
      | succ i => exact .inr ⟨i, by push_cast; omega, by simpa using h⟩
  | (t, false) :: σ, k, x, s => by
    simp only [alive, alive_mem (σ := σ)]
    constructor
    · rintro ⟨i, rfl, h⟩; exact ⟨i + 1, by push_cast; omega, by simpa using h⟩
    · rintro ⟨i, rfl, h⟩
      cases i with
      | zero => simp at h
      | succ i => exact ⟨i, by push_cast; omega, by simpa using h⟩

theorem alive_len (σ : List (Int × Bool)) (k : Nat) : (alive k σ).length ≤ σ.length := by
  induction σ generalizing k with
  | nil => simp [alive]
  | cons x σ ih =>
    obtain ⟨s, b⟩ := x
    cases b <;> simp [alive] <;> have := ih (k + 1) <;> omega

theorem alive_snoc (q : Int) : ∀ (σ : List (Int × Bool)) (k : Nat), alive k (σ ++ [(q, true)]) = alive k σ ++ [((k : Int) + σ.length + 1, q)]
  | [], k => by simp [alive]
  | (t, true) :: σ, k => by simp only [List.cons_append, alive, alive_snoc q σ]; simp; omega
  | (t, false) :: σ, k => by simp only [List.cons_append, alive, alive_snoc q σ]; simp; omega

theorem alive_del : ∀ {σ : List (Int × Bool)} {k i : Nat} {s : Int}, σ[i]? = some (s, true) → alive k (σ.set i (s, false)) = adel (.int .i64) ((k : Int) + i + 1 : Int) (alive k σ)
  | [], k, i, s, h => by simp at h
  | (t, b) :: σ, k, 0, s, h => by
    simp at h
    obtain ⟨rfl, rfl⟩ := h
    simp [alive, adel, keq]
  | (t, b) :: σ, k, i + 1, s, h => by
    have ih := alive_del (σ := σ) (k := k + 1) (i := i) (s := s) (by simpa using h)
    have e : (((k + 1 : Nat) : Int) + i + 1) = (k : Int) + ((i + 1 : Nat) : Int) + 1 := by push_cast; omega
    rw [e] at ih
    cases b with
    | true =>
      have hne : ¬ ((k : Int) + 1 = (k : Int) + ((i + 1 : Nat) : Int) + 1) := by push_cast; omega
      have hne' : ¬ ((k : Int) + ((i + 1 : Nat) : Int) + 1 = (k : Int) + 1) := by push_cast; omega
      have hk : ∀ a b : Int, keq (.int .i64) a b = (a == b) := fun _ _ => rfl
      simp only [List.set_cons_succ, alive, adel, ih, hk]
      simp only [beq_iff_eq, hne, hne', if_false]
    | false => simp only [List.set_cons_succ, alive, ih]

/-- The number of a handle that holds. -/
def hnum (σ : List (Int × Bool)) (x : Int) : Option Int := if 1 ≤ x then (match σ[(x - 1).toNat]? with | some (s, true) => some s | _ => none) else none

theorem hnum_mem {σ : List (Int × Bool)} {x s : Int} : (x, s) ∈ alive 0 σ ↔ hnum σ x = some s := by
  rw [alive_mem]
  unfold hnum
  constructor
  · rintro ⟨i, rfl, h⟩
    rw [if_pos (by push_cast; omega), show (((0 : Nat) : Int) + (i : Int) + 1 - 1).toNat = i by omega, h]
  · intro h
    split at h
    · rename_i hx
      split at h
      · rename_i s' hs; cases h; exact ⟨(x - 1).toNat, by omega, hs⟩
      · cases h
    · cases h

theorem hnum_not {σ : List (Int × Bool)} {x : Int} (h : hnum σ x = none) : ∀ y ∈ alive 0 σ, y.1 ≠ x := by
  rintro ⟨a, s⟩ hy rfl
  rw [hnum_mem.1 hy] at h; cases h

theorem vals_eq (σ : List (Int × Bool)) : vals σ = (σ.filter (·.2)).map (·.1) := by
  unfold vals
  generalize 0 = k
  induction σ generalizing k with
  | nil => rfl
  | cons x σ ih =>
    obtain ⟨s, b⟩ := x
    cases b <;> simp [alive, ih]

theorem alive_count (σ : List (Int × Bool)) (k : Nat) : (alive k σ).length = (σ.filter (·.2)).length := by
  induction σ generalizing k with
  | nil => rfl
  | cons x σ ih =>
    obtain ⟨s, b⟩ := x
    cases b <;> simp [alive, ih]

/-- All numbers that are held. -/
def allD (σ : List (Int × Bool)) : List Int := (vals σ).foldl withI []

theorem foldl_withI : ∀ (l acc : List Int), SS acc → SS (l.foldl withI acc) ∧ ∀ x, x ∈ l.foldl withI acc ↔ x ∈ acc ∨ x ∈ l
  | [], acc, h => ⟨h, by simp⟩
  | y :: l, acc, h => by
    obtain ⟨h1, h2⟩ := withI_spec h y
    obtain ⟨h3, h4⟩ := foldl_withI l (withI acc y) h1
    refine ⟨h3, fun x => ?_⟩
    simp only [List.foldl_cons, h4, h2, List.mem_cons, or_assoc]

theorem allD_spec (σ : List (Int × Bool)) : SS (allD σ) ∧ ∀ x, x ∈ allD σ ↔ x ∈ vals σ := by
  obtain ⟨h1, h2⟩ := foldl_withI (vals σ) [] List.Pairwise.nil
  exact ⟨h1, fun x => by rw [allD, h2]; simp⟩

def sortN (l : List Int) : List Int := l.mergeSort fun x y => decide (x ≤ y)

theorem sortN_sorted (l : List Int) : (sortN l).Pairwise (· ≤ ·) := by
  have := List.pairwise_mergeSort (le := fun x y : Int => decide (x ≤ y)) (by simp; omega) (by simp; omega) l
  simpa [sortN] using this

theorem all_eq (σ : List (Int × Bool)) : comp (sortN (vals σ)) = allD σ := by
  obtain ⟨h1, h2⟩ := comp_spec (sortN_sorted (vals σ))
  obtain ⟨h3, h4⟩ := allD_spec σ
  refine h1.eq h3 fun x => ?_
  rw [h2, h4]
  exact (List.mergeSort_perm _ _).mem_iff

theorem withI_fold_len : ∀ (l acc : List Int), (l.foldl withI acc).length ≤ acc.length + l.length
  | [], acc => by simp
  | y :: l, acc => by
    have h1 := withI_fold_len l (withI acc y)
    have h2 := withI_length acc y
    simp only [List.foldl_cons, List.length_cons]; omega

theorem vals_len (σ : List (Int × Bool)) : (vals σ).length ≤ σ.length := by rw [vals, List.length_map]; exact alive_len σ 0
theorem allD_len (σ : List (Int × Bool)) : (allD σ).length ≤ σ.length := by
  have h1 := withI_fold_len (vals σ) []
  have h2 := vals_len σ
  unfold allD; simp at h1; omega

end Go.V.Snap
set_option linter.unusedVariables false
set_option linter.unusedSimpArgs false
/-! The program's list of numbers that are held. -/
namespace Go.V.Yteojmnnobmpdiaa
open Go Go.V Go.V.Snap

/-- The program's list in memory. -/
structure PL (h : Heap) (p m : Nat) (σ : List (Int × Bool)) : Prop where
  blk : Blk h p 161 [.map (some m), .int .i64 σ.length]
  map : MapR h m (.int .i64) (.one (.int .u64)) uF (alive 0 σ)
  sz : σ.length ≤ 4398046511104

theorem PL.ext {S : Nat → Prop} {h h' : Heap} {p m : Nat} {σ : List (Int × Bool)} (L : PL h p m σ) (e : Ext S h h') (hp : ¬ S p) (hm : ¬ S m) : PL h' p m σ := ⟨L.blk.ext e hp, L.map.ext e hm, L.sz⟩
theorem PL.ext0 {h h' : Heap} {p m : Nat} {σ : List (Int × Bool)} (L : PL h p m σ) (e : Ext0 h h') : PL h' p m σ := L.ext e id id
theorem PL.ne {h : Heap} {p m : Nat} {σ : List (Int × Bool)} (L : PL h p m σ) : p ≠ m := fun e => by
  obtain ⟨es, c, hm, _⟩ := L.map.rep
  have := L.blk
  unfold Blk at this
  rw [e, hm] at this; cases this

theorem klt : KeyLT (.int .i64) := trivial

/-- What Hold says and does. -/
def holdS (σ : List (Int × Bool)) (q : Int) : Int × Int × List (Int × Bool) :=
  if q > 72057594037927935 then (0, 1, σ) else if (alive 0 σ).length ≥ 4096 then (0, 2, σ) else ((σ.length : Int) + 1, 0, σ ++ [(q, true)])
def freeS (σ : List (Int × Bool)) (x : Int) : Int × List (Int × Bool) := match hnum σ x with
  | some s => (0, σ.set (x - 1).toNat (s, false))
  | none => (220, σ)
def seqS (σ : List (Int × Bool)) (x : Int) : Int × Int := match hnum σ x with
  | some s => (s, 0)
  | none => (0, 220)
def stripeS (σ : List (Int × Bool)) (q : Int) : Int × Bool := match (allD σ)[below (allD σ) q]? with
  | some x => (x, true)
  | none => (0, false)

theorem c46 {h : Heap} {R : Option (Nat × Nat) → Heap → Prop} (k : ∀ p m h', h.size ≤ p → h.size ≤ m → PL h' p m [] → Ext0 h h' → R (some (p, 0)) h') : Call Go.Proofs.Try.prog 46 [] h [.one .ptr] R :=
  ok46 (NewM.mk fun b0 h1 hb0 hs1 e1 k1 => New.mk fun b2 h3 hb2 hs3 e3 k3 => k b2 b0 h3 (by omega) (by omega) ⟨k3, (MapR.new k1).ext e3, by simp⟩ (e1.trans e3))

theorem c47 {h : Heap} {p m : Nat} {σ : List (Int × Bool)} (L : PL h p m σ) (hl : σ.length < 4398046511104) {q : Int} {R : Int → Int → Heap → Prop}
    (k : ∀ h', PL h' p m (holdS σ q).2.2 → Ext (fun b => b = p ∨ b = m) h h' → R (holdS σ q).1 (holdS σ q).2.1 h') : Call Go.Proofs.Try.prog 47 [.lf (.ptr (some (p, 0))), .lf (.int .u64 q)] h [.one (.int .i64), .one (.int .i64)] R := by
  unfold holdS at k
  refine ok47 (Br.dec (fun c => ?_) fun c => NilC.mk rfl ⟨some m, L.blk.cell rfl, _, L.map.len, Br.dec (fun c2 => ?_) fun c2 => ?_⟩)
  · rw [if_pos c] at k
    exact k h L (Ext.refl _ _)
  · rw [if_neg c, if_pos (by omega)] at k
    exact k h L (Ext.refl _ _)
  · rw [if_neg c, if_neg (by omega)] at k
    refine NilC.mk rfl ⟨_, L.blk.cell rfl, NilC.mk rfl ?_⟩
    rw [wi64 (by omega) (by omega)]
    refine StC.one L.blk (x := .int .i64 (σ.length + 1)) (by simp) fun h9 hs9 k9 e9 => ?_
    refine NilC.mk rfl ⟨some m, k9.cell rfl, NilC.mk rfl ⟨(σ.length : Int) + 1, k9.cell rfl, ?_⟩⟩
    have M9 := L.map.ext e9 (fun x => L.ne x.symm)
    refine M9.put klt (v := q) trivial rfl fun h16 hs16 M16 e16 => NilC.mk rfl ⟨(σ.length : Int) + 1, (k9.ext e16 L.ne).cell rfl, k h16 ⟨?_, ?_, by simp; omega⟩ ?_⟩
    · have := k9.ext e16 L.ne
      simpa using this
    · rw [alive_snoc]
      rw [aput_new klt fun y hy => ?_] at M16
      · simpa using M16
      · obtain ⟨a, s⟩ := y
        obtain ⟨i, hi, hs⟩ := alive_mem.1 hy
        have : i < σ.length := by
          rcases Nat.lt_or_ge i σ.length with h | h
          · exact h
          · rw [List.getElem?_eq_none h] at hs; cases hs
        intro hq
        have h2 : ((0 : Nat) : Int) + (i : Int) + 1 = (σ.length : Int) + 1 := hi.symm.trans hq
        omega
    · exact (e9.mono fun i x => .inl x).trans (e16.mono fun i x => .inr x)

theorem c48 {h : Heap} {p m : Nat} {σ : List (Int × Bool)} (L : PL h p m σ) {x : Int} {R : Int → Heap → Prop}
    (k : ∀ h', PL h' p m (freeS σ x).2 → Ext (fun b => b = p ∨ b = m) h h' → R (freeS σ x).1 h') : Call Go.Proofs.Try.prog 48 [.lf (.ptr (some (p, 0))), .lf (.int .i64 x)] h [.one (.int .i64)] R := by
  unfold freeS at k
  refine ok48 (NilC.mk rfl ⟨some m, L.blk.cell rfl, ?_⟩)
  cases hx : hnum σ x with
  | none =>
    rw [hx] at k
    exact ⟨0, false, L.map.miss klt (hnum_not hx) trivial _, Br.t rfl (k h L (Ext.refl _ _))⟩
  | some s =>
    rw [hx] at k
    have hm := hnum_mem.2 hx
    refine ⟨s, true, L.map.hit klt hm trivial _ rfl, Br.f rfl (NilC.mk rfl ⟨some m, L.blk.cell rfl, L.map.del trivial fun h8 hs8 M8 e8 => k h8 ⟨?_, ?_, by simpa using L.sz⟩ (e8.mono fun i x => .inr x)⟩)⟩
    · have := L.blk.ext e8 L.ne
      simpa using this
    · obtain ⟨i, hi, hs⟩ := alive_mem.1 hm
      have := alive_del (k := 0) hs
      rw [show (x - 1).toNat = i by omega, this, show ((0 : Nat) : Int) + (i : Int) + 1 = x by omega]
      exact M8

theorem c50 {h : Heap} {p m : Nat} {σ : List (Int × Bool)} (L : PL h p m σ) {x : Int} {R : Int → Int → Heap → Prop}
    (k : R (seqS σ x).1 (seqS σ x).2 h) : Call Go.Proofs.Try.prog 50 [.lf (.ptr (some (p, 0))), .lf (.int .i64 x)] h [.one (.int .u64), .one (.int .i64)] R := by
  unfold seqS at k
  refine ok50 (NilC.mk rfl ⟨some m, L.blk.cell rfl, ?_⟩)
  cases hx : hnum σ x with
  | none =>
    rw [hx] at k
    exact ⟨0, false, L.map.miss klt (hnum_not hx) trivial _, Br.t rfl k⟩
  | some s =>
    rw [hx] at k
    exact ⟨s, true, L.map.hit klt (hnum_mem.2 hx) trivial _ rfl, Br.f rfl k⟩

theorem c58 {h : Heap} {p m : Nat} {σ : List (Int × Bool)} (L : PL h p m σ) {R : Int → Heap → Prop} (k : R ((alive 0 σ).length : Int) h) : Call Go.Proofs.Try.prog 58 [.lf (.ptr (some (p, 0)))] h [.one (.int .i64)] R :=
  ok58 (NilC.mk rfl ⟨some m, L.blk.cell rfl, _, L.map.len, k⟩)

theorem c97 {h : Heap} {p m : Nat} {σ : List (Int × Bool)} (L : PL h p m σ) {R : Slc → Heap → Prop}
    (k : ∀ s' h', Own 1 uF h' s' (allD σ) → Fresh h h' s' → R s' h') : Call Go.Proofs.Try.prog 97 [.lf (.ptr (some (p, 0)))] h [.one .slc] R := by
  refine ok97 (NilC.mk rfl ⟨some m, L.blk.cell rfl, ok131 (New.mk fun b0 h1 hb0 hs1 e1 k1 => ?_)⟩)
  have hv := vals_len σ
  have hsz := L.sz
  refine c95 (seq156 k1 (L.map.ext e1)) (by show (vals σ).length ≤ _; omega) fun s5 h6 o6 f6 => ?_
  refine c130 o6 (by show (sortI (vals σ)).length ≤ _; unfold sortI; rw [List.length_mergeSort]; omega) fun s7 h8 o8 e8 ha => k s7 h8 ?_ ⟨(e1.trans f6.ext).trans' e8 fun i hi ⟨off, hx⟩ => ?_, fun b off hb => ?_⟩
  · have := all_eq σ
    rw [← this]; exact o8
  · have := f6.new _ _ hx; omega
  · rw [ha] at hb
    have := f6.new _ _ hb; omega

theorem c49 {h : Heap} {p m : Nat} {σ : List (Int × Bool)} (L : PL h p m σ) {R : Slc → Heap → Prop}
    (k : ∀ s' h', Own 1 uF h' s' (allD σ) → Fresh h h' s' → R s' h') : Call Go.Proofs.Try.prog 49 [.lf (.ptr (some (p, 0)))] h [.one .slc] R := ok49 (c97 L k)

theorem c98 {h : Heap} {p m : Nat} {σ : List (Int × Bool)} (L : PL h p m σ) {q : Int} {R : Int → Bool → Heap → Prop}
    (k : ∀ h', Ext0 h h' → R (stripeS σ q).1 (stripeS σ q).2 h') : Call Go.Proofs.Try.prog 98 [.lf (.ptr (some (p, 0))), .lf (.int .u64 q)] h [.one (.int .u64), .one .bool] R := by
  refine ok98 (c97 L fun s0 h1 o1 f1 => ?_)
  have hlen := allD_len σ
  have hsz := L.sz
  refine c132 (o1.arr uF_sized) (allD_spec σ).1 (by omega) fun c h4 hs4 e4 => ?_
  have hsl : s0.len = (allD σ).length := o1.len
  have hb := below_le (allD σ) q
  have k' := k h4 (f1.ext.trans e4)
  unfold stripeS at k'
  refine Br.eq (fun e => ?_) fun e => ?_
  · rw [List.getElem?_eq_none (by omega)] at k'
    exact k'
  · have hlt : below (allD σ) q < (allD σ).length := by omega
    rw [getE hlt] at k'
    exact ((o1.arr uF_sized).ext0 e4).ix rfl (getE hlt) fun b off hb => ⟨_, hb, k'⟩

theorem c51 {h : Heap} {p m : Nat} {σ : List (Int × Bool)} (L : PL h p m σ) {q : Int} {R : Int → Bool → Heap → Prop}
    (k : ∀ h', Ext0 h h' → R (stripeS σ q).1 (stripeS σ q).2 h') : Call Go.Proofs.Try.prog 51 [.lf (.ptr (some (p, 0))), .lf (.int .u64 q)] h [.one (.int .u64), .one .bool] R := ok51 (c98 L k)
theorem c57 {h : Heap} {p m : Nat} {σ : List (Int × Bool)} (L : PL h p m σ) {R : Int → Bool → Heap → Prop}
    (k : ∀ h', Ext0 h h' → R (stripeS σ 0).1 (stripeS σ 0).2 h') : Call Go.Proofs.Try.prog 57 [.lf (.ptr (some (p, 0)))] h [.one (.int .u64), .one .bool] R := ok57 (c98 L k)

end Go.V.Yteojmnnobmpdiaa
set_option linter.unusedVariables false
set_option linter.unusedSimpArgs false
/-! The document's list of numbers that are held. -/
namespace Go.V.Yteojmnnobmpdiaa
open Go Go.V Go.V.Snap

def yF (b : Bool) : List Lf := [.bool b]
theorem yF_sized : Sized 1 yF := fun _ => rfl

/-- The document's list in memory. -/
structure DL (h : Heap) (d : Nat) (ss sh : Slc) (σ : List (Int × Bool)) : Prop where
  blk : Blk h d 96 [.slc ss, .slc sh]
  seqs : Own 1 uF h ss (σ.map (·.1))
  held : Own 1 yF h sh (σ.map (·.2))
  n1 : ∀ b off, ss.a = some (b, off) → b ≠ d
  n2 : ∀ b off, sh.a = some (b, off) → b ≠ d
  n3 : ∀ b off off', ss.a = some (b, off) → sh.a ≠ some (b, off')
  sz : σ.length ≤ 4398046511104

/-- Its blocks. -/
def DB (d : Nat) (ss sh : Slc) (b : Nat) : Prop := b = d ∨ inS ss b ∨ inS sh b

theorem DL.ext {S : Nat → Prop} {h h' : Heap} {d : Nat} {ss sh : Slc} {σ : List (Int × Bool)} (L : DL h d ss sh σ) (e : Ext S h h') (hs : ∀ b, DB d ss sh b → ¬ S b) : DL h' d ss sh σ :=
  ⟨L.blk.ext e (hs d (.inl rfl)), L.seqs.ext e fun ⟨b, off, h1, h2⟩ => hs b (.inr (.inl ⟨off, h1⟩)) h2, L.held.ext e fun ⟨b, off, h1, h2⟩ => hs b (.inr (.inr ⟨off, h1⟩)) h2, L.n1, L.n2, L.n3, L.sz⟩
theorem DL.ext0 {h h' : Heap} {d : Nat} {ss sh : Slc} {σ : List (Int × Bool)} (L : DL h d ss sh σ) (e : Ext0 h h') : DL h' d ss sh σ := L.ext e fun _ _ x => x
theorem DL.lt {h : Heap} {d : Nat} {ss sh : Slc} {σ : List (Int × Bool)} (L : DL h d ss sh σ) : ∀ b, DB d ss sh b → b < h.size := by
  rintro b (rfl | ⟨off, hx⟩ | ⟨off, hx⟩)
  · exact L.blk.lt
  · exact (L.seqs.lt _ _ hx).1
  · exact (L.held.lt _ _ hx).1
theorem DL.len1 {h : Heap} {d : Nat} {ss sh : Slc} {σ : List (Int × Bool)} (L : DL h d ss sh σ) : ss.len = σ.length := by have := L.seqs.len; simpa using this
theorem DL.len2 {h : Heap} {d : Nat} {ss sh : Slc} {σ : List (Int × Bool)} (L : DL h d ss sh σ) : sh.len = σ.length := by have := L.held.len; simpa using this
theorem DL.get {σ : List (Int × Bool)} {p : Nat} (h : p < σ.length) : (σ.map (·.1))[p]? = some σ[p].1 ∧ (σ.map (·.2))[p]? = some σ[p].2 := by simp [h]

theorem alive_take {σ : List (Int × Bool)} {p : Nat} (h : p < σ.length) (k : Nat) : alive k (σ.take (p + 1)) = alive k (σ.take p) ++ (if σ[p].2 = true then [((k : Int) + p + 1, σ[p].1)] else []) := by
  induction σ generalizing p k with
  | nil => simp at h
  | cons x σ ih =>
    obtain ⟨s, b⟩ := x
    cases p with
    | zero => cases b <;> simp [alive]
    | succ p =>
      have hp : p < σ.length := by simpa using h
      have := ih hp (k + 1)
      have e : ((k + 1 : Nat) : Int) + (p : Int) + 1 = (k : Int) + ((p + 1 : Nat) : Int) + 1 := by push_cast; omega
      rw [e] at this
      cases b <;> simp only [List.take_succ_cons, alive, this, List.getElem_cons_succ, List.cons_append]

theorem set_fst {σ : List (Int × Bool)} {i : Nat} {s : Int} (h : σ[i]? = some (s, true)) : (σ.set i (s, false)).map (·.1) = σ.map (·.1) := by
  apply List.ext_getElem?
  intro j
  simp only [List.getElem?_map, List.getElem?_set]
  by_cases e : i = j
  · subst e
    have hi : i < σ.length := by
      rcases Nat.lt_or_ge i σ.length with h' | h'
      · exact h'
      · rw [List.getElem?_eq_none h'] at h; cases h
    rw [if_pos rfl, if_pos hi, h]; rfl
  · rw [if_neg e]

theorem hnum_some {σ : List (Int × Bool)} {x s : Int} (hx : hnum σ x = some s) : 1 ≤ x ∧ (x - 1).toNat < σ.length ∧ σ[(x - 1).toNat]? = some (s, true) := by
  unfold hnum at hx
  split at hx
  · rename_i h1
    split at hx
    · rename_i s' hs
      cases hx
      refine ⟨h1, ?_, hs⟩
      rcases Nat.lt_or_ge (x - 1).toNat σ.length with h | h
      · exact h
      · rw [List.getElem?_eq_none h] at hs; cases hs
    · cases hx
  · cases hx

section
variable {h : Heap} {d : Nat} {ss sh : Slc} {σ : List (Int × Bool)} (L : DL h d ss sh σ)
include L

theorem c59 {R : Int → Heap → Prop} (k : R ((alive 0 σ).length : Int) h) : Call Go.Proofs.Try.prog 59 [.lf (.ptr (some (d, 0)))] h [.one (.int .i64)] R := by
  have hsz := L.sz
  refine ok59 ⟨fun n i hh m => ∃ p : Nat, i = p ∧ p ≤ σ.length ∧ n = ((alive 0 (σ.take p)).length : Int) ∧ h = hh ∧ m = σ.length - p, ⟨_, 0, rfl, by omega, by simp [alive], rfl, rfl⟩, ?_⟩
  rintro _ _ _ _ ⟨p, rfl, hp, rfl, rfl, rfl⟩
  have hcl : (alive 0 (σ.take p)).length ≤ σ.length := Nat.le_trans (alive_len _ _) (by simp; omega)
  refine NilC.mk rfl ⟨sh, L.blk.cell rfl, ?_⟩
  rw [L.len2]
  refine Br.dec (fun hlt => ?_) fun hge => ?_
  · have hpl : p < σ.length := by omega
    have hat := alive_take hpl 0
    refine NilC.mk rfl ⟨sh, L.blk.cell rfl, (L.held.arr yF_sized).ix rfl (DL.get hpl).2 fun b off hb => ⟨_, hb, Br.mk (fun c => ?_) fun c => ?_⟩⟩
    · rw [if_pos c] at hat
      exact ⟨σ.length - (p + 1), by omega, p + 1, by rw [wi64 (by omega) (by omega)]; omega, by omega, by rw [hat, wi64 (by omega) (by omega)]; simp, rfl, rfl⟩
    · rw [if_neg (by rw [c]; simp)] at hat
      exact ⟨σ.length - (p + 1), by omega, p + 1, by rw [wi64 (by omega) (by omega)]; omega, by omega, by rw [hat]; simp, rfl, rfl⟩
  · have : p = σ.length := by omega
    subst this
    rw [List.take_length]
    exact k

theorem c99 {x : Int} (hx : x ≤ 9223372036854775807) {R : Bool → Heap → Prop} (k : R (hnum σ x).isSome h) : Call Go.Proofs.Try.prog 99 [.lf (.ptr (some (d, 0))), .lf (.int .i64 x)] h [.one .bool] R := by
  have hsz := L.sz
  refine ok99 (Br.dec (fun c => NilC.mk rfl ⟨sh, L.blk.cell rfl, ?_⟩) fun c => ?_)
  · rw [L.len2]
    refine Br.dec (fun c2 => NilC.mk rfl ⟨sh, L.blk.cell rfl, ?_⟩) fun c2 => ?_
    · have hpl : (x - 1).toNat < σ.length := by omega
      refine (L.held.arr yF_sized).ix (k := (x - 1).toNat) (by rw [wi64 (by omega) (by omega)]; omega) (DL.get hpl).2 fun b off hb => ⟨_, hb, ?_⟩
      have : (hnum σ x).isSome = σ[(x - 1).toNat].2 := by
        unfold hnum
        rw [if_pos (by omega)]
        have hg : σ[(x - 1).toNat]? = some σ[(x - 1).toNat] := by simp [hpl]
        generalize σ[(x - 1).toNat] = y at hg ⊢
        rw [hg]
        obtain ⟨s, b⟩ := y
        cases b <;> rfl
      rwa [this] at k
    · have : hnum σ x = none := by
        unfold hnum
        rw [if_pos (by omega), List.getElem?_eq_none (by omega)]
      rw [this] at k; exact k
  · have : hnum σ x = none := by unfold hnum; rw [if_neg (by omega)]
    rw [this] at k; exact k

theorem c53 {x : Int} (hx : x ≤ 9223372036854775807) {R : Int → Heap → Prop} (k : ∀ h', DL h' d ss sh (freeS σ x).2 → Ext (DB d ss sh) h h' → R (freeS σ x).1 h') :
    Call Go.Proofs.Try.prog 53 [.lf (.ptr (some (d, 0))), .lf (.int .i64 x)] h [.one (.int .i64)] R := by
  unfold freeS at k
  have hsz := L.sz
  refine ok53 (c99 L hx ?_)
  cases hh : hnum σ x with
  | none => rw [hh] at k; exact Br.t rfl (k h L (Ext.refl _ _))
  | some s =>
    rw [hh] at k
    obtain ⟨h1, h2, h3⟩ := hnum_some hh
    refine Br.f rfl (NilC.mk rfl ⟨sh, L.blk.cell rfl, ?_⟩)
    refine IxC.set yF_sized L.held (k := (x - 1).toNat) (by rw [wi64 (by omega) (by omega)]; omega) (by simpa using h2) (x := false) rfl fun h7 hs7 o7 e7 => k h7 ⟨?_, ?_, ?_, L.n1, L.n2, L.n3, by simpa using hsz⟩ (e7.mono fun i hi => .inr (.inr hi))
    · exact L.blk.ext e7 fun ⟨off, hb⟩ => L.n2 _ _ hb rfl
    · have : ((σ.set (x - 1).toNat (s, false)).map (·.1)) = σ.map (·.1) := set_fst h3
      rw [this]
      exact L.seqs.ext e7 fun ⟨b, off, h1, off', h2⟩ => L.n3 b off off' h1 h2
    · rw [List.map_set]; exact o7

theorem c54 {x : Int} (hx : x ≤ 9223372036854775807) {R : Int → Int → Heap → Prop} (k : R (seqS σ x).1 (seqS σ x).2 h) : Call Go.Proofs.Try.prog 54 [.lf (.ptr (some (d, 0))), .lf (.int .i64 x)] h [.one (.int .u64), .one (.int .i64)] R := by
  unfold seqS at k
  have hsz := L.sz
  refine ok54 (c99 L hx ?_)
  cases hh : hnum σ x with
  | none => rw [hh] at k; exact Br.t rfl k
  | some s =>
    rw [hh] at k
    obtain ⟨h1, h2, h3⟩ := hnum_some hh
    refine Br.f rfl (NilC.mk rfl ⟨ss, L.blk.cell rfl, (L.seqs.arr uF_sized).ix (k := (x - 1).toNat) (by rw [wi64 (by omega) (by omega)]; omega) (x := s) (by rw [List.getElem?_map, h3]; rfl) fun b off hb => ⟨_, hb, k⟩⟩)

theorem c56 {R : Slc → Heap → Prop} (k : ∀ s' h', Own 1 uF h' s' (allD σ) → Fresh h h' s' → R s' h') : Call Go.Proofs.Try.prog 56 [.lf (.ptr (some (d, 0)))] h [.one .slc] R := by
  have hsz := L.sz
  refine ok56 ⟨fun s i hh m => ∃ p : Nat, i = p ∧ p ≤ σ.length ∧ Own 1 uF hh s (allD (σ.take p)) ∧ Fresh h hh s ∧ m = σ.length - p, ⟨_, 0, rfl, by omega, Own.nil _ _ _, Fresh.nil _, rfl⟩, ?_⟩
  rintro s _ h4 _ ⟨p, rfl, hp, o, f, rfl⟩
  have L4 := L.ext0 f.ext
  refine NilC.mk rfl ⟨ss, L4.blk.cell rfl, ?_⟩
  rw [L.len1]
  refine Br.dec (fun hlt => ?_) fun hge => ?_
  · have hpl : p < σ.length := by omega
    have hat := alive_take hpl 0
    refine NilC.mk rfl ⟨sh, L4.blk.cell rfl, (L4.held.arr yF_sized).ix rfl (DL.get hpl).2 fun b off hb => ⟨_, hb, Br.mk (fun c => ?_) fun c => ?_⟩⟩
    · rw [if_pos c] at hat
      have hal : allD (σ.take (p + 1)) = withI (allD (σ.take p)) σ[p].1 := by unfold allD vals; rw [hat]; simp
      refine NilC.mk rfl ⟨ss, L4.blk.cell rfl, (L4.seqs.arr uF_sized).ix rfl (DL.get hpl).1 fun b off hb => ⟨_, hb, ?_⟩⟩
      have hll := allD_len (σ.take p)
      have : (σ.take p).length ≤ σ.length := by simp; omega
      refine c94 o (by omega) fun s' h22 o22 e22 n22 => ⟨σ.length - (p + 1), by omega, p + 1, by rw [wi64 (by omega) (by omega)]; omega, by omega, hal ▸ o22, ⟨f.ext.trans e22, fun b off hb => ?_⟩, rfl⟩
      rcases n22 with n | ⟨b', n, hb'⟩
      · exact f.new b off (n ▸ hb)
      · rw [n] at hb; cases hb; have := f.ext.size; omega
    · rw [if_neg (by rw [c]; simp)] at hat
      have hal : allD (σ.take (p + 1)) = allD (σ.take p) := by unfold allD vals; rw [hat]; simp
      exact ⟨σ.length - (p + 1), by omega, p + 1, by rw [wi64 (by omega) (by omega)]; omega, by omega, hal ▸ o, f, rfl⟩
  · have : p = σ.length := by omega
    subst this
    rw [List.take_length] at o
    exact k s h4 o f

theorem c55 {q : Int} {R : Int → Bool → Heap → Prop} (k : ∀ h', Ext0 h h' → R (stripeS σ q).1 (stripeS σ q).2 h') : Call Go.Proofs.Try.prog 55 [.lf (.ptr (some (d, 0))), .lf (.int .u64 q)] h [.one (.int .u64), .one .bool] R := by
  refine ok55 (c56 L fun s0 h1 o1 f1 => ?_)
  have hsz := L.sz
  have hll := allD_len σ
  have hb := below_le (allD σ) q
  have k' := k h1 f1.ext
  unfold stripeS at k'
  have hlen : s0.len = (allD σ).length := o1.len
  refine ⟨fun i hh m => ∃ p : Nat, i = p ∧ p ≤ below (allD σ) q ∧ h1 = hh ∧ m = (allD σ).length - p, ⟨_, 0, rfl, by omega, rfl, rfl⟩, ?_⟩
  rintro _ _ _ ⟨p, rfl, hp, rfl, rfl⟩
  rw [hlen]
  refine Br.dec (fun hlt => ?_) fun hge => ?_
  · have hpl : p < (allD σ).length := by omega
    refine (o1.arr uF_sized).ix rfl (getE hpl) fun b off hb' => ⟨_, hb', Br.dec (fun c => ?_) fun c => ?_⟩
    · have hpe : p = below (allD σ) q := by
        rcases Nat.lt_or_ge p (below (allD σ) q) with h1 | h1
        · have := below_lt (allD σ) q p _ h1 (getE hpl); omega
        · omega
      rw [← hpe, getE hpl] at k'
      exact (o1.arr uF_sized).ix rfl (getE hpl) fun b off hb' => ⟨_, hb', k'⟩
    · refine ⟨(allD σ).length - (p + 1), by omega, p + 1, by rw [wi64 (by omega) (by omega)]; omega, ?_, rfl, rfl⟩
      rcases Nat.lt_or_ge p (below (allD σ) q) with h1 | h1
      · omega
      · have hpe : p = below (allD σ) q := by omega
        have := below_ge (allD σ) q (allD σ)[p] (by rw [← hpe]; exact getE hpl)
        omega
  · rw [List.getElem?_eq_none (by omega)] at k'
    exact k'

end
end Go.V.Yteojmnnobmpdiaa
set_option linter.unusedVariables false
set_option linter.unusedSimpArgs false
/-! The document's Hold. -/
namespace Go.V.Yteojmnnobmpdiaa
open Go Go.V Go.V.Snap

theorem c52 {h : Heap} {d : Nat} {ss sh : Slc} {σ : List (Int × Bool)} (L : DL h d ss sh σ) (hl : σ.length < 4398046511104) {q : Int} {R : Int → Int → Heap → Prop}
    (k : ∀ ss' sh' h', DL h' d ss' sh' (holdS σ q).2.2 → Ext (DB d ss sh) h h' → Sub (DB d ss sh) (DB d ss' sh') h → R (holdS σ q).1 (holdS σ q).2.1 h') :
    Call Go.Proofs.Try.prog 52 [.lf (.ptr (some (d, 0))), .lf (.int .u64 q)] h [.one (.int .i64), .one (.int .i64)] R := by
  unfold holdS at k
  refine ok52 (Br.dec (fun c => ?_) fun c => c59 L (Br.dec (fun c2 => ?_) fun c2 => ?_))
  · rw [if_pos c] at k
    exact k ss sh h L (Ext.refl _ _) (Sub.refl _ _)
  · rw [if_neg c, if_pos (by omega)] at k
    exact k ss sh h L (Ext.refl _ _) (Sub.refl _ _)
  rw [if_neg c, if_neg (by omega)] at k
  have hd := L.blk.lt
  have ssn : ∀ b off, ss.a = some (b, off) → b < h.size := fun b off hb => (L.seqs.lt _ _ hb).1
  have shn : ∀ b off, sh.a = some (b, off) → b < h.size := fun b off hb => (L.held.lt _ _ hb).1
  -- the end
  have fin : ∀ s10 s14 h15, Own 1 uF h15 s10 (σ.map (·.1) ++ [q]) → Own 1 yF h15 s14 (σ.map (·.2) ++ [true]) → Blk h15 d 96 [.slc ss, .slc sh] → Ext (DB d ss sh) h h15 →
      (s10.a = ss.a ∨ ∃ b, s10.a = some (b, 0) ∧ h.size ≤ b) → (s14.a = sh.a ∨ ∃ b, s14.a = some (b, 0) ∧ h.size ≤ b) → (∀ b off off', s10.a = some (b, off) → s14.a ≠ some (b, off')) →
      NilC (some (d, 0)) fun b16 b17 => StC h15 b16 (b17 + 0) [.slc s10] fun h18 => NilC (some (d, 0)) fun b19 b20 => StC h18 b19 (b20 + 1) [.slc s14] fun h21 => NilC (some (d, 0)) fun b22 b23 => ∃ s24 : Slc, cellsAt h21 b22 (b23 + 0) [.slc s24] ∧ R (s24.len : Int) 0 h21 := by
    intro s10 s14 h15 o1 o2 kd e15 n1 n2 n3
    have m1 : ∀ b off, s10.a = some (b, off) → b ≠ d := by
      intro b off hb
      rcases n1 with n | ⟨b', n, hb'⟩
      · exact L.n1 b off (n ▸ hb)
      · rw [n] at hb; cases hb; omega
    have m2 : ∀ b off, s14.a = some (b, off) → b ≠ d := by
      intro b off hb
      rcases n2 with n | ⟨b', n, hb'⟩
      · exact L.n2 b off (n ▸ hb)
      · rw [n] at hb; cases hb; omega
    refine NilC.mk rfl (StC.one kd (x := .slc s10) (by simp) fun h18 hs18 k18 e18 => NilC.mk rfl (StC.one k18 (x := .slc s14) (by simp) fun h21 hs21 k21 e21 => NilC.mk rfl ⟨s10, k21.cell rfl, ?_⟩))
    have hlen : (s10.len : Int) = (σ.length : Int) + 1 := by have := o1.len; simp at this; omega
    rw [hlen]
    refine k s10 s14 h21 ⟨by simpa using k21, ?_, ?_, m1, m2, n3, by simp; omega⟩ ((e15.trans (e18.mono fun i x => .inl x)).trans (e21.mono fun i x => .inl x)) ?_
    · have := (o1.ext e18 fun ⟨b, off, h1, h2⟩ => m1 b off h1 h2).ext e21 fun ⟨b, off, h1, h2⟩ => m1 b off h1 h2
      simpa using this
    · have := (o2.ext e18 fun ⟨b, off, h1, h2⟩ => m2 b off h1 h2).ext e21 fun ⟨b, off, h1, h2⟩ => m2 b off h1 h2
      simpa using this
    · rintro b (rfl | ⟨off, hb⟩ | ⟨off, hb⟩)
      · exact .inl (.inl rfl)
      · rcases n1 with n | ⟨b', n, hb'⟩
        · exact .inl (.inr (.inl ⟨off, n ▸ hb⟩))
        · rw [n] at hb; cases hb; exact .inr hb'
      · rcases n2 with n | ⟨b', n, hb'⟩
        · exact .inl (.inr (.inr ⟨off, n ▸ hb⟩))
        · rw [n] at hb; cases hb; exact .inr hb'
  -- the first append
  have appS : ∀ hX bq, Ext0 h hX → Blk hX bq 22 [.int .u64 q] → ∀ K : Slc → Heap → Prop, (∀ s10 hY, Own 1 uF hY s10 (σ.map (·.1) ++ [q]) → Grow ss hX s10 hY → K s10 hY) → AppC 22 [.int .u64 0] 1 8 ss ⟨some (bq, 0), 1, 1⟩ hX K := by
    intro hX bq eX kq K hK
    refine AppC.grow uF_sized (by omega) rfl (L.seqs.ext0 eX) ((Own.new (l := [q]) (sz := 1) (f := uF) uF_sized (by simpa [uF] using kq)).arr uF_sized) (by simp; omega) fun s10 hY o g => hK s10 hY o g
  -- behind it: the block's own, and the other row
  have afterS : ∀ hX s10 hY, Ext0 h hX → Grow ss hX s10 hY → Blk hY d 96 [.slc ss, .slc sh] ∧ Own 1 yF hY sh (σ.map (·.2)) ∧ Ext (DB d ss sh) h hY ∧ (s10.a = ss.a ∨ ∃ b, s10.a = some (b, 0) ∧ h.size ≤ b) := by
    intro hX s10 hY eX g
    refine ⟨(L.blk.ext eX).ext g.ext fun ⟨off, x⟩ => L.n1 _ _ x rfl, (L.held.ext0 eX).ext g.ext fun ⟨b, off, h1, off', h2⟩ => L.n3 b off' off h2 h1, eX.of0.trans (g.ext.mono fun i x => .inr (.inl x)), g.new.imp id fun ⟨b, x, y⟩ => ⟨b, x, Nat.le_trans eX.size y⟩⟩
  -- the second append, and the end
  have appH : ∀ s10 hX bt, Own 1 uF hX s10 (σ.map (·.1) ++ [q]) → Blk hX d 96 [.slc ss, .slc sh] → Own 1 yF hX sh (σ.map (·.2)) → Ext (DB d ss sh) h hX → (s10.a = ss.a ∨ ∃ b, s10.a = some (b, 0) ∧ h.size ≤ b) → Blk hX bt 4 [.bool true] →
      AppC 4 [.bool false] 1 1 sh ⟨some (bt, 0), 1, 1⟩ hX fun s14 h15 => NilC (some (d, 0)) fun b16 b17 => StC h15 b16 (b17 + 0) [.slc s10] fun h18 => NilC (some (d, 0)) fun b19 b20 => StC h18 b19 (b20 + 1) [.slc s14] fun h21 =>
        NilC (some (d, 0)) fun b22 b23 => ∃ s24 : Slc, cellsAt h21 b22 (b23 + 0) [.slc s24] ∧ R (s24.len : Int) 0 h21 := by
    intro s10 hX bt o10 kd o2 eX n10 kt
    refine AppC.grow yF_sized (by omega) rfl o2 ((Own.new (l := [true]) (sz := 1) (f := yF) yF_sized (by simpa [yF] using kt)).arr yF_sized) (by simp; omega) fun s14 h15 o14 g14 => ?_
    have sep : ∀ b off off', s10.a = some (b, off) → sh.a ≠ some (b, off') := by
      intro b off off' h1 h2
      rcases n10 with n | ⟨b', n, hb'⟩
      · exact L.n3 b off off' (n ▸ h1) h2
      · rw [n] at h1; cases h1; have := shn _ _ h2; omega
    refine fin s10 s14 h15 (o10.ext g14.ext fun ⟨b, off, h1, off', h2⟩ => sep b off off' h1 h2) o14 (kd.ext g14.ext fun ⟨off, x⟩ => L.n2 _ _ x rfl) (eX.trans (g14.ext.mono fun i x => .inr (.inr x))) n10 (g14.new.imp id fun ⟨b, x, y⟩ => ⟨b, x, Nat.le_trans eX.size y⟩) ?_
    intro b off off' h1 h2
    rcases g14.new with n | ⟨b', n, hb'⟩
    · exact sep b off off' h1 (n ▸ h2)
    · rw [n] at h2; cases h2
      have := (o10.lt _ _ h1).1; omega
  refine NilC.mk rfl ⟨ss, L.blk.cell rfl, NilC.mk rfl ⟨sh, L.blk.cell rfl, ?_, ?_⟩⟩
  · refine New.mk fun b8 h9 hb8 hs9 e9 k9 => ⟨(L.blk.ext e9).cell rfl, (L.blk.ext e9).cell rfl, ?_, ?_⟩
    · refine appS h9 b8 e9 k9 _ fun s10 h11 o11 g11 => ?_
      obtain ⟨a1, a2, a3, a4⟩ := afterS h9 s10 h11 e9 g11
      refine ⟨a1.cell rfl, New.mk fun b12 h13 hb12 hs13 e13 k13 => ⟨(a1.ext e13).cell rfl, ?_⟩⟩
      exact appH s10 h13 b12 (o11.ext0 e13) (a1.ext e13) (a2.ext0 e13) (a3.then0 e13) a4 k13
    · refine New.mk fun b25 h26 hb25 hs26 e26 k26 => ?_
      have e := e9.trans e26
      refine ⟨(L.blk.ext e).cell rfl, (L.blk.ext e).cell rfl, appS h26 b8 e (k9.ext e26) _ fun s27 h28 o28 g28 => ?_⟩
      obtain ⟨a1, a2, a3, a4⟩ := afterS h26 s27 h28 e g28
      refine ⟨a1.cell rfl, appH s27 h28 b25 o28 a1 a2 a3 a4 (k26.ext g28.ext fun ⟨off, x⟩ => ?_)⟩
      have := ssn _ _ x; have := e9.size; omega
  · refine New.mk fun b40 h41 hb40 hs41 e41 k41 => ⟨(L.blk.ext e41).cell rfl, (L.blk.ext e41).cell rfl, New.mk fun b42 h43 hb42 hs43 e43 k43 => ?_⟩
    have e := e41.trans e43
    refine ⟨(L.blk.ext e).cell rfl, (L.blk.ext e).cell rfl, appS h43 b42 e k43 _ fun s44 h45 o45 g45 => ?_⟩
    obtain ⟨a1, a2, a3, a4⟩ := afterS h43 s44 h45 e g45
    refine ⟨a1.cell rfl, appH s44 h45 b40 o45 a1 a2 a3 a4 ((k41.ext e43).ext g45.ext fun ⟨off, x⟩ => ?_)⟩
    have := ssn _ _ x; omega

end Go.V.Yteojmnnobmpdiaa
