/- This text proves a part of the laws of seat Yteojmnnobmpdiaa, under no condition: X22a X22b X22c X22d. -/
import Derived.Test.YteojmnnobmpdiaaSD
import Derived.Test.YteojmnnobmpdiaaSJ
import Derived.Test.YteojmnnobmpdiaaSI
import Derived.Laws.Slices
set_option linter.unusedVariables false
set_option linter.unusedSimpArgs false
/-! Ranges over functions: maps.Keys, maps.Values, slices.AppendSeq, Collect, Sorted. -/
namespace Go.V.Yteojmnnobmpdiaa
open Go Go.V

/-- A function that yields the values of a list, in some order. -/
def SeqV (v : Value) (h : Heap) (xs : List Int) : Prop :=
  ∀ (h1 : Heap), Ext0 h h1 → ∀ (y : Value) (J : List Int → Heap → Prop), J [] h1 →
    (∀ pre hh hh', J pre hh → Ext (fun b => IsIt hh b ∧ h1.size ≤ b) hh hh' → J pre hh') →
    (∀ pre x rest hh, J pre hh → xs.Perm (pre ++ x :: rest) → ∀ R : Bool → Heap → Prop, (∀ hh', J (pre ++ [x]) hh' → Ext (NoMap hh) hh hh' → R true hh') →
      CallV Go.Proofs.Try.prog y [.lf (.int .u64 x)] hh [.one .bool] R) →
    ∀ R : Heap → Prop, (∀ ys h', ys.Perm xs → J ys h' → R h') → CallF Go.Proofs.Try.prog v [.lf (.raw y)] h1 [] R

/-- Gone through to the end: all was seen. -/
theorem seq156 {h : Heap} {b0 m : Nat} {l : List (Int × Int)} (hb : Blk h b0 89 [.map (some m)]) (M : MapR h m (.int .i64) (.one (.int .u64)) uF l) :
    SeqV (.func (.func 156) #[] #[.pointer (some ⟨b0, 0, none⟩)]) h (l.map (·.2)) := by
  intro h1 e01 y J hJ hst hrd R k
  refine ⟨156, [], [.lf (.ptr (some (b0, 0)))], _, _, rfl, Go.Proofs.Try.func156, rfl, ok156 ⟨some m, (hb.ext e01).cell rfl, ?_⟩⟩
  refine Iter.start (M.ext e01) fun it h2 hit hs2 e2 I2 => ?_
  have J2 : J [] h2 := hst _ _ _ hJ e2.of0
  refine ⟨fun hh n => ∃ seen, J (seen.map (·.2)) hh ∧ Iter hh it m (.int .i64) (.one (.int .u64)) uF l seen ∧ n = l.length - seen.length, ⟨_, [], J2, I2, rfl⟩, ?_⟩
  rintro h5 n ⟨seen, J5, I5, rfl⟩
  refine I5.next (fun hp => k _ _ (hp.map _) J5) fun x rest h10 hperm hs10 e10 I10 E10 => ⟨x.1, x.2, E10, ?_⟩
  have hi5 : IsIt h5 it := by
    obtain ⟨ps, done, rest', clock, sn, g1, _⟩ := I5.rep
    exact ⟨_, _, _, _, g1⟩
  have J10 : J (seen.map (·.2)) h10 := hst _ _ _ J5 (e10.mono fun i hi => by subst hi; exact ⟨hi5, by omega⟩)
  have hlen : l.length = seen.length + (rest.length + 1) := by have := hperm.length_eq; simpa using this
  refine hrd _ x.2 (rest.map (·.2)) h10 J10 (by simpa using hperm.map (·.2)) _ fun h14 J14 e14 => Br.f rfl ⟨l.length - (seen ++ [x]).length, by simp; omega, seen ++ [x], by simpa using J14, ?_, rfl⟩
  refine I10.ext e14 (fun hn => hn.2 ?_) fun hn => ?_
  · obtain ⟨ps, done, rest', clock, sn, g1, _⟩ := I10.rep
    exact ⟨_, _, _, _, g1⟩
  · obtain ⟨ps, done, rest', clock, sn, g1, g2, _⟩ := I10.rep
    exact hn.1 _ _ g2

theorem seq129 {β : Type} {h : Heap} {b0 m : Nat} {l : List (Int × β)} {f : β → List Lf} (hf : ∀ v, ∃ n, f v = [.int .i64 n]) (hb : Blk h b0 150 [.map (some m)]) (M : MapR h m (.int .u64) (.one (.int .i64)) f l) :
    SeqV (.func (.func 129) #[] #[.pointer (some ⟨b0, 0, none⟩)]) h (l.map (·.1)) := by
  intro h1 e01 y J hJ hst hrd R k
  refine ⟨129, [], [.lf (.ptr (some (b0, 0)))], _, _, rfl, Go.Proofs.Try.func129, rfl, ok129 ⟨some m, (hb.ext e01).cell rfl, ?_⟩⟩
  refine Iter.start (M.ext e01) fun it h2 hit hs2 e2 I2 => ?_
  have J2 : J [] h2 := hst _ _ _ hJ e2.of0
  refine ⟨fun hh n => ∃ seen, J (seen.map (·.1)) hh ∧ Iter hh it m (.int .u64) (.one (.int .i64)) f l seen ∧ n = l.length - seen.length, ⟨_, [], J2, I2, rfl⟩, ?_⟩
  rintro h5 n ⟨seen, J5, I5, rfl⟩
  refine I5.next (fun hp => k _ _ (hp.map _) J5) fun x rest h10 hperm hs10 e10 I10 E10 => ?_
  obtain ⟨nx, hnx⟩ := hf x.2
  rw [hnx] at E10
  refine ⟨x.1, nx, E10, ?_⟩
  have hi5 : IsIt h5 it := by
    obtain ⟨ps, done, rest', clock, sn, g1, _⟩ := I5.rep
    exact ⟨_, _, _, _, g1⟩
  have J10 : J (seen.map (·.1)) h10 := hst _ _ _ J5 (e10.mono fun i hi => by subst hi; exact ⟨hi5, by omega⟩)
  have hlen : l.length = seen.length + (rest.length + 1) := by have := hperm.length_eq; simpa using this
  refine hrd _ x.1 (rest.map (·.1)) h10 J10 (by simpa using hperm.map (·.1)) _ fun h14 J14 e14 => Br.f rfl ⟨l.length - (seen ++ [x]).length, by simp; omega, seen ++ [x], by simpa using J14, ?_, rfl⟩
  refine I10.ext e14 (fun hn => hn.2 ?_) fun hn => ?_
  · obtain ⟨ps, done, rest', clock, sn, g1, _⟩ := I10.rep
    exact ⟨_, _, _, _, g1⟩
  · obtain ⟨ps, done, rest', clock, sn, g1, g2, _⟩ := I10.rep
    exact hn.1 _ _ g2

/-- slices.AppendSeq, onto nil. -/
theorem c155 {h : Heap} {v : Value} {xs : List Int} (hv : SeqV v h xs) (hl : xs.length ≤ 4398046511104) {R : Slc → Heap → Prop}
    (k : ∀ ys s' h', ys.Perm xs → Own 1 uF h' s' ys → Fresh h h' s' → R s' h') : Call Go.Proofs.Try.prog 155 [.lf (.slc ⟨none, 0, 0⟩), .lf (.raw v)] h [.one .slc] R := by
  refine ok155 (New.mk fun b0 h1 hb0 hs1 e1 k1 lp => LoopC.mk fun D l h5 hD hll hs5 e5 hd5 ha5 hround => ?_)
  have e05 : Ext0 h h5 := e1.trans e5
  have hb0l : b0 < h5.size := by omega
  refine hv h5 e05 (yv l) (fun pre hh => ∃ s, LAt hh l lp ∧ hh[D]? = some (.deferred (some [])) ∧ Blk hh b0 77 [.slc s] ∧ Own 1 uF hh s pre ∧ (Ext0 h hh ∧ h5.size ≤ hh.size) ∧ (∀ b off, s.a = some (b, off) → h5.size ≤ b))
    ⟨⟨none, 0, 0⟩, ha5, hd5, k1.ext e5, Own.nil _ _ _, ⟨e05, Nat.le_refl _⟩, fun b off e => by cases e⟩ ?_ ?_ _ ?_
  · rintro pre hh hh' ⟨s, a1, a2, a3, a4, a5, a6⟩ e
    have hD : D < hh.size := size_pos_of_getElem? a2
    refine ⟨s, a1.ext e fun x => a1.noIt.2 x.1, (e.same D hD fun ⟨⟨_, _, _, _, x⟩, _⟩ => by rw [a2] at x; cases x).trans a2, a3.ext e fun x => a3.noIt.2 x.1, a4.ext e fun ⟨b, off, h1, x⟩ => (a4.noIt h1).2 x.1,
      ⟨a5.1.trans' e fun i hi x => ?_, Nat.le_trans a5.2 e.size⟩, a6⟩
    have := x.2; have := e05.size; omega
  · rintro pre x rest hh ⟨s, a1, a2, a3, a4, a5, a6⟩ hperm Q hQ
    refine hround hh Q a1 x (LBusy.mk a1 fun h9 hs9 e9 l9 => ?_)
    have hDl : ¬ D = l := by omega
    have hb0n : ¬ b0 = l := by omega
    have a3' : Blk h9 b0 77 [.slc s] := a3.ext e9 hb0n
    have a4' : Own 1 uF h9 s pre := a4.ext e9 fun ⟨b, off, h1, x⟩ => by have := a6 _ _ h1; have : b = l := x; omega
    refine ⟨s, a3'.cell rfl, New.mk fun b11 h12 hb11 hs12 e12 k12 => ?_⟩
    have ax : Arr 1 uF h12 ⟨some (b11, 0), 1, 1⟩ [x] := (Own.new (l := [x]) (sz := 1) (f := uF) uF_sized (by simpa [uF] using k12)).arr uF_sized
    have hlen : pre.length + 1 ≤ xs.length := by have := hperm.length_eq; simp at this; omega
    refine AppC.grow uF_sized (by omega) rfl (a4'.ext0 e12) ax (by simp; omega) fun s13 h14 o14 g14 => ?_
    have hb9 : b0 < h12.size := by have := a3'.lt; omega
    have a3'' : Blk h14 b0 77 [.slc s] := (a3'.ext e12).ext g14.ext fun ⟨off, x⟩ => by have := a6 _ _ x; omega
    refine StC.one a3'' (x := .slc s13) (by simp) fun h15 hs15 k15 e15 => ?_
    have hll9 : l < h9.size := size_pos_of_getElem? l9
    have new13 : ∀ b off, s13.a = some (b, off) → h5.size ≤ b := by
      intro b off hb
      rcases g14.new with g | ⟨b', g, gb⟩
      · exact a6 b off (g ▸ hb)
      · rw [g] at hb; cases hb
        have := a5.2; omega
    have l15 : h15[l]? = some (lobj lp .busy) := by
      rw [e15.same l (by have := g14.ext.size; omega) (by omega), g14.ext.same l (by omega) fun ⟨off, x⟩ => by have := a6 _ _ x; omega, e12.same l hll9 id]
      exact l9
    refine LReady.mk l15 fun h16 hs16 e16 l16 => ?_
    have E : Ext (fun b => b = l ∨ b = b0 ∨ ∃ off, s.a = some (b, off)) hh h16 :=
      ((((e9.mono fun i x => .inl x).trans e12.of0).trans (g14.ext.mono fun i x => .inr (.inr x))).trans (e15.mono fun i x => .inr (.inl x))).trans (e16.mono fun i x => .inl x)
    have hDs := size_pos_of_getElem? a2
    have hs0 := e05.size
    refine hQ h16 ⟨s13, l16, ?_, ?_, ?_, ⟨?_, ?_⟩, new13⟩ ?_
    · refine (E.same D hDs ?_).trans a2
      rintro (x | x | ⟨off, x⟩)
      · omega
      · omega
      · have := a6 _ _ x; omega
    · exact (by simpa using k15 : Blk h15 b0 77 [.slc s13]).ext e16 hb0n
    · exact (o14.ext e15 fun ⟨b, off, h1, x⟩ => by have := new13 _ _ h1; have : b = b0 := x; omega).ext e16 fun ⟨b, off, h1, x⟩ => by have := new13 _ _ h1; have : b = l := x; omega
    · refine a5.1.trans' E fun i hi x => ?_
      rcases x with x | x | ⟨off, x⟩
      · omega
      · omega
      · have := a6 _ _ x; omega
    · have := E.size; have := a5.2; omega
    · refine E.mono fun i x => ?_
      rcases x with rfl | rfl | ⟨off, x⟩
      · exact a1.noIt
      · exact a3.noIt
      · exact a4.noIt x
  · rintro ys h19 hp ⟨s, a1, a2, a3, a4, a5, a6⟩
    refine LEnd.mk a1 fun h20 hs20 e20 => ?_
    have hDl : ¬ D = l := by omega
    have hb0n : ¬ b0 = l := by omega
    have hDs := size_pos_of_getElem? a2
    refine ⟨s, (a3.ext e20 hb0n).cell rfl, CollC.mk ((e20.same D hDs hDl).trans a2) fun h22 hs22 e22 => k ys s h22 hp ?_ ⟨?_, fun b off hb => ?_⟩⟩
    · exact (a4.ext e20 fun ⟨b, off, h1, x⟩ => by have := a6 _ _ h1; have : b = l := x; omega).ext e22 fun ⟨b, off, h1, x⟩ => by have := a6 _ _ h1; have : b = D := x; omega
    · exact (a5.1.trans' e20 fun i hi x => by have : i = l := x; omega).trans' e22 fun i hi x => by have : i = D := x; omega
    · have := a6 _ _ hb; have := e05.size; omega

theorem sortI_perm {a b : List Int} (p : a.Perm b) : sortI a = sortI b := by
  have tr : ∀ a b c : Int, decide (a ≤ b) = true → decide (b ≤ c) = true → decide (a ≤ c) = true := by simp; omega
  have tot : ∀ a b : Int, (decide (a ≤ b) || decide (b ≤ a)) = true := by simp; omega
  have h1 := List.pairwise_mergeSort tr tot a
  have h2 := List.pairwise_mergeSort tr tot b
  have p' : (sortI a).Perm (sortI b) := ((List.mergeSort_perm a _).trans p).trans (List.mergeSort_perm b _).symm
  exact p'.eq_of_pairwise (fun x y _ _ h h' => by simp at h h'; omega) h1 h2

theorem c128 {h : Heap} {v : Value} {xs : List Int} (hv : SeqV v h xs) (hl : xs.length ≤ 4398046511104) {R : Slc → Heap → Prop}
    (k : ∀ ys s' h', ys.Perm xs → Own 1 uF h' s' ys → Fresh h h' s' → R s' h') : Call Go.Proofs.Try.prog 128 [.lf (.raw v)] h [.one .slc] R :=
  ok128 (c155 hv hl k)

theorem c95 {h : Heap} {v : Value} {xs : List Int} (hv : SeqV v h xs) (hl : xs.length ≤ 4398046511104) {R : Slc → Heap → Prop}
    (k : ∀ s' h', Own 1 uF h' s' (sortI xs) → Fresh h h' s' → R s' h') : Call Go.Proofs.Try.prog 95 [.lf (.raw v)] h [.one .slc] R := by
  refine ok95 (c128 hv hl fun ys s1 h1 hp o1 f1 => c93 o1 (by rw [hp.length_eq]; exact hl) fun h2 o2 e2 => k s1 h2 (sortI_perm hp ▸ o2) ⟨f1.ext.trans' e2 fun i hi ⟨off, hx⟩ => ?_, f1.new⟩)
  have := f1.new _ _ hx
  omega

end Go.V.Yteojmnnobmpdiaa
set_option linter.unusedVariables false
set_option linter.unusedSimpArgs false
/-! Rows of numbers that rise: plain laws. -/
namespace Go.V.Snap

def compA (x : Int) : List Int → List Int
  | [] => []
  | y :: l => if y = x then compA x l else y :: compA y l
/-- slices.Compact. -/
def comp : List Int → List Int
  | [] => []
  | x :: l => x :: compA x l

theorem compA_snoc (b : Int) : ∀ (p : List Int) (x : Int), compA x (p ++ [b]) = compA x p ++ (if b = p.getLast?.getD x then [] else [b])
  | [], x => by
    by_cases e : b = x
    · simp [compA, e]
    · simp [compA, e]
  | y :: p, x => by
    have hl : (y :: p).getLast?.getD x = p.getLast?.getD y := by
      cases p with
      | nil => rfl
      | cons z p => simp [List.getLast?_cons_cons]; cases hh : (z :: p).getLast? with
        | none => simp at hh
        | some w => simp
    simp only [List.cons_append, compA, hl]
    by_cases e : y = x
    · subst e; rw [if_pos rfl, if_pos rfl, compA_snoc b p y]
    · rw [if_neg e, if_neg e, compA_snoc b p y, List.cons_append]

theorem comp_snoc {p : List Int} {a b : Int} (h : p.getLast? = some a) : comp (p ++ [b]) = comp p ++ (if b = a then [] else [b]) := by
  cases p with
  | nil => simp at h
  | cons x p =>
    simp only [List.cons_append, comp, compA_snoc]
    have : p.getLast?.getD x = a := by
      cases p with
      | nil => simpa using h
      | cons y p => simp [List.getLast?_cons_cons] at h; simp [h]
    rw [this]

theorem comp_take {l : List Int} {n : Nat} {a b : Int} (hn : 1 ≤ n) (ha : l[n - 1]? = some a) (hb : l[n]? = some b) : comp (l.take (n + 1)) = comp (l.take n) ++ (if b = a then [] else [b]) := by
  rw [List.take_add_one, hb]
  refine comp_snoc ?_
  rw [List.getLast?_take]
  have : ¬ n = 0 := by omega
  simp [this, ha]

def SS (l : List Int) : Prop := l.Pairwise (· < ·)

theorem compA_spec : ∀ (l : List Int) (x : Int), l.Pairwise (· ≤ ·) → (∀ y ∈ l, x ≤ y) → SS (compA x l) ∧ (∀ y ∈ compA x l, x < y) ∧ ∀ y, y ∈ compA x l ↔ y ∈ l ∧ y ≠ x
  | [], x, _, _ => ⟨List.Pairwise.nil, by simp [compA], by simp [compA]⟩
  | z :: l, x, hp, hx => by
    obtain ⟨hz, hp⟩ := List.pairwise_cons.1 hp
    have hxz := hx z (by simp)
    unfold compA
    by_cases e : z = x
    · subst e
      rw [if_pos rfl]
      obtain ⟨h1, h2, h3⟩ := compA_spec l z hp hz
      refine ⟨h1, h2, fun y => ?_⟩
      rw [h3]
      simp only [List.mem_cons]
      constructor
      · exact fun h => ⟨.inr h.1, h.2⟩
      · exact fun h => ⟨h.1.resolve_left h.2, h.2⟩
    · rw [if_neg e]
      obtain ⟨h1, h2, h3⟩ := compA_spec l z hp hz
      refine ⟨List.pairwise_cons.2 ⟨h2, h1⟩, ?_, fun y => ?_⟩
      · intro y hy
        rcases List.mem_cons.1 hy with rfl | hy
        · omega
        · have := h2 y hy; omega
      · simp only [List.mem_cons, h3]
        constructor
        · rintro (rfl | ⟨h, h'⟩)
          · exact ⟨.inl rfl, e⟩
          · exact ⟨.inr h, by have := hz y h; omega⟩
        · rintro ⟨rfl | h, h'⟩
          · exact .inl rfl
          · by_cases e2 : y = z
            · exact .inl e2
            · exact .inr ⟨h, e2⟩

theorem comp_spec {l : List Int} (hp : l.Pairwise (· ≤ ·)) : SS (comp l) ∧ ∀ y, y ∈ comp l ↔ y ∈ l := by
  cases l with
  | nil => exact ⟨List.Pairwise.nil, fun _ => Iff.rfl⟩
  | cons x l =>
    obtain ⟨hx, hp⟩ := List.pairwise_cons.1 hp
    obtain ⟨h1, h2, h3⟩ := compA_spec l x hp hx
    refine ⟨List.pairwise_cons.2 ⟨h2, h1⟩, fun y => ?_⟩
    simp only [comp, List.mem_cons, h3]
    constructor
    · rintro (h | h)
      · exact .inl h
      · exact .inr h.1
    · rintro (h | h)
      · exact .inl h
      · by_cases e : y = x
        · exact .inl e
        · exact .inr ⟨h, e⟩

theorem comp_length (l : List Int) : (comp l).length ≤ l.length := by
  have key : ∀ (l : List Int) (x : Int), (compA x l).length ≤ l.length := by
    intro l
    induction l with
    | nil => intro x; simp [compA]
    | cons y l ih => intro x; unfold compA; split <;> simp <;> have := ih x <;> have := ih y <;> omega
  cases l with
  | nil => simp [comp]
  | cons x l => simp [comp]; exact key l x

/-- Two rising rows of the same numbers are one. -/
theorem SS.eq : ∀ {a b : List Int}, SS a → SS b → (∀ x, x ∈ a ↔ x ∈ b) → a = b
  | [], [], _, _, _ => rfl
  | [], y :: b, _, _, h => by have := (h y).2 (by simp); simp at this
  | x :: a, [], _, _, h => by have := (h x).1 (by simp); simp at this
  | x :: a, y :: b, ha, hb, h => by
    obtain ⟨hx, ha'⟩ := List.pairwise_cons.1 ha
    obtain ⟨hy, hb'⟩ := List.pairwise_cons.1 hb
    have e : x = y := by
      rcases List.mem_cons.1 ((h x).1 (by simp)) with e | e
      · exact e
      · rcases List.mem_cons.1 ((h y).2 (by simp)) with e' | e'
        · exact e'.symm
        · have := hx y e'; have := hy x e; omega
    subst e
    refine congrArg _ (SS.eq ha' hb' fun z => ?_)
    have := h z
    simp only [List.mem_cons] at this
    constructor
    · intro hz
      rcases this.1 (.inr hz) with e | e
      · have := hx z hz; omega
      · exact e
    · intro hz
      rcases this.2 (.inr hz) with e | e
      · have := hy z hz; omega
      · exact e

/-- How many of a rising row are less. -/
def below (l : List Int) (n : Int) : Nat := (l.takeWhile fun x => decide (x < n)).length
/-- With. -/
def withI (l : List Int) (n : Int) : List Int := if l[below l n]? = some n then l else l.take (below l n) ++ [n] ++ l.drop (below l n)

theorem below_le (l : List Int) (n : Int) : below l n ≤ l.length := (List.takeWhile_prefix _).length_le
theorem below_lt : ∀ (l : List Int) (n : Int) (i : Nat) (x : Int), i < below l n → l[i]? = some x → x < n
  | [], n, i, x, h, hx => by simp at hx
  | y :: l, n, i, x, h, hx => by
    unfold below at h
    rw [List.takeWhile_cons] at h
    split at h
    · rename_i hy
      cases i with
      | zero => simp at hx; subst hx; simpa using hy
      | succ i => exact below_lt l n i x (by unfold below; simpa using h) (by simpa using hx)
    · simp at h
theorem below_ge : ∀ (l : List Int) (n : Int) (x : Int), l[below l n]? = some x → n ≤ x
  | [], n, x, hx => by simp at hx
  | y :: l, n, x, hx => by
    unfold below at hx
    rw [List.takeWhile_cons] at hx
    split at hx
    · exact below_ge l n x (by unfold below; simpa using hx)
    · rename_i hy; simp at hx hy; omega

theorem SS.ge {l : List Int} (hs : SS l) {n : Int} : ∀ i x, below l n ≤ i → l[i]? = some x → n ≤ x := by
  intro i x hi hx
  have hlt : i < l.length := by
    rcases Nat.lt_or_ge i l.length with h | h
    · exact h
    · rw [List.getElem?_eq_none h] at hx; cases hx
  have h0 : l[below l n]? = some l[below l n] := by simp [show below l n < l.length by omega]
  have h1 := below_ge l n _ h0
  rcases Nat.lt_or_ge (below l n) i with h | h
  · have := List.pairwise_iff_getElem.1 hs (below l n) i (by omega) hlt h
    simp [hlt] at hx; omega
  · have : i = below l n := by omega
    subst this
    rw [hx] at h0; cases h0; exact h1

theorem withI_spec {l : List Int} (hs : SS l) (n : Int) : SS (withI l n) ∧ ∀ x, x ∈ withI l n ↔ x ∈ l ∨ x = n := by
  unfold withI
  split
  · rename_i h
    exact ⟨hs, fun x => ⟨.inl, fun h' => h'.elim id fun e => e ▸ List.mem_of_getElem? h⟩⟩
  · rename_i h
    have hsplit : ∀ x, x ∈ l ↔ x ∈ l.take (below l n) ∨ x ∈ l.drop (below l n) := fun x => by rw [← List.mem_append, List.take_append_drop]
    have h1 : ∀ x ∈ l.take (below l n), x < n := by
      intro x hx
      obtain ⟨i, hi, rfl⟩ := List.mem_iff_getElem.1 hx
      have hi' : i < below l n := by simp at hi; omega
      exact below_lt l n i _ hi' (by simp at hi ⊢)
    have h2 : ∀ x ∈ l.drop (below l n), n < x := by
      intro x hx
      obtain ⟨i, hi, rfl⟩ := List.mem_iff_getElem.1 hx
      have hi' : below l n + i < l.length := by simp at hi; omega
      have h3 : l[below l n + i]? = some (l.drop (below l n))[i] := by simp [hi']
      have h4 := hs.ge _ _ (Nat.le_add_right _ i) h3
      have h5 : (l.drop (below l n))[i] ≠ n := by
        intro e
        rw [e] at h3
        cases i with
        | zero => exact h (by simpa using h3)
        | succ i =>
          have hb : below l n < l.length := by omega
          have h0 : l[below l n]? = some l[below l n] := by simp [hb]
          have h6 := below_ge l n _ h0
          have := List.pairwise_iff_getElem.1 hs (below l n) (below l n + (i + 1)) hb hi' (by omega)
          simp [hi'] at h3
          omega
      omega
    refine ⟨?_, fun x => ?_⟩
    · unfold SS
      rw [List.append_assoc, List.pairwise_append]
      refine ⟨hs.sublist (List.take_sublist _ _), List.pairwise_cons.2 ⟨h2, hs.sublist (List.drop_sublist _ _)⟩, fun a ha b hb => ?_⟩
      have := h1 a ha
      rcases List.mem_cons.1 hb with rfl | hb
      · exact this
      · have := h2 b hb; omega
    · rw [hsplit x]
      simp only [List.mem_append, List.mem_singleton]
      constructor
      · rintro ((h | h) | h)
        · exact .inl (.inl h)
        · exact .inr h
        · exact .inl (.inr h)
      · rintro ((h | h) | h)
        · exact .inl (.inl h)
        · exact .inr h
        · exact .inl (.inr h)

theorem withI_length (l : List Int) (n : Int) : (withI l n).length ≤ l.length + 1 := by
  unfold withI
  split
  · omega
  · have := below_le l n; simp; omega

end Go.V.Snap
set_option linter.unusedVariables false
set_option linter.unusedSimpArgs false
/-! slices.Compact, slices.BinarySearch; With; numbers. -/
namespace Go.V.Yteojmnnobmpdiaa
open Go Go.V Go.V.Snap

theorem getE {l : List Int} {p : Nat} (h : p < l.length) : l[p]? = some l[p] := by simp [h]

theorem c130 {h : Heap} {s : Slc} {l : List Int} (o : Own 1 uF h s l) (hl : l.length ≤ 4398046511104) {R : Slc → Heap → Prop}
    (k : ∀ s' h', Own 1 uF h' s' (comp l) → Ext (inS s) h h' → s'.a = s.a → R s' h') : Call Go.Proofs.Try.prog 130 [.lf (.slc s)] h [.one .slc] R := by
  have hlen : s.len = l.length := o.len
  have hcap := o.lec
  refine ok130 (Br.dec (fun hlt => k s h ?_ (Ext.refl _ _) rfl) fun hge => ?_)
  · have : comp l = l := by
      match l, hlen with
      | [], _ => rfl
      | [x], _ => rfl
      | _ :: _ :: _, h => simp at h; omega
    rw [this]; exact o
  refine ⟨fun i hh n => ∃ p : Nat, i = p ∧ 1 ≤ p ∧ p ≤ l.length ∧ h = hh ∧ comp (l.take p) = l.take p ∧ n = l.length - p, ⟨_, 1, rfl, by omega, by omega, rfl, ?_, rfl⟩, ?_⟩
  · cases l with
    | nil => rfl
    | cons x l => simp [comp, compA]
  rintro _ _ _ ⟨p, rfl, hp1, hpl, rfl, hc, rfl⟩
  refine Br.dec (fun hlt => ?_) fun hge' => ?_
  · have hp : p < l.length := by omega
    refine (o.arr uF_sized).ix rfl (getE hp) fun b off hb => ⟨_, hb, (o.arr uF_sized).ix (k := p - 1) (by rw [wi64 (by omega) (by omega)]; omega) (getE (by omega)) fun b' off' hb' => ⟨_, hb', ?_⟩⟩
    have hct := comp_take hp1 (getE (l := l) (p := p - 1) (by omega)) (getE hp)
    refine Br.eq (fun e => ?_) fun e => ?_
    · rw [if_pos e, List.append_nil] at hct
      refine ⟨by omega, by omega, ?_⟩
      refine ⟨fun k1 k2 hh n => ∃ (q kk : Nat) (A : List Int), k1 = kk ∧ k2 = q ∧ 1 ≤ q ∧ p + q ≤ l.length ∧ Own 1 uF hh s A ∧ A.length = l.length ∧ A.take kk = comp (l.take (p + q)) ∧
        A.drop (p + q - 1) = l.drop (p + q - 1) ∧ kk ≤ p + q - 1 ∧ Ext (inS s) h hh ∧ n = l.length - (p + q),
        ⟨_, 1, p, l, rfl, rfl, by omega, by omega, o, rfl, ?_, rfl, by omega, Ext.refl _ _, rfl⟩, ?_⟩
      · rw [hct, hc]
      rintro _ _ h15 _ ⟨q, kk, A, rfl, rfl, hq, hpq, oA, hA, htk, hdr, hkk, x15, rfl⟩
      have hcapA := oA.lec
      have hlenA : s.len = A.length := oA.len
      have hsl : ((s.sub 1 (Int.toNat (p : Int)) s.len s.cap).len : Int) = (s.len : Int) - p := by simp [Slc.sub]; omega
      rw [hsl]
      have aS := (oA.arr uF_sized).sub (lo := p) (hi := s.len) (m := s.cap) (by omega) (by omega) hcap
      have hel : (A.take s.len).drop p = A.drop p := by rw [hlenA, List.take_length]
      rw [hel] at aS
      have hget : ∀ j, p + q - 1 ≤ j → A[j]? = l[j]? := by
        intro j hj
        have := congrArg (fun L => L[j - (p + q - 1)]?) hdr
        simp only [List.getElem?_drop] at this
        rwa [show p + q - 1 + (j - (p + q - 1)) = j by omega] at this
      refine Br.dec (fun hlt2 => ?_) fun hge2 => ?_
      · have hpq1 : p + q < l.length := by omega
        refine aS.ix (k := q) rfl (x := l[p + q]) (by rw [List.getElem?_drop, hget _ (by omega)]; exact getE hpq1) fun b off hb => ⟨_, hb, ?_⟩
        refine aS.ix (k := q - 1) (by rw [wi64 (by omega) (by omega)]; omega) (x := l[p + q - 1]) (by rw [List.getElem?_drop, show p + (q - 1) = p + q - 1 by omega, hget _ (by omega)]; exact getE (by omega)) fun b' off' hb' => ⟨_, hb', ?_⟩
        have hct2 := comp_take (l := l) (n := p + q) (by omega) (getE (p := p + q - 1) (by omega)) (getE hpq1)
        refine Br.ne (fun ne => ?_) fun e2 => ?_
        · rw [if_neg ne] at hct2
          refine aS.ix (k := q) rfl (x := l[p + q]) (by rw [List.getElem?_drop, hget _ (by omega)]; exact getE hpq1) fun b off hb => ⟨_, hb, ?_⟩
          refine IxC.set uF_sized oA (k := kk) rfl (by omega) (x := l[p + q]) rfl fun h28 hs28 o28 e28 => ?_
          refine ⟨l.length - (p + (q + 1)), by omega, q + 1, kk + 1, A.set kk l[p + q], by rw [wi64 (by omega) (by omega)]; omega, by rw [wi64 (by omega) (by omega)]; omega, by omega, by omega, o28, by simp [hA], ?_, ?_, by omega, x15.trans e28, rfl⟩
          · rw [← Nat.add_assoc, hct2, ← htk, List.take_add_one, List.take_set_of_le (Nat.le_refl _)]
            simp [show kk < A.length by omega]
          · rw [show p + (q + 1) - 1 = (p + q - 1) + 1 by omega, ← List.drop_drop, ← List.drop_drop (l := l), ← hdr, List.drop_drop, List.drop_drop]
            rw [List.drop_set_of_lt (by omega)]
        · rw [if_pos e2, List.append_nil] at hct2
          refine ⟨l.length - (p + (q + 1)), by omega, q + 1, kk, A, rfl, by rw [wi64 (by omega) (by omega)]; omega, by omega, by omega, oA, hA, by rw [← Nat.add_assoc, hct2, htk], ?_, by omega, x15, rfl⟩
          rw [show p + (q + 1) - 1 = (p + q - 1) + 1 by omega, ← List.drop_drop, hdr, List.drop_drop]
      · have hpe : p + q = l.length := by omega
        have hkl : kk ≤ A.length := by omega
        refine ⟨by omega, by omega, ?_⟩
        rw [show Int.toNat (kk : Int) = kk by simp]
        refine ClrC.tail uF_sized oA hkl rfl fun h31 hs31 o31 e31 => ⟨by omega, by omega, k _ h31 ?_ (x15.trans e31) (by simp [Slc.sub]; intro _; cases s.a <;> simp)⟩
        rw [htk, hpe, List.take_length] at o31
        exact o31
    · rw [if_neg e] at hct
      exact ⟨l.length - (p + 1), by omega, p + 1, by rw [wi64 (by omega) (by omega)]; omega, by omega, by omega, rfl, by rw [hct, hc, List.take_add_one, getE hp]; rfl, rfl⟩
  · have hpe : p = l.length := by omega
    rw [hpe, List.take_length] at hc
    exact k s h (by rw [hc]; exact o) (Ext.refl _ _) rfl

theorem below_eq {l : List Int} {t : Int} {i : Nat} (hi : i ≤ l.length) (h1 : ∀ k x, k < i → l[k]? = some x → x < t) (h2 : ∀ x, l[i]? = some x → t ≤ x) : below l t = i := by
  rcases Nat.lt_trichotomy (below l t) i with h | h | h
  · have hb : below l t < l.length := by omega
    have := below_ge l t _ (getE hb)
    have := h1 _ _ h (getE hb)
    omega
  · exact h
  · have hb : i < l.length := by have := below_le l t; omega
    have := below_lt l t i _ h (getE hb)
    have := h2 _ (getE hb)
    omega

theorem half {i j : Nat} (hi : i ≤ 4398046511104) (hj : j ≤ 4398046511104) : IntKind.wrap .i64 (shiftR .u64 (IntKind.wrap .u64 (IntKind.wrap .i64 ((i : Int) + j))) 1) = ((i + j) / 2 : Nat) := by
  rw [wi64 (n := (i : Int) + j) (by omega) (by omega), wu64 (by omega) (by omega)]
  have : shiftR .u64 ((i : Int) + j) 1 = (((i + j) / 2 : Nat) : Int) := by
    unfold shiftR
    rw [show (2 : Int) ^ (min (1 : Int).toNat IntKind.u64.bits) = 2 by rfl, Int.fdiv_eq_ediv_of_nonneg _ (by omega)]
    omega
  rw [this, wi64 (by omega) (by omega)]

theorem c132 {h : Heap} {s : Slc} {l : List Int} (a : Arr 1 uF h s l) (hs : SS l) (hl : l.length ≤ 4398046511104) {t : Int} {R : Int → Bool → Heap → Prop}
    (k : ∀ c h', h'.size = h.size → Ext0 h h' → R (below l t : Nat) c h') : Call Go.Proofs.Try.prog 132 [.lf (.slc s), .lf (.int .u64 t)] h [.one (.int .i64), .one .bool] R := by
  have hlen := a.len
  refine ok132 ⟨fun i j hh n => ∃ p q : Nat, i = p ∧ j = q ∧ p ≤ q ∧ q ≤ l.length ∧ (∀ k x, k < p → l[k]? = some x → x < t) ∧ (∀ k x, q ≤ k → l[k]? = some x → t ≤ x) ∧ h = hh ∧ n = q - p,
    ⟨_, 0, l.length, rfl, by rw [hlen], by omega, by omega, fun _ _ h _ => by omega, fun k x hk hx => (by rw [List.getElem?_eq_none hk] at hx; cases hx), rfl, rfl⟩, ?_⟩
  rintro _ _ _ _ ⟨p, q, rfl, rfl, hpq, hql, h1, h2, rfl, rfl⟩
  rw [half (by omega) (by omega)]
  refine Br.dec (fun hlt => ⟨by omega, ?_⟩) fun hge => ?_
  · have hm : (p + q) / 2 < l.length := by omega
    have mono : ∀ i j, (hij : i ≤ j) → (hj : j < l.length) → l[i]'(Nat.lt_of_le_of_lt hij hj) ≤ l[j] := by
      intro i j hij hj
      rcases Nat.lt_or_ge i j with h | h
      · have := List.pairwise_iff_getElem.1 hs i j (by omega) hj h; omega
      · have : i = j := by omega
        subst this; exact Int.le_refl _
    refine a.ix rfl (getE hm) fun b off hb => ⟨_, hb, c150 (Br.dec (fun c => ?_) fun c => ?_)⟩
    · refine ⟨q - ((p + q) / 2 + 1), by omega, (p + q) / 2 + 1, q, by rw [wi64 (by omega) (by omega)]; omega, rfl, by omega, hql, fun k x hk hx => ?_, h2, rfl, rfl⟩
      have hkl : k < l.length := by omega
      have := mono k ((p + q) / 2) (by omega) hm
      rw [getE hkl] at hx; cases hx
      omega
    · refine ⟨(p + q) / 2 - p, by omega, p, (p + q) / 2, rfl, rfl, by omega, by omega, h1, fun k x hk hx => ?_, rfl, rfl⟩
      have hkl : k < l.length := by
        rcases Nat.lt_or_ge k l.length with h | h
        · exact h
        · rw [List.getElem?_eq_none h] at hx; cases hx
      have := mono ((p + q) / 2) k hk hkl
      rw [getE hkl] at hx; cases hx
      omega
  · have hpe : p = q := by omega
    subst hpe
    have hbl := below_eq hql h1 (fun x hx => h2 p x (Nat.le_refl _) hx)
    have fin : ∀ c h', h'.size = h.size → Ext0 h h' → R (p : Int) c h' := fun c h' e1 e2 => hbl ▸ k c h' e1 e2
    refine Br.dec (fun hlt => ?_) fun _ => fin _ _ rfl (Ext.refl _ _)
    have hp : p < l.length := by omega
    refine a.ix rfl (getE hp) fun b off hb => ⟨_, hb, Br.eq (fun e => fin _ _ rfl (Ext.refl _ _)) fun e => a.ix rfl (getE hp) fun b off hb => ⟨_, hb, ?_⟩⟩
    refine ok157 ?_
    unfold vc157
    rw [show (l[p] != l[p]) = false by simp]
    exact Br.f rfl (fin _ _ rfl (Ext.refl _ _))

end Go.V.Yteojmnnobmpdiaa
set_option linter.unusedVariables false
set_option linter.unusedSimpArgs false
/-! The document's With; numbers. -/
namespace Go.V.Yteojmnnobmpdiaa
open Go Go.V Go.V.Snap

theorem c94 {h : Heap} {s : Slc} {l : List Int} (o : Own 1 uF h s l) (hl : l.length ≤ 4398046511104) {n : Int} {R : Slc → Heap → Prop}
    (k : ∀ s' h', Own 1 uF h' s' (withI l n) → Ext0 h h' → (s'.a = s.a ∨ ∃ b, s'.a = some (b, 0) ∧ h.size ≤ b) → R s' h') : Call Go.Proofs.Try.prog 94 [.lf (.slc s), .lf (.int .u64 n)] h [.one .slc] R := by
  have hlen : s.len = l.length := o.len
  have hcap := o.lec
  have a := o.arr uF_sized
  have hb := below_le l n
  refine ok94 ⟨fun i hh => i = (below l n : Nat) ∧ h = hh, ⟨fun i hh m => ∃ p : Nat, i = p ∧ p ≤ below l n ∧ h = hh ∧ m = l.length - p, ⟨_, 0, rfl, by omega, rfl, rfl⟩, ?_⟩, ?_⟩
  · rintro _ _ _ ⟨p, rfl, hp, rfl, rfl⟩
    refine Br.dec (fun hlt => a.ix rfl (getE (by omega)) fun b off hb' => ⟨_, hb', Br.dec (fun c => ?_) fun c => ⟨?_, rfl⟩⟩) fun hge => ⟨by omega, rfl⟩
    · have hpl : p < l.length := by omega
      refine ⟨l.length - (p + 1), by omega, p + 1, by rw [wi64 (by omega) (by omega)]; omega, ?_, rfl, rfl⟩
      rcases Nat.lt_or_ge p (below l n) with h1 | h1
      · omega
      · have : p = below l n := by omega
        have h2 := below_ge l n l[p] (by rw [← this]; exact getE hpl)
        omega
    · have hpl : p < l.length := by omega
      rcases Nat.lt_or_ge p (below l n) with h1 | h1
      · have := below_lt l n p l[p] h1 (getE hpl); omega
      · have : p = below l n := by omega
        omega
  rintro _ _ ⟨rfl, rfl⟩
  refine ⟨fun hh => h = hh ∧ l[below l n]? ≠ some n, Br.dec (fun hlt => ?_) fun hge => ⟨rfl, ?_⟩, ?_⟩
  · have hbl : below l n < l.length := by omega
    refine a.ix rfl (getE hbl) fun b off hb' => ⟨_, hb', Br.eq (fun e => ?_) fun e => ⟨rfl, fun h => e ?_⟩⟩
    · have hw : withI l n = l := by unfold withI; rw [if_pos (by rw [getE hbl, e])]
      exact k s h (by rw [hw]; exact o) (Ext.refl _ _) (.inl rfl)
    · rw [getE hbl] at h; exact Option.some.inj h
  · have : l[below l n]? = none := List.getElem?_eq_none (by omega)
    rw [this]; simp
  rintro _ ⟨rfl, hne⟩
  have hw : withI l n = l.take (below l n) ++ [n] ++ l.drop (below l n) := by unfold withI; rw [if_neg hne]
  refine New.mk fun b17 h18 hb17 hs18 e18 k18 => ⟨by omega, by omega, ?_⟩
  have o18 : Own 1 uF h18 ⟨some (b17, 0), 0, 0⟩ ([] : List Int) := Own.new (l := ([] : List Int)) (sz := 1) (f := uF) uF_sized (by simpa using k18)
  rw [show Int.toNat ((below l n : Nat) : Int) = below l n by simp]
  have a1 : Arr 1 uF h18 (s.sub 1 0 (below l n) s.cap) (l.take (below l n)) := by
    have := (a.ext0 e18).sub (lo := 0) (hi := below l n) (m := s.cap) (Nat.zero_le _) hb (by omega)
    simpa using this
  refine AppC.grow uF_sized (by omega) rfl o18 a1 (by simp; omega) fun s19 h20 o20 g20 => ?_
  refine New.mk fun b21 h22 hb21 hs22 e22 k22 => ?_
  have a2 : Arr 1 uF h22 ⟨some (b21, 0), 1, 1⟩ [n] := (Own.new (l := [n]) (sz := 1) (f := uF) uF_sized (by simpa [uF] using k22)).arr uF_sized
  refine AppC.grow uF_sized (by omega) rfl (o20.ext0 e22) a2 (by simp; omega) fun s23 h24 o24 g24 => ⟨by omega, by omega, ?_⟩
  have f18 : Fresh h h18 ⟨some (b17, 0), 0, 0⟩ := ⟨e18, fun b off e => by cases e; omega⟩
  have f24 : Fresh h h24 s23 := ((f18.grow g20).ext0 e22).grow g24
  have a3 : Arr 1 uF h24 (s.sub 1 (below l n) s.len s.cap) (l.drop (below l n)) := by
    have := (a.ext f24.ext fun ⟨_, _, _, x⟩ => x).sub (lo := below l n) (hi := s.len) (m := s.cap) (by omega) (by omega) hcap
    rw [hlen] at this ⊢
    rwa [List.take_length] at this
  refine AppC.grow uF_sized (by omega) rfl o24 a3 (by simp; omega) fun s25 h26 o26 g26 => ?_
  have f26 := f24.grow g26
  refine k s25 h26 (by rw [hw]; simpa using o26) f26.ext (.inr ?_)
  rcases o26.blk with ⟨hn, hc⟩ | ⟨b, c, e, ha, _⟩
  · have := o26.len; have := o26.lec; simp at *; omega
  · exact ⟨b, ha, f26.new _ _ ha⟩

/-- Whether two rows are alike; the first is written over. -/
theorem c40 {h : Heap} {s t : Slc} {l m : List Int} (o : Own 1 uF h s l) (a : Arr 1 uF h t m) (hl : l.length ≤ 4398046511104) (hd : ∀ b off, s.a = some (b, off) → ∀ off', t.a ≠ some (b, off')) {R : Bool → Heap → Prop}
    (k : ∀ h', Ext (inS s) h h' → R (decide (l = m)) h') : Call Go.Proofs.Try.prog 40 [.lf (.slc s), .lf (.slc t)] h [.one .bool] R := by
  have hlen : s.len = l.length := o.len
  have hlt : t.len = m.length := a.len
  refine ok40 (Br.ne (fun ne => ?_) fun e => ?_)
  · have := k h (Ext.refl _ _)
    rwa [show decide (l = m) = false by simp; rintro rfl; omega] at this
  have hlm : l.length = m.length := by omega
  refine ⟨fun i hh n => ∃ (p : Nat) (A : List Int), i = p ∧ p ≤ l.length ∧ Own 1 uF hh s A ∧ A.length = l.length ∧ A.drop p = l.drop p ∧ l.take p = m.take p ∧ Ext (inS s) h hh ∧ n = l.length - p,
    ⟨_, 0, l, rfl, by omega, o, rfl, rfl, by simp, Ext.refl _ _, rfl⟩, ?_⟩
  rintro _ h3 _ ⟨p, A, rfl, hp, oA, hA, hdr, htk, x3, rfl⟩
  have a3 : Arr 1 uF h3 t m := a.ext x3 fun ⟨b, off, h1, off', h2⟩ => hd b off' h2 off h1
  refine Br.dec (fun hlt => ?_) fun hge => ?_
  · have hpl : p < l.length := by omega
    have hget : A[p]? = some l[p] := by
      have := congrArg (fun L => L[0]?) hdr
      simp only [List.getElem?_drop, Nat.add_zero] at this
      rw [this]; exact getE hpl
    refine (oA.arr uF_sized).ix rfl hget fun b off hb => ⟨_, hb, a3.ix rfl (getE (l := m) (p := p) (by omega)) fun b' off' hb' => ⟨_, hb', Br.ne (fun ne => ?_) fun e => ?_⟩⟩
    · have := k h3 x3
      rwa [show decide (l = m) = false by simp; rintro rfl; exact ne rfl] at this
    · refine IxC.set uF_sized oA (k := p) rfl (by omega) (x := 77) rfl fun h13 hs13 o13 e13 => ?_
      refine ⟨l.length - (p + 1), by omega, p + 1, A.set p 77, by rw [wi64 (by omega) (by omega)]; omega, by omega, o13, by simp [hA], ?_, ?_, x3.trans e13, rfl⟩
      · rw [List.drop_set_of_lt (by omega), ← List.drop_drop, hdr, List.drop_drop]
      · rw [List.take_add_one, List.take_add_one, htk, getE hpl, getE (l := m) (p := p) (by omega)]
        simp [e]
  · have hpe : p = l.length := by omega
    have := k h3 x3
    rwa [show decide (l = m) = true by
      simp
      rw [hpe, List.take_length] at htk
      rw [hlm, List.take_length] at htk
      exact htk] at this

end Go.V.Yteojmnnobmpdiaa
