/- This text proves a part of the laws of seat Ytclffphegfhocaa, under no condition: B4m. -/
import Derived.Test.YtclffphegfhocaaED
import Derived.Test.YtclffphegfhocaaFJ
import Derived.Test.YtclffphegfhocaaFK
set_option linter.unusedVariables false
set_option linter.unusedSimpArgs false
/-! slices.Compact of rising numbers. -/
namespace Go.V.Ytclffphegfhocaa
open Go Go.V

/-- Strictly rising. -/
def Asc (l : List Int) : Prop := l.Pairwise (· < ·)
def Rise (l : List Int) : Prop := l.Pairwise (· ≤ ·)

theorem asc_ext : ∀ {a b : List Int}, Asc a → Asc b → (∀ x, x ∈ a ↔ x ∈ b) → a = b
  | [], [], _, _, _ => rfl
  | [], y :: b, _, _, h => absurd ((h y).2 (List.mem_cons_self ..)) (by simp)
  | x :: a, [], _, _, h => absurd ((h x).1 (List.mem_cons_self ..)) (by simp)
  | x :: a, y :: b, ha, hb, h => by
    have ha' := List.pairwise_cons.1 ha
    have hb' := List.pairwise_cons.1 hb
    have hxy : x = y := by
      rcases List.mem_cons.1 ((h x).1 (List.mem_cons_self ..)) with e | e
      · exact e
      rcases List.mem_cons.1 ((h y).2 (List.mem_cons_self ..)) with e' | e'
      · exact e'.symm
      have := hb'.1 x e
      have := ha'.1 y e'
      omega
    subst hxy
    rw [asc_ext ha'.2 hb'.2 fun z => ?_]
    constructor
    · intro hz
      rcases List.mem_cons.1 ((h z).1 (List.mem_cons_of_mem _ hz)) with e | e
      · have := ha'.1 z hz; omega
      · exact e
    · intro hz
      rcases List.mem_cons.1 ((h z).2 (List.mem_cons_of_mem _ hz)) with e | e
      · have := hb'.1 z hz; omega
      · exact e

theorem asc_snoc {l : List Int} {x : Int} (h : Asc l) (hx : ∀ y ∈ l, y < x) : Asc (l ++ [x]) := by
  unfold Asc
  rw [List.pairwise_append]
  exact ⟨h, by simp, fun a ha b hb => by simp only [List.mem_singleton] at hb; subst hb; exact hx a ha⟩

theorem rise_at {l : List Int} (h : Rise l) {i j : Nat} (hij : i ≤ j) (hj : j < l.length) : l[i] ≤ l[j] := by
  rcases Nat.eq_or_lt_of_le hij with e | e
  · subst e; exact Int.le_refl _
  · exact List.pairwise_iff_getElem.1 h i j (by omega) hj e

theorem mem_take_le {l : List Int} (h : Rise l) {n : Nat} (hn : n < l.length) {y : Int} (hy : y ∈ l.take (n + 1)) : y ≤ l[n] := by
  obtain ⟨i, hi, rfl⟩ := List.mem_iff_getElem.1 hy
  rw [List.getElem_take]
  simp only [List.length_take] at hi
  exact rise_at h (by omega) hn

theorem take_set_succ {l : List Int} {i : Nat} (h : i < l.length) (x : Int) : (l.set i x).take (i + 1) = l.take i ++ [x] := by
  rw [List.take_succ_eq_append_getElem (by simpa using h), List.getElem_set_self, List.take_set_of_le (Nat.le_refl _)]

theorem c67 {h : Heap} {s : Slc} {l : List Int} (o : Own 1 uF h s l) (hr : Rise l) (hl : l.length ≤ 4398046511104) {R : Slc → Heap → Prop}
    (k : ∀ s' h' t, Own 1 uF h' s' t → Asc t → (∀ x, x ∈ t ↔ x ∈ l) → (∀ b off, s'.a = some (b, off) → ∃ off', s.a = some (b, off')) → Ext (inS s) h h' → R s' h') :
    Call Go.Proofs.Try.prog 67 [.lf (.slc s)] h [.one .slc] R := by
  have hlen := o.len
  have hlec := o.lec
  refine ok67 (Br.dec (fun c => ?_) fun c => ?_)
  · refine k s h l o ?_ (fun _ => Iff.rfl) (fun b off z => ⟨off, z⟩) (Ext.refl _ _)
    match l, hlen with
    | [], _ => exact List.Pairwise.nil
    | [x], _ => exact List.pairwise_singleton ..
    | x :: y :: r, hlen => simp only [List.length_cons] at hlen; omega
  refine ⟨fun i hh d => ∃ q : Nat, i = q ∧ 1 ≤ q ∧ q ≤ l.length ∧ h = hh ∧ Asc (l.take q) ∧ d = l.length - q, ⟨_, 1, rfl, Nat.le_refl _, by omega, rfl, ?_, rfl⟩, ?_⟩
  · match l, hlen with
    | [], _ => exact List.Pairwise.nil
    | x :: r, _ => exact List.pairwise_singleton ..
  rintro _ _ _ ⟨q, rfl, hq1, hq, rfl, ha, rfl⟩
  rw [hlen]
  refine Br.dec (fun c2 => ?_) fun c2 => ?_
  · have hql : q < l.length := by omega
    have hq1l : q - 1 < l.length := by omega
    have e1 : IntKind.wrap .i64 ((q : Int) - 1) = ((q - 1 : Nat) : Int) := by rw [wi64 (by omega) (by omega)]; omega
    rw [e1]
    refine (o.arr uF_sized).ix rfl (List.getElem?_eq_getElem hql) fun b5 b6 hb5 => ⟨_, hb5, (o.arr uF_sized).ix rfl (List.getElem?_eq_getElem hq1l) fun b8 b9 hb8 => ⟨_, hb8, Br.eq (fun ce => ?_) fun ce => ?_⟩⟩
    · refine ⟨by omega, by omega, ?_⟩
      refine ⟨fun i m hh d => ∃ (p n : Nat) (e : List Int), i = p ∧ m = n ∧ 1 ≤ n ∧ q ≤ p ∧ p + 1 ≤ q + n ∧ q + n ≤ l.length ∧ e.length = l.length ∧ Own 1 uF hh s e ∧ Asc (e.take p) ∧ (∀ x, x ∈ e.take p ↔ x ∈ l.take (q + n)) ∧ e.drop (q + n - 1) = l.drop (q + n - 1) ∧ Ext (inS s) h hh ∧ d = l.length - (q + n),
        ⟨_, q, 1, l, rfl, rfl, Nat.le_refl _, Nat.le_refl _, by omega, by omega, rfl, o, ha, fun x => ?_, rfl, Ext.refl _ _, rfl⟩, ?_⟩
      · rw [List.take_succ_eq_append_getElem hql]
        simp only [List.mem_append, List.mem_singleton]
        constructor
        · exact .inl
        · rintro (z | z)
          · exact z
          · rw [z, ce]
            exact List.mem_iff_getElem.2 ⟨q - 1, by simp; omega, by simp⟩
      rintro _ _ h15 _ ⟨p, n, e, rfl, rfl, hn1, hp, hpn, hqn, hel, oe, hae, hme, hde, xe, rfl⟩
      have hsl : (s.sub 1 (q : Int).toNat l.length s.cap).len = l.length - q := by simp [Slc.sub]
      have oslen := oe.len
      have asub := (oe.arr uF_sized).sub (lo := q) (hi := e.length) (m := s.cap) (by omega) (Nat.le_refl _) (by omega)
      rw [List.take_length] at asub
      have hss : s.sub 1 (q : Int).toNat l.length s.cap = s.sub 1 q e.length s.cap := by rw [hel]; rfl
      rw [hsl, hss]
      refine Br.dec (fun c3 => ?_) fun c3 => ?_
      · have hx : (e.drop q)[n]? = some (l[q + n]'(by omega)) := by
          have h1 : (e.drop (q + n - 1))[1]? = (l.drop (q + n - 1))[1]? := by rw [hde]
          rw [List.getElem?_drop] at h1 ⊢
          rw [List.getElem?_drop] at h1
          rw [show q + n - 1 + 1 = q + n by omega] at h1
          rw [h1]
          exact List.getElem?_eq_getElem _
        have hx' : (e.drop q)[n - 1]? = some (l[q + n - 1]'(by omega)) := by
          have h1 : (e.drop (q + n - 1))[0]? = (l.drop (q + n - 1))[0]? := by rw [hde]
          rw [List.getElem?_drop] at h1 ⊢
          rw [List.getElem?_drop] at h1
          rw [show q + n - 1 + 0 = q + n - 1 by omega] at h1
          rw [show q + (n - 1) = q + n - 1 by omega, h1]
          exact List.getElem?_eq_getElem _
        have e2 : IntKind.wrap .i64 ((n : Int) - 1) = ((n - 1 : Nat) : Int) := by rw [wi64 (by omega) (by omega)]; omega
        rw [e2]
        have hlt : q + n < l.length := by omega
        have hdrop : ∀ {e' : List Int}, e'.drop (q + n) = e.drop (q + n) → e'.drop (q + (n + 1) - 1) = l.drop (q + (n + 1) - 1) := by
          intro e' he'
          have : l.drop (q + n) = e.drop (q + n) := by
            have h1 := congrArg (List.drop 1) hde
            rw [List.drop_drop, List.drop_drop, show q + n - 1 + 1 = q + n by omega] at h1
            exact h1.symm
          rw [show q + (n + 1) - 1 = q + n by omega, he', this]
        have hmem : ∀ x, x ∈ l.take (q + (n + 1)) ↔ x ∈ l.take (q + n) ∨ x = l[q + n] := by
          intro x
          rw [← Nat.add_assoc, List.take_succ_eq_append_getElem hlt]
          simp only [List.mem_append, List.mem_singleton]
        refine asub.ix rfl hx fun b17 b18 hb17 => ⟨_, hb17, asub.ix rfl hx' fun b20 b21 hb20 => ⟨_, hb20, Br.ne (fun cn => ?_) fun cn => ?_⟩⟩
        · have hlow : ∀ y ∈ e.take p, y < l[q + n] := by
            intro y hy
            have h1 := (hme y).1 hy
            rw [show q + n = q + n - 1 + 1 by omega] at h1
            have h2 := mem_take_le hr (n := q + n - 1) (by omega) h1
            have h3 := rise_at hr (i := q + n - 1) (j := q + n) (by omega) hlt
            have h4 : l[q + n] ≠ l[q + n - 1] := cn
            omega
          refine asub.ix rfl hx fun b23 b24 hb23 => ⟨_, hb23, IxC.set uF_sized oe (k := p) (x := l[q + n]) rfl (by omega) rfl fun h28 hs28 o28 e28 => ⟨l.length - (q + (n + 1)), by omega, p + 1, n + 1, _, by rw [wi64 (by omega) (by omega)]; omega, by rw [wi64 (by omega) (by omega)]; omega, by omega, by omega, by omega, by omega, by simpa using hel, o28, ?_, ?_, hdrop ?_, xe.trans e28, rfl⟩⟩
          · rw [take_set_succ (by omega)]; exact asc_snoc hae hlow
          · intro x
            rw [take_set_succ (by omega), hmem]
            simp only [List.mem_append, List.mem_singleton, hme]
          · rw [List.drop_set_of_lt (by omega)]
        · refine ⟨l.length - (q + (n + 1)), by omega, p, n + 1, e, rfl, by rw [wi64 (by omega) (by omega)]; omega, by omega, hp, by omega, by omega, hel, oe, hae, ?_, hdrop rfl, xe, rfl⟩
          intro x
          rw [hmem, hme]
          constructor
          · exact .inl
          · rintro (z | z)
            · exact z
            · have cn : l[q + n] = l[q + n - 1] := cn
              rw [z, cn]
              exact List.mem_iff_getElem.2 ⟨q + n - 1, by simp; omega, by simp⟩
      · have hend : q + n = l.length := by omega
        refine ⟨by omega, by omega, ?_⟩
        rw [← hlen]
        exact (ClrC.tail uF_sized oe (n := p) (by omega) rfl fun h31 hs31 o31 e31 => ⟨by omega, by omega, k _ h31 _ o31 hae (fun x => by rw [hme, hend, List.take_length]) (fun b off z => ⟨off, by
            unfold Slc.sub at z
            cases hsa : s.a with
            | none => rw [hsa] at z; simp at z
            | some w => rw [hsa] at z; simpa using z⟩) (xe.trans e31)⟩)
    · refine ⟨l.length - (q + 1), by omega, q + 1, by rw [wi64 (by omega) (by omega)]; omega, by omega, by omega, rfl, ?_, rfl⟩
      rw [List.take_succ_eq_append_getElem hql]
      refine asc_snoc ha fun y hy => ?_
      have h1 : y ≤ l[q - 1] := mem_take_le hr (n := q - 1) hq1l (by rw [show q - 1 + 1 = q by omega]; exact hy)
      have h2 := rise_at hr (i := q - 1) (j := q) (by omega) hql
      have h3 : l[q] ≠ l[q - 1] := ce
      omega
  · obtain rfl : q = l.length := by omega
    rw [List.take_length] at ha
    exact k s h l o ha (fun _ => Iff.rfl) (fun b off z => ⟨off, z⟩) (Ext.refl _ _)

end Go.V.Ytclffphegfhocaa
