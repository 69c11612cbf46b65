/- This text proves a part of the laws of seat YtdeihieblljfcaaDoor, under no condition: S2f. -/
import Derived.Test.YtdeihieblljfcaaDoorSK
import Derived.Test.YtdeihieblljfcaaDoorSM
set_option linter.unusedVariables false
set_option linter.unusedSimpArgs false
/-! A line's words: a text goes rune by rune. -/
namespace Go.V.YtdeihieblljfcaaDoor
open Go Go.V Go.Lib Go.Proofs

theorem get_tx {l : Tx} {j : Nat} (h : j < l.length) : (tx l).get! j = l[j] := by
  have : (tx l).get! j = l.toArray[j]! := rfl
  rw [this]
  simp [h]

/-- A rune, as far as spaces go. -/
theorem dec_spec {l : Tx} {p : Nat} (hp : p < l.length) :
    p + decW (tx l) p ≤ l.length ∧ 1 ≤ decW (tx l) p ∧ (l[p] = 32 → decR (tx l) p = 32 ∧ decW (tx l) p = 1) ∧
    (l[p] ≠ 32 → decR (tx l) p ≠ 32 ∧ ∀ j (hj : j < l.length), p ≤ j → j < p + decW (tx l) p → l[j] ≠ 32) := by
  have hb0 : ((tx l).get! (p + 0)).toNat = l[p].toNat := by rw [Nat.add_zero, get_tx hp]
  have big : ∀ {j : Nat} (hj : j < l.length), l[j].toNat / 64 = 2 → l[j] ≠ 32 := fun hj h x => by rw [x] at h; exact absurd h (by decide)
  have hsz : (tx l).size = l.length := tx_size l
  have key : ∀ r w : Nat, Utf8.decode (tx l) p = (r, w) → (p + w ≤ l.length ∧ 1 ≤ w ∧ (l[p] = 32 → r = 32 ∧ w = 1) ∧ (l[p] ≠ 32 → r ≠ 32 ∧ ∀ j (hj : j < l.length), p ≤ j → j < p + w → l[j] ≠ 32)) →
      p + decW (tx l) p ≤ l.length ∧ 1 ≤ decW (tx l) p ∧ (l[p] = 32 → decR (tx l) p = 32 ∧ decW (tx l) p = 1) ∧
      (l[p] ≠ 32 → decR (tx l) p ≠ 32 ∧ ∀ j (hj : j < l.length), p ≤ j → j < p + decW (tx l) p → l[j] ≠ 32) := fun r w e k => by
    unfold decW decR
    rw [e]
    obtain ⟨k1, k2, k3, k4⟩ := k
    refine ⟨k1, k2, fun x => ⟨by have := (k3 x).1; show (r : Int) = 32; omega, (k3 x).2⟩, fun x => ⟨by have := (k4 x).1; show (r : Int) ≠ 32; omega, (k4 x).2⟩⟩
  have one : ∀ r : Nat, Utf8.decode (tx l) p = (r, 1) → (l[p] = 32 → r = 32) → (l[p] ≠ 32 → r ≠ 32) →
      p + decW (tx l) p ≤ l.length ∧ 1 ≤ decW (tx l) p ∧ (l[p] = 32 → decR (tx l) p = 32 ∧ decW (tx l) p = 1) ∧
      (l[p] ≠ 32 → decR (tx l) p ≠ 32 ∧ ∀ j (hj : j < l.length), p ≤ j → j < p + decW (tx l) p → l[j] ≠ 32) := fun r e k1 k2 =>
    key r 1 e ⟨by omega, by omega, fun x => ⟨k1 x, rfl⟩, fun x => ⟨k2 x, fun j hj h1 h2 => by
      have : j = p := by omega
      subst this; exact x⟩⟩
  have h32 : l[p] = 32 ↔ l[p].toNat = 32 := by rw [← UInt8.toNat_inj]; rfl
  unfold Utf8.decode at key one
  simp only [hb0, hsz] at key one
  by_cases c1 : l[p].toNat < 128
  · simp only [if_pos c1] at one
    exact one _ rfl (fun x => h32.1 x) (fun x y => x (h32.2 y))
  have ne32 : l[p] ≠ 32 := fun x => by have := h32.1 x; omega
  simp only [if_neg c1] at key one
  have err : Utf8.runeError ≠ 32 := by decide
  have c65 : (65533 : Nat) ≠ 32 := by decide
  split at key
  · rename_i c2
    split at key
    · rename_i c3
      simp only [Bool.and_eq_true, decide_eq_true_eq, beq_iff_eq] at c2
      refine key _ 2 rfl ⟨by omega, by omega, fun x => absurd x ne32, fun _ => ⟨by omega, fun j hj h1 h2 => ?_⟩⟩
      have : j = p ∨ j = p + 1 := by omega
      rcases this with rfl | rfl
      · exact ne32
      · refine big hj ?_
        have := c2.2.2
        rw [get_tx hj] at this
        exact this
    · exact key _ 1 rfl ⟨by omega, by omega, fun x => absurd x ne32, fun _ => ⟨err, fun j hj h1 h2 => by
        have : j = p := by omega
        subst this; exact ne32⟩⟩
  split at key
  · rename_i c2
    split at key
    · rename_i c3
      simp only [Bool.and_eq_true, decide_eq_true_eq, beq_iff_eq] at c2 c3
      refine key _ 3 rfl ⟨by omega, by omega, fun x => absurd x ne32, fun _ => ⟨by omega, fun j hj h1 h2 => ?_⟩⟩
      have : j = p ∨ j = p + 1 ∨ j = p + 2 := by omega
      rcases this with rfl | rfl | rfl
      · exact ne32
      · refine big hj ?_
        have := c2.1.2.2
        rw [get_tx hj] at this
        exact this
      · refine big hj ?_
        have := c2.2.2
        rw [get_tx hj] at this
        exact this
    · exact key _ 1 rfl ⟨by omega, by omega, fun x => absurd x ne32, fun _ => ⟨err, fun j hj h1 h2 => by
        have : j = p := by omega
        subst this; exact ne32⟩⟩
  split at key
  · rename_i c2
    split at key
    · rename_i c3
      simp only [Bool.and_eq_true, decide_eq_true_eq, beq_iff_eq] at c2 c3
      refine key _ 4 rfl ⟨by omega, by omega, fun x => absurd x ne32, fun _ => ⟨by omega, fun j hj h1 h2 => ?_⟩⟩
      have : j = p ∨ j = p + 1 ∨ j = p + 2 ∨ j = p + 3 := by omega
      rcases this with rfl | rfl | rfl | rfl
      · exact ne32
      · refine big hj ?_
        have := c2.1.1.2.2
        rw [get_tx hj] at this
        exact this
      · refine big hj ?_
        have := c2.1.2.2
        rw [get_tx hj] at this
        exact this
      · refine big hj ?_
        have := c2.2.2
        rw [get_tx hj] at this
        exact this
    · exact key _ 1 rfl ⟨by omega, by omega, fun x => absurd x ne32, fun _ => ⟨err, fun j hj h1 h2 => by
        have : j = p := by omega
        subst this; exact ne32⟩⟩
  · exact key _ 1 rfl ⟨by omega, by omega, fun x => absurd x ne32, fun _ => ⟨err, fun j hj h1 h2 => by
      have : j = p := by omega
      subst this; exact ne32⟩⟩

def sF : Tx → List Lf := fun w => [.str (tx w)]
theorem sF_sized : Sized 1 sF := fun _ => rfl
def spF : Nat × Nat → List Lf := fun p => [.int .i64 (p.1 : Int), .int .i64 (p.2 : Int)]
theorem spF_sized : Sized 2 spF := fun _ => rfl

theorem v46 {r : Int} {h : Heap} {R : Bool → Heap → Prop} (k : R (r == 32) h) : CallV Tryd.prog (.func (.func 46) #[] #[]) [.lf (.int .i32 r)] h [.one .bool] R :=
  .inl ⟨46, [], [], _, _, rfl, Tryd.func46, rfl, ok46 k⟩

/-- make of a slice without elements, with room. -/
theorem MkC.zero {α : Type} {sz bytes : Nat} {f : α → List Lf} {e : TypeId} {zc : List Lf} (hz : zc.length = sz) {n : Nat} {i j : Int} (hi : i = 0) (hj : j = n) (hb : bytes * n ≤ 140737488355328) (hn : n ≤ 140737488355328) {h : Heap} {K : Slc → Heap → Prop}
    (k : ∀ s h', Own sz f h' s ([] : List α) → Fresh h h' s → h'.size = h.size + 1 → s.a = some (h.size, 0) → K s h') : MkC e zc sz bytes i j h K := by
  subst hi hj
  have hc : ((bytes : Int) * (n : Int)) = ((bytes * n : Nat) : Int) := by simp
  refine ⟨by omega, by omega, by omega, by rw [hc]; omega, ?_⟩
  rintro b h' rfl rfl
  refine k _ _ ⟨by simp, by simp, .inr ⟨_, _, e, rfl, by simp; rfl, ?_, ?_⟩, rfl⟩ ⟨push_ext h _, fun b off hx => by cases hx; exact Nat.le_refl _⟩ (by simp) rfl
  · rw [zeroCells_size]; simp [hz]
  · simp

end Go.V.YtdeihieblljfcaaDoor
