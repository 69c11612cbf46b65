/- This text proves a part of the laws of seat YtdeihieblljfcaaDoor, under no condition: S2w. -/
import Derived.Test.YtdeihieblljfcaaDoorSJ
import Derived.Test.YtdeihieblljfcaaDoorSK
import Derived.Test.YtdeihieblljfcaaDoorSH
set_option linter.unusedVariables false
set_option linter.unusedSimpArgs false
/-! Which words are commands, and what stands behind them. -/
namespace Go.V.YtdeihieblljfcaaDoor
open Go Go.V

theorem mk_tx (l : List UInt8) : ByteArray.mk l.toArray = tx l := rfl
theorem eq_of {l w : Tx} (e : strEq (tx l) (tx w) = true) : l = w := by rw [tx_eq, decide_eq_true_eq] at e; exact e
theorem ne_of {l w : Tx} (e : strEq (tx l) (tx w) = false) : l ≠ w := by rw [tx_eq, decide_eq_false_iff_not] at e; exact e

/-- One of several words. -/
def chain (a : ByteArray) (I : Bool → Prop) : List Tx → Prop
  | [] => False
  | w :: ws => match ws with
    | [] => I (strEq a (tx w))
    | _ :: _ => Br (strEq a (tx w)) (I (strEq a (tx w))) (chain a I ws)
theorem chain_ok {l : Tx} {I : Bool → Prop} : ∀ {ws : List Tx}, ws ≠ [] → (∀ c, (c = true ↔ l ∈ ws) → I c) → chain (tx l) I ws
  | [w], _, k => k _ (by rw [tx_eq]; simp)
  | w :: w' :: ws, _, k => by
    refine Br.mk (fun e => k _ ⟨fun _ => ?_, fun _ => e⟩) fun e => ?_
    · rw [eq_of e]; simp
    · refine chain_ok (ws := w' :: ws) (by simp) fun c hc => k c ⟨fun x => List.mem_cons_of_mem _ (hc.1 x), fun x => ?_⟩
      rcases List.mem_cons.1 x with x | x
      · exact absurd x (ne_of e)
      · exact hc.2 x

theorem kA : ∀ w ∈ grA, kindsOf w = some [] := by decide
theorem kJ : ∀ w ∈ grJ, kindsOf w = some [] := by decide
theorem kB : ∀ w ∈ grB, kindsOf w = some [68] := by decide
theorem kC : ∀ w ∈ grC, kindsOf w = some [78, 68] := by decide
theorem kD : ∀ w ∈ grD, kindsOf w = some [68, 78, 78] := by decide
theorem kE : ∀ w ∈ grE, kindsOf w = some [68, 78] := by decide
theorem kF : ∀ w ∈ grF, kindsOf w = some [68, 78, 68] := by decide
theorem kG : ∀ w ∈ grG, kindsOf w = some [68, 68] := by decide
theorem kH : ∀ w ∈ grH, kindsOf w = some [68, 78, 78, 78, 78] := by decide
theorem kI : ∀ w ∈ grI, kindsOf w = some [78] := by decide
theorem kNone {l : Tx} (a : l ∉ grA) (b : l ∉ grB) (c : l ∉ grC) (d : l ∉ grD) (e : l ∉ grE) (f : l ∉ grF) (g : l ∉ grG) (h : l ∉ grH) (i : l ∉ grI) (j : l ∉ grJ) : kindsOf l = none := by
  unfold kindsOf
  rw [if_neg (fun x => x.elim a j), if_neg b, if_neg c, if_neg d, if_neg e, if_neg f, if_neg g, if_neg h, if_neg i]

set_option maxHeartbeats 2000000 in
theorem c47 {l : Tx} {h : Heap} {R : ByteArray → Bool → Heap → Prop} (k : R (tx ((kindsOf l).getD [])) (kindsOf l).isSome h) : Call Go.Proofs.Tryd.prog 47 [.lf (.str (tx l))] h [.one .str, .one .bool] R := by
  have kk : ∀ ks, kindsOf l = some ks → R (tx ks) true h := fun ks e => by rw [e] at k; exact k
  have kn : kindsOf l = none → R (tx []) false h := fun e => by rw [e] at k; exact k
  refine ok47 ⟨fun c hh => hh = h ∧ (c = true ↔ l ∈ grA), chain_ok (ws := grA) (I := fun c => h = h ∧ (c = true ↔ l ∈ grA)) (by decide) fun c hc => ⟨rfl, hc⟩, ?_⟩
  rintro c h2 ⟨rfl, hc⟩
  refine Br.mk (fun e => kk _ (kA l (hc.1 e))) fun e => ?_
  have nA : l ∉ grA := fun x => by rw [hc.2 x] at e; cases e
  clear hc
  refine ⟨fun c hh => hh = h2 ∧ (c = true ↔ l ∈ grB), chain_ok (ws := grB) (I := fun c => h2 = h2 ∧ (c = true ↔ l ∈ grB)) (by decide) fun c hc => ⟨rfl, hc⟩, ?_⟩
  rintro c h3 ⟨rfl, hc⟩
  refine Br.mk (fun e => kk _ (kB l (hc.1 e))) fun e => ?_
  have nB : l ∉ grB := fun x => by rw [hc.2 x] at e; cases e
  clear hc
  refine Br.mk (fun e => kk _ (kC l (by rw [eq_of (w := [109, 97, 107, 101]) e]; decide))) fun e => ?_
  have nC : l ∉ grC := fun x => ne_of (w := [109, 97, 107, 101]) e (by simpa [grC] using x)
  refine ⟨fun c hh => hh = h3 ∧ (c = true ↔ l ∈ grD), chain_ok (ws := grD) (I := fun c => h3 = h3 ∧ (c = true ↔ l ∈ grD)) (by decide) fun c hc => ⟨rfl, hc⟩, ?_⟩
  rintro c h4 ⟨rfl, hc⟩
  refine Br.mk (fun e => kk _ (kD l (hc.1 e))) fun e => ?_
  have nD : l ∉ grD := fun x => by rw [hc.2 x] at e; cases e
  clear hc
  refine ⟨fun c hh => hh = h4 ∧ (c = true ↔ l ∈ grE), chain_ok (ws := grE) (I := fun c => h4 = h4 ∧ (c = true ↔ l ∈ grE)) (by decide) fun c hc => ⟨rfl, hc⟩, ?_⟩
  rintro c h5 ⟨rfl, hc⟩
  refine Br.mk (fun e => kk _ (kE l (hc.1 e))) fun e => ?_
  have nE : l ∉ grE := fun x => by rw [hc.2 x] at e; cases e
  clear hc
  refine Br.mk (fun e => kk _ (kF l (by rw [eq_of (w := [103, 101, 116]) e]; decide))) fun e => ?_
  have nF : l ∉ grF := fun x => ne_of (w := [103, 101, 116]) e (by simpa [grF] using x)
  refine Br.mk (fun e => Br.t e (kk _ (kG l (by rw [eq_of (w := [115, 99, 97, 110]) e]; decide)))) fun e1 => Br.mk (fun e => kk _ (kG l (by rw [eq_of (w := [98, 97, 99, 107]) e]; decide))) fun e2 => ?_
  have nG : l ∉ grG := fun x => by
    have : l = [115, 99, 97, 110] ∨ l = [98, 97, 99, 107] := by simpa [grG] using x
    exact this.elim (ne_of (w := [115, 99, 97, 110]) e1) (ne_of (w := [98, 97, 99, 107]) e2)
  refine Br.mk (fun e => kk _ (kH l (by rw [eq_of (w := [116, 97, 107, 101]) e]; decide))) fun e => ?_
  have nH : l ∉ grH := fun x => ne_of (w := [116, 97, 107, 101]) e (by simpa [grH] using x)
  have sv : l = [109, 97, 114, 107] ∨ l = [115, 101, 101] → strEq (tx l) (tx [115, 97, 118, 101]) = false := fun x => by
    rw [tx_eq]; rcases x with rfl | rfl <;> decide
  refine Br.mk (fun e => Br.t e (Br.f (sv (.inl (eq_of (w := [109, 97, 114, 107]) e))) (kk _ (kI l (by rw [eq_of (w := [109, 97, 114, 107]) e]; decide))))) fun e1 => Br.mk (fun e => Br.t e (Br.f (sv (.inr (eq_of (w := [115, 101, 101]) e))) (kk _ (kI l (by rw [eq_of (w := [115, 101, 101]) e]; decide))))) fun e2 => ?_
  have nI : l ∉ grI := fun x => by
    have : l = [109, 97, 114, 107] ∨ l = [115, 101, 101] := by simpa [grI] using x
    exact this.elim (ne_of (w := [109, 97, 114, 107]) e1) (ne_of (w := [115, 101, 101]) e2)
  refine Br.mk (fun e => Br.t e (kk _ (kJ l (by rw [eq_of (w := [115, 97, 118, 101]) e]; decide)))) fun e => kn (kNone nA nB nC nD nE nF nG nH nI fun x => ne_of (w := [115, 97, 118, 101]) e (by simpa [grJ] using x))

def grAJ : List Tx := [[119, 114, 105, 116, 101], [102, 111, 114, 103, 101, 116], [104, 111, 108, 100], [115, 116, 101, 112], [108, 97, 115, 116], [102, 97, 109, 105, 108, 105, 101, 115], [98, 101, 103, 105, 110], [99, 111, 109, 109, 105, 116], [97, 98, 111, 114, 116], [115, 97, 118, 101], [99, 114, 97, 115, 104], [99, 104, 101, 99, 107]]
theorem kAJ : ∀ w ∈ grAJ, kindsOf w = some [] := by decide
theorem subAJ : ∀ w ∈ grA, w ∈ grAJ := by decide

set_option maxHeartbeats 2000000 in
theorem c31 {l : Tx} {h : Heap} {R : ByteArray → Bool → Heap → Prop} (k : R (tx ((kindsOf l).getD [])) (kindsOf l).isSome h) : Call Go.Proofs.Tryd.prog 31 [.lf (.str (tx l))] h [.one .str, .one .bool] R := by
  have kk : ∀ ks, kindsOf l = some ks → R (tx ks) true h := fun ks e => by rw [e] at k; exact k
  have kn : kindsOf l = none → R (tx []) false h := fun e => by rw [e] at k; exact k
  refine ok31 ⟨fun c hh => hh = h ∧ (c = true ↔ l ∈ grAJ), chain_ok (ws := grAJ) (I := fun c => h = h ∧ (c = true ↔ l ∈ grAJ)) (by decide) fun c hc => ⟨rfl, hc⟩, ?_⟩
  rintro c h2 ⟨rfl, hc⟩
  refine Br.mk (fun e => kk _ (kAJ l (hc.1 e))) fun e => ?_
  have nAJ : l ∉ grAJ := fun x => by rw [hc.2 x] at e; cases e
  have nA : l ∉ grA := fun x => nAJ (subAJ l x)
  have nJ : l ∉ grJ := fun x => nAJ (by have : l = [115, 97, 118, 101] := by simpa [grJ] using x
                                        rw [this]; decide)
  clear hc
  refine ⟨fun c hh => hh = h2 ∧ (c = true ↔ l ∈ grB), chain_ok (ws := grB) (I := fun c => h2 = h2 ∧ (c = true ↔ l ∈ grB)) (by decide) fun c hc => ⟨rfl, hc⟩, ?_⟩
  rintro c h3 ⟨rfl, hc⟩
  refine Br.mk (fun e => kk _ (kB l (hc.1 e))) fun e => ?_
  have nB : l ∉ grB := fun x => by rw [hc.2 x] at e; cases e
  clear hc
  refine ⟨fun c hh => hh = h3 ∧ (c = true ↔ l ∈ grI), chain_ok (ws := grI) (I := fun c => h3 = h3 ∧ (c = true ↔ l ∈ grI)) (by decide) fun c hc => ⟨rfl, hc⟩, ?_⟩
  rintro c h4 ⟨rfl, hc⟩
  refine Br.mk (fun e => kk _ (kI l (hc.1 e))) fun e => ?_
  have nI : l ∉ grI := fun x => by rw [hc.2 x] at e; cases e
  clear hc
  refine Br.mk (fun e => kk _ (kC l (by rw [eq_of (w := [109, 97, 107, 101]) e]; decide))) fun e => ?_
  have nC : l ∉ grC := fun x => ne_of (w := [109, 97, 107, 101]) e (by simpa [grC] using x)
  refine ⟨fun c hh => hh = h4 ∧ (c = true ↔ l ∈ grG), chain_ok (ws := grG) (I := fun c => h4 = h4 ∧ (c = true ↔ l ∈ grG)) (by decide) fun c hc => ⟨rfl, hc⟩, ?_⟩
  rintro c h5 ⟨rfl, hc⟩
  refine Br.mk (fun e => kk _ (kG l (hc.1 e))) fun e => ?_
  have nG : l ∉ grG := fun x => by rw [hc.2 x] at e; cases e
  clear hc
  refine ⟨fun c hh => hh = h5 ∧ (c = true ↔ l ∈ grE), chain_ok (ws := grE) (I := fun c => h5 = h5 ∧ (c = true ↔ l ∈ grE)) (by decide) fun c hc => ⟨rfl, hc⟩, ?_⟩
  rintro c h6 ⟨rfl, hc⟩
  refine Br.mk (fun e => kk _ (kE l (hc.1 e))) fun e => ?_
  have nE : l ∉ grE := fun x => by rw [hc.2 x] at e; cases e
  clear hc
  refine Br.mk (fun e => Br.t e (kk _ (kD l (by rw [eq_of (w := [112, 117, 116]) e]; decide)))) fun d1 => ?_
  refine Br.mk (fun e => Br.t e (kk _ (kD l (by rw [eq_of (w := [114, 97, 110, 103, 101]) e]; decide)))) fun d2 => ?_
  refine Br.mk (fun e => Br.t e (kk _ (kD l (by rw [eq_of (w := [97, 100, 100]) e]; decide)))) fun d3 => ?_
  refine Br.mk (fun e => Br.t e (kk _ (kD l (by rw [eq_of (w := [99, 108, 101, 97, 114]) e]; decide)))) fun d4 => ?_
  refine Br.mk (fun e => Br.t e (kk _ (kD l (by rw [eq_of (w := [99, 111, 109, 112, 97, 99, 116]) e]; decide)))) fun d5 => ?_
  refine Br.mk (fun e => kk _ (kD l (by rw [eq_of (w := [115, 101, 116]) e]; decide))) fun d6 => ?_
  have nD : l ∉ grD := fun x => by
    have : l = [112, 117, 116] ∨ l = [114, 97, 110, 103, 101] ∨ l = [97, 100, 100] ∨ l = [99, 108, 101, 97, 114] ∨ l = [99, 111, 109, 112, 97, 99, 116] ∨ l = [115, 101, 116] := by simpa [grD] using x
    rcases this with x | x | x | x | x | x
    · exact ne_of (w := [112, 117, 116]) d1 x
    · exact ne_of (w := [114, 97, 110, 103, 101]) d2 x
    · exact ne_of (w := [97, 100, 100]) d3 x
    · exact ne_of (w := [99, 108, 101, 97, 114]) d4 x
    · exact ne_of (w := [99, 111, 109, 112, 97, 99, 116]) d5 x
    · exact ne_of (w := [115, 101, 116]) d6 x
  refine Br.mk (fun e => kk _ (kF l (by rw [eq_of (w := [103, 101, 116]) e]; decide))) fun e => ?_
  have nF : l ∉ grF := fun x => ne_of (w := [103, 101, 116]) e (by simpa [grF] using x)
  refine Br.mk (fun e => kk _ (kH l (by rw [eq_of (w := [116, 97, 107, 101]) e]; decide))) fun e => ?_
  exact kn (kNone nA nB nC nD nE nF nG (fun x => ne_of (w := [116, 97, 107, 101]) e (by simpa [grH] using x)) nI nJ)

end Go.V.YtdeihieblljfcaaDoor
