/- This text proves a part of the laws of seat YtdeihieblljfcaaDoor, under no condition: S2x. -/
import Derived.Test.YtdeihieblljfcaaDoorSL
import Derived.Test.YtdeihieblljfcaaDoorSG
import Derived.Test.YtdeihieblljfcaaDoorSI
set_option linter.unusedVariables false
set_option linter.unusedSimpArgs false
set_option maxRecDepth 100000
/-! Numbers of scripts; what is cut off a text, by the library's contracts (the shelf's). -/
namespace Go.V.YtdeihieblljfcaaDoor
open Go Go.V Go.Lib Go.Proofs

/-- The library's variable on long texts holds some number. -/
def MaxL (h : Heap) : Prop := ∃ c t fz m, h[3]? = some (.cells c t fz) ∧ c[0]? = some (Value.int .i64 m)
theorem MaxL.ext {h h' : Heap} (D : MaxL h) (e : Ext0 h h') : MaxL h' := by
  obtain ⟨c, t, fz, m, hb, hc⟩ := D
  exact ⟨c, t, fz, m, (e.same 3 (size_pos_of_getElem? hb) id).trans hb, hc⟩

theorem c29 {l p : Tx} (hl : l.length < 4294967281) {h : Heap} (D : MaxL h) {R : ByteArray → ByteArray → Bool → Heap → Prop} (k : R (tx (cut l p).1) (tx (cut l p).2.1) (cut l p).2.2 h) :
    Call Tryd.prog 29 [.lf (.str (tx l)), .lf (.str (tx p))] h [.one .str, .one .str, .one .bool] R := by
  intro W hW
  subst hW
  obtain ⟨c, t, fz, m, hb, hc⟩ := D
  have hcell : W.cell? ⟨3, 0, none⟩ = some (.int .i64 m) := by
    unfold World.cell?
    simp only [hb]
    exact hc
  have := Any.strings_Cut lays145 (tx l) (tx p) m W (by rw [tx_size]; exact hl) hcell
  rw [tx_list, tx_list] at this
  refine this.mono fun e W' ⟨he, n, hw⟩ => ?_
  subst hw
  exact ⟨⟨rfl, rfl, rfl⟩, _, _, _, he, k⟩

theorem c81 {l p : Tx} (hl : l.length ≤ 9223372036854775807) (hp : p.length < 4294967281) (ha : ∀ (j : Nat) b, p[j]? = some b → b.toNat < 128) {h : Heap} {R : ByteArray → Heap → Prop} (k : ∀ h', Ext0 h h' → R (tx (trimS l p)) h') :
    Call Tryd.prog 81 [.lf (.str (tx l)), .lf (.str (tx p))] h [.one .str] R := by
  intro W hW
  subst hW
  have := Any.strings_Trim_laid lays160 (by kernel_rfl) (tx l) (tx p) W (by rw [tx_size]; exact hl) (by rw [tx_size]; exact hp) (by rw [tx_list]; exact ha)
  rw [tx_list, tx_list] at this
  refine this.mono fun e W' ⟨he, hb⟩ => ?_
  exact ⟨out_below hb, _, he, k _ (ext_below hb)⟩

theorem c82 {l : Tx} (hl : l.length ≤ 18) {n : Int} (hn : atoi l = some n) {h : Heap} {R : Int → Value → Heap → Prop} (k : ∀ v h', Ext0 h h' → R n v h') :
    Call Tryd.prog 82 [.lf (.str (tx l))] h [.one (.int .i64), .one .raw] R := by
  intro W hW
  subst hW
  refine (Any.strconv_Atoi lays172 (tx l) n (by rw [tx_size]; exact hl) (by rw [tx_list]; exact hn) W).mono fun e W' ⟨he, t, hw⟩ => ?_
  subst hw
  have hb : RowKit.Below W.heap.size W _ := bytesWorld_below W (lays172_ren.t 5) t
  exact ⟨out_below hb, n, Value.nilIface, he, k _ _ (ext_below hb)⟩

theorem digitVal_dig {c : UInt8} (h : isDig c = true) : ∃ d, digitVal c = some d := by
  unfold isDig at h
  simp only [decide_eq_true_eq] at h
  unfold digitVal
  rw [if_pos h]
  exact ⟨_, rfl⟩
theorem decFrom_digs : ∀ (l : Tx) (a : Nat), (∀ c ∈ l, isDig c = true) → ∃ n, decFrom a l = some n
  | [], a, _ => ⟨a, rfl⟩
  | c :: r, a, h => by
    obtain ⟨d, hd⟩ := digitVal_dig (h c (by simp))
    unfold decFrom
    rw [hd]
    exact decFrom_digs r _ fun x hx => h x (by simp [hx])
theorem atoi_digs {l : Tx} (hne : l ≠ []) (h : ∀ c ∈ l, isDig c = true) : ∃ n, atoi l = some n := by
  cases l with
  | nil => exact absurd rfl hne
  | cons c r =>
    have hc := h c (by simp)
    obtain ⟨n, hn⟩ := decFrom_digs (c :: r) 0 h
    unfold isDig at hc
    simp only [decide_eq_true_eq] at hc
    have h1 : (c == 45) = false := by
      apply beq_false_of_ne
      rintro rfl
      exact absurd hc.1 (by decide)
    have h2 : (c == 43) = false := by
      apply beq_false_of_ne
      rintro rfl
      exact absurd hc.1 (by decide)
    exact ⟨(n : Int), by simp [atoi, h1, h2, decNat, hn]⟩

def digs10 : Tx := [48, 49, 50, 51, 52, 53, 54, 55, 56, 57]
theorem dig_mem (c : UInt8) : digs10.contains c = isDig c := by
  rw [Bool.eq_iff_iff]
  unfold isDig digs10
  simp only [List.contains_iff_mem, List.mem_cons, List.not_mem_nil, or_false, decide_eq_true_eq]
  constructor
  · rintro (rfl | rfl | rfl | rfl | rfl | rfl | rfl | rfl | rfl | rfl) <;> decide
  · intro h
    have : c.toNat = 48 ∨ c.toNat = 49 ∨ c.toNat = 50 ∨ c.toNat = 51 ∨ c.toNat = 52 ∨ c.toNat = 53 ∨ c.toNat = 54 ∨ c.toNat = 55 ∨ c.toNat = 56 ∨ c.toNat = 57 := by omega
    rcases this with h | h | h | h | h | h | h | h | h | h <;> simp [← UInt8.toNat_inj, h]
theorem dropWhile_nil {p : UInt8 → Bool} : ∀ {l : Tx}, l.dropWhile p = [] ↔ ∀ c ∈ l, p c = true
  | [] => by simp
  | c :: r => by
    rw [List.dropWhile_cons]
    by_cases h : p c = true
    · rw [if_pos h, dropWhile_nil]; simp [h]
    · rw [if_neg h]; simp [h]
theorem trim_nil {l : Tx} : trimS l digs10 = [] ↔ ∀ c ∈ l, isDig c = true := by
  unfold trimS trimLeftS trimRightS
  have e : (fun x => digs10.contains x) = isDig := funext dig_mem
  rw [e, dropWhile_nil]
  constructor
  · intro h
    by_cases h0 : l.reverse.dropWhile isDig = []
    · intro c hc
      exact dropWhile_nil.1 h0 c (by simpa using hc)
    · exfalso
      have h1 := List.head_dropWhile_not isDig h0
      have := h (( l.reverse.dropWhile isDig).head h0) (by simp)
      rw [this] at h1
      cases h1
  · intro h c hc
    rw [List.mem_reverse] at hc
    exact h c (by simpa using (List.dropWhile_sublist _).subset hc)

theorem isNum_iff (w : Tx) : isNum w = true ↔ (w ≠ [] ∧ w.length ≤ 4 ∧ ∀ c ∈ w, isDig c = true) := by
  unfold isNum
  simp [and_assoc]

theorem c66 {l : Tx} {h : Heap} {R : Int → Bool → Heap → Prop} (k : ∀ n h', Ext0 h h' → R n (isNum l) h') :
    Call Tryd.prog 66 [.lf (.str (tx l))] h [.one (.int .i64), .one .bool] R := by
  have kf : ∀ n h', Ext0 h h' → isNum l = false → R n false h' := fun n h' e x => by have := k n h' e; rw [x] at this; exact this
  refine ok66 (Br.mk (fun e => kf _ _ (Ext.refl _ _) ?_) fun e => Br.dec (fun hs => kf _ _ (Ext.refl _ _) ?_) fun hs => ?_)
  · rw [← Bool.not_eq_true, isNum_iff]; exact fun x => x.1 (eq_of (w := []) e)
  · rw [tx_size] at hs
    rw [← Bool.not_eq_true, isNum_iff]; exact fun x => by have := x.2.1; omega
  rw [tx_size] at hs
  have hne : l ≠ [] := ne_of (w := []) e
  refine c81 (p := digs10) (by omega) (by decide) (fun j b hb => ?_) fun h1 e1 => ?_
  · have hm : b ∈ digs10 := List.mem_of_getElem? hb
    have := dig_mem b
    rw [List.contains_iff_mem.2 hm] at this
    unfold isDig at this
    have := this.symm
    simp only [decide_eq_true_eq] at this
    omega
  have hx : strEq (tx (trimS l digs10)) (ByteArray.mk #[]) = decide (trimS l digs10 = []) := tx_eq _ []
  rw [hx]
  refine Br.not (fun hf => kf _ _ e1 ?_) fun ht => ?_
  · rw [decide_eq_false_iff_not, trim_nil] at hf
    rw [← Bool.not_eq_true, isNum_iff]; exact fun x => hf x.2.2
  · rw [decide_eq_true_eq, trim_nil] at ht
    obtain ⟨n, hn⟩ := atoi_digs hne ht
    refine c82 (by omega) hn fun v h4 e4 => ?_
    have := k n h4 (e1.trans e4)
    rw [(isNum_iff l).2 ⟨hne, by omega, ht⟩] at this
    exact this

theorem c48 {kd : UInt8} {l : Tx} {h : Heap} {R : Bool → Heap → Prop} (k : ∀ h', Ext0 h h' → R (fits kd l) h') :
    Call Tryd.prog 48 [.lf (.int .u8 (kd.toNat : Int)), .lf (.str (tx l))] h [.one .bool] R := by
  refine ok48 (Br.eq (fun e => ?_) fun e => ?_)
  · have : kd = 68 := by rw [← UInt8.toNat_inj]; show kd.toNat = 68; omega
    subst this
    exact c66 fun n h' e => k h' e
  · have hk : kd ≠ 68 := by rintro rfl; exact e rfl
    have := k h (Ext.refl _ _)
    unfold fits at this
    rw [if_neg hk] at this
    rw [tx_size]
    have hd : decide ((l.length : Int) ≤ 20) = decide (l.length ≤ 20) := by simp; omega
    rw [hd]
    exact this

theorem c32 {l : Tx} {h : Heap} {R : Int → Heap → Prop} (k : ∀ n, (0 ≤ n ↔ isNum l = true) → R n h) :
    Call Tryd.prog 32 [.lf (.str (tx l))] h [.one (.int .i64)] R := by
  have kf : isNum l ≠ true → R (-1) h := fun x => k (-1) ⟨fun y => absurd y (by omega), fun y => absurd y x⟩
  refine ok32 ⟨fun c hh => hh = h ∧ (c = true ↔ (l.length < 1 ∨ 4 < l.length)), Br.dec (fun hs => ?_) fun hs => ?_, ?_⟩
  · rw [tx_size] at hs; exact ⟨rfl, fun _ => .inl (by omega), fun _ => rfl⟩
  · rw [tx_size] at hs
    refine ⟨rfl, ?_⟩
    rw [decide_eq_true_eq, tx_size]
    constructor
    · intro x; right; omega
    · rintro (x | x) <;> omega
  rintro c h2 ⟨rfl, hc⟩
  refine Br.mk (fun e => kf fun x => ?_) fun e => ?_
  · have := (isNum_iff l).1 x
    have hl : l.length ≠ 0 := fun y => this.1 (List.length_eq_zero_iff.1 y)
    have := hc.1 e
    omega
  have hlen : 1 ≤ l.length ∧ l.length ≤ 4 := by
    refine ⟨Nat.le_of_not_lt fun x => ?_, Nat.le_of_not_lt fun x => ?_⟩
    · rw [hc.2 (.inl x)] at e; cases e
    · rw [hc.2 (.inr x)] at e; cases e
  refine ⟨fun n i hh b => ∃ q : Nat, i = q ∧ hh = h2 ∧ 0 ≤ n ∧ n < 10 ^ q ∧ q ≤ l.length ∧ (∀ j (hj : j < l.length), j < q → isDig l[j] = true) ∧ b = l.length - q,
    ⟨_, 0, rfl, rfl, by omega, by omega, by omega, fun j hj x => absurd x (by omega), rfl⟩, ?_⟩
  rintro n _ hh _ ⟨q, rfl, he, h0, h1, hq, hd, rfl⟩
  subst he
  rw [tx_size]
  refine Br.dec (fun hlt => ?_) fun hge => k n ⟨fun _ => (isNum_iff l).2 ⟨fun x => by rw [x] at hlen; simp at hlen, hlen.2, fun c hc => ?_⟩, fun _ => h0⟩
  · have hlt' : q < l.length := by omega
    rw [tx_bt hlt']
    have bad : isDig l[q] = false → isNum l ≠ true := fun x y => by
      have := ((isNum_iff l).1 y).2.2 l[q] (List.getElem_mem _)
      rw [x] at this; cases this
    refine ⟨fun g => g = hh ∧ isDig l[q] = true, ⟨by omega, hlt, Br.dec (fun x => kf (bad (dig_not fun y => by omega))) fun x => ⟨by omega, hlt, Br.dec (fun y => kf (bad (dig_not fun z => by omega))) fun y => ⟨rfl, (dig_iff _).2 ⟨by omega, by omega⟩⟩⟩⟩, ?_⟩
    rintro g ⟨rfl, hg⟩
    have hr := (dig_iff _).1 hg
    have hp : (10 : Int) ^ q ≤ 10 ^ 4 := by
      have := Nat.pow_le_pow_right (show 0 < 10 by omega) (show q ≤ 4 by omega)
      exact_mod_cast this
    have hp2 : (10 : Int) ^ (q + 1) = 10 ^ q * 10 := Int.pow_succ _ _
    refine ⟨by omega, hlt, l.length - (q + 1), by omega, q + 1, by rw [wi64 (by omega) (by omega)]; omega, rfl, ?_, ?_, by omega, fun j hj x => ?_, rfl⟩
    · rw [wu8 (by omega) (by omega), wi64 (n := (l[q].toNat : Int) - 48) (by omega) (by omega), wi64 (n := 10 * n) (by omega) (by omega), wi64 (by omega) (by omega)]; omega
    · rw [wu8 (by omega) (by omega), wi64 (n := (l[q].toNat : Int) - 48) (by omega) (by omega), wi64 (n := 10 * n) (by omega) (by omega), wi64 (by omega) (by omega), hp2]; omega
    · by_cases hjq : j = q
      · subst hjq; exact hg
      · exact hd j hj (by omega)
  · obtain ⟨j, hj, rfl⟩ := List.getElem_of_mem hc
    exact hd j hj (by omega)

end Go.V.YtdeihieblljfcaaDoor
