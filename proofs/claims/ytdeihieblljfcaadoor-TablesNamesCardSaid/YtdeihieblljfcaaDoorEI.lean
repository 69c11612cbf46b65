/- This text proves a part of the laws of seat YtdeihieblljfcaaDoor, under no condition: E2p E2t. -/
import Derived.Lib.ItoaNum
import Derived.Lib.ParseIntBCases
import Derived.Test.YtdeihieblljfcaaDoorEC
set_option linter.unusedVariables false
/-! The plain law of names that are a number of at least six digits. -/
namespace Go.V
open Go.Lib

/-- A digit. -/
def d8 (n : Nat) : UInt8 := UInt8.ofNat (48 + n % 10)
theorem d8_toNat (n : Nat) : (d8 n).toNat = 48 + n % 10 := by
  unfold d8
  rw [UInt8.toNat_ofNat']
  omega
def isDig (c : UInt8) : Bool := decide (48 ≤ c.toNat ∧ c.toNat ≤ 57)
theorem d8_dig (n : Nat) : isDig (d8 n) = true := by
  unfold isDig
  rw [d8_toNat]
  have := Nat.mod_lt n (show 0 < 10 by omega)
  simp only [decide_eq_true_eq]
  omega

/-- The digits of a number, at least k of them. -/
def padL (k n : Nat) : List UInt8 := if h : n = 0 ∧ k = 0 then [] else padL (k - 1) (n / 10) ++ [d8 n]
  termination_by n + k
  decreasing_by
  by_cases h0 : n = 0
  · subst h0; omega
  · have := Nat.div_le_self n 10
    have := Nat.div_lt_self (show 0 < n by omega) (show 1 < 10 by omega)
    omega

theorem padL_nil : padL 0 0 = [] := by rw [padL]; simp
theorem padL_step {k n : Nat} (h : ¬ (n = 0 ∧ k = 0)) : padL k n = padL (k - 1) (n / 10) ++ [d8 n] := by rw [padL, dif_neg h]

theorem padL_zero (k : Nat) : padL k 0 = List.replicate k 48 := by
  induction k with
  | zero => exact padL_nil
  | succ k ih =>
    rw [padL_step (by omega), List.replicate_succ']
    rw [show k + 1 - 1 = k by omega, Nat.zero_div, ih]
    rfl

theorem dec_step {n : Nat} (h : ¬ n < 10) : decDigits n = decDigits (n / 10) ++ [d8 n] := by rw [decDigits, dif_neg h]; rfl
theorem dec_small {n : Nat} (h : n < 10) : decDigits n = [d8 n] := by
  rw [decDigits, dif_pos h]
  unfold d8
  rw [Nat.mod_eq_of_lt h]

theorem padL_dec : ∀ (n k : Nat), (0 < n ∨ 0 < k) → padL k n = List.replicate (k - nDigits n) 48 ++ decDigits n := by
  intro n
  induction n using Nat.strongRecOn with
  | _ n ih =>
    intro k hk
    rw [padL_step (by omega)]
    by_cases h : n < 10
    · rw [Nat.div_eq_of_lt h, padL_zero, nDigits_small h, dec_small h]
    · rw [ih (n / 10) (by omega) (k - 1) (by omega), nDigits_big h, dec_step h, List.append_assoc]
      rw [show k - 1 - nDigits (n / 10) = k - (nDigits (n / 10) + 1) by omega]

theorem padL_len (k n : Nat) : k ≤ (padL k n).length := by
  by_cases h : n = 0 ∧ k = 0
  · obtain ⟨rfl, rfl⟩ := h; rw [padL_nil]; simp
  · rw [padL_dec n k (by omega), List.length_append, List.length_replicate, decDigits_length]
    omega

theorem padL_digs : ∀ (m k n : Nat), n + k = m → ∀ c ∈ padL k n, isDig c = true := by
  intro m
  induction m using Nat.strongRecOn with
  | _ m ih =>
    intro k n hm c hc
    by_cases h : n = 0 ∧ k = 0
    · obtain ⟨rfl, rfl⟩ := h; rw [padL_nil] at hc; cases hc
    · rw [padL_step h, List.mem_append] at hc
      rcases hc with hc | hc
      · have : n / 10 ≤ n := Nat.div_le_self n 10
        have : n / 10 + (k - 1) < m := by
          by_cases h0 : n = 0
          · subst h0; omega
          · have := Nat.div_lt_self (show 0 < n by omega) (show 1 < 10 by omega); omega
        exact ih _ this (k - 1) (n / 10) rfl c hc
      · rw [List.mem_singleton] at hc; subst hc; exact d8_dig n
theorem padL_dig {k n : Nat} : ∀ c ∈ padL k n, isDig c = true := padL_digs _ k n rfl

/-- What digits spell. -/
def val (acc : Nat) : List UInt8 → Nat
  | [] => acc
  | c :: r => val (10 * acc + (c.toNat - 48)) r
theorem val_append (acc : Nat) (a b : List UInt8) : val acc (a ++ b) = val (val acc a) b := by
  induction a generalizing acc with
  | nil => rfl
  | cons c a ih => exact ih _
theorem val_le : ∀ (l : List UInt8) (acc : Nat), acc ≤ val acc l
  | [], _ => Nat.le_refl _
  | c :: r, acc => by
    have := val_le r (10 * acc + (c.toNat - 48))
    show acc ≤ val _ r
    omega

theorem val_padL : ∀ (m k n : Nat), n + k = m → val 0 (padL k n) = n := by
  intro m
  induction m using Nat.strongRecOn with
  | _ m ih =>
    intro k n hm
    by_cases h : n = 0 ∧ k = 0
    · obtain ⟨rfl, rfl⟩ := h; rw [padL_nil]; rfl
    · have : n / 10 ≤ n := Nat.div_le_self n 10
      have : n / 10 + (k - 1) < m := by
        by_cases h0 : n = 0
        · subst h0; omega
        · have := Nat.div_lt_self (show 0 < n by omega) (show 1 < 10 by omega); omega
      rw [padL_step h, val_append, ih _ this (k - 1) (n / 10) rfl]
      show 10 * (n / 10) + ((d8 n).toNat - 48) = n
      rw [d8_toNat]
      omega
theorem padL_val (k n : Nat) : val 0 (padL k n) = n := val_padL _ k n rfl
theorem padL_inj {k m n : Nat} (h : padL k m = padL k n) : m = n := by rw [← padL_val k m, h, padL_val]

theorem parse_digs : ∀ (l : List UInt8) (acc : Nat), (∀ c ∈ l, isDig c = true) → val acc l ≤ 18446744073709551615 → parseUintM 18446744073709551615 acc l = .ok (val acc l)
  | [], _, _, _ => rfl
  | c :: r, acc, hd, hv => by
    have hc := hd c (by simp)
    unfold isDig at hc
    simp only [decide_eq_true_eq] at hc
    have hv : val (10 * acc + (c.toNat - 48)) r ≤ 18446744073709551615 := hv
    have hl := val_le r (10 * acc + (c.toNat - 48))
    unfold parseUintM
    rw [if_pos hc, if_neg (by omega), if_neg (by omega)]
    have := parse_digs r (10 * acc + (c.toNat - 48)) (fun x hx => hd x (by simp [hx])) hv
    rw [show acc * 10 + (c.toNat - 48) = 10 * acc + (c.toNat - 48) by omega, this]
    rfl

theorem parse_pad {n : Nat} (h : n < 18446744073709551616) : parseUintB 64 (padL 6 n) = .ok n := by
  unfold parseUintB
  rw [if_neg (by
    intro h0
    have := padL_len 6 n
    rw [h0] at this
    simp at this)]
  rw [show (2 : Nat) ^ 64 - 1 = 18446744073709551615 by decide]
  rw [parse_digs _ 0 padL_dig (by rw [padL_val]; omega), padL_val]

/-- The digits ahead. -/
def run : List UInt8 → List UInt8
  | [] => []
  | c :: r => match isDig c with | true => c :: run r | false => []
theorem run_digs : ∀ (l r : List UInt8), (∀ c ∈ l, isDig c = true) → run (l ++ r) = l ++ run r
  | [], _, _ => rfl
  | c :: l, r, h => by
    have hc := h c (by simp)
    show (match isDig c with | true => c :: run (l ++ r) | false => []) = _
    rw [hc, run_digs l r fun x hx => h x (by simp [hx])]
    rfl

/-- The name of a number: t ahead of it, z behind it. -/
def nm (t z : List UInt8) (n : Nat) : List UInt8 := t ++ padL 6 n ++ z
theorem nm_inj {t z : List UInt8} {m n : Nat} (h : nm t z m = nm t z n) : m = n := by
  unfold nm at h
  exact padL_inj (List.append_cancel_left (List.append_cancel_right h))
/-- A number, and whether there is one, of a name. -/
def NumR (t z : List UInt8) (s : List UInt8) (a : Int) (is : Bool) : Prop :=
  (∃ m : Nat, m < 18446744073709551616 ∧ s = nm t z m ∧ a = m ∧ is = true) ∨ ((∀ m : Nat, m < 18446744073709551616 → s ≠ nm t z m) ∧ a = 0 ∧ is = false)
theorem NumR.same {t z s : List UInt8} {a b : Int} {x y : Bool} (h : NumR t z s a x) (k : NumR t z s b y) : a = b ∧ x = y := by
  rcases h with ⟨m, hm, hs, ha, hx⟩ | ⟨h, ha, hx⟩ <;> rcases k with ⟨n, hn, ks, kb, ky⟩ | ⟨k, kb, ky⟩
  · have := nm_inj (hs.symm.trans ks)
    subst this
    exact ⟨ha.trans kb.symm, hx.trans ky.symm⟩
  · exact absurd hs (k m hm)
  · exact absurd ks (h n hn)
  · exact ⟨ha.trans kb.symm, hx.trans ky.symm⟩
theorem NumR.hit {t z : List UInt8} {n : Nat} (hn : n < 18446744073709551616) {a : Int} {x : Bool} (h : NumR t z (nm t z n) a x) : a = n ∧ x = true := by
  rcases h with ⟨m, hm, hs, ha, hx⟩ | ⟨h, _, _⟩
  · have := nm_inj hs
    subst this
    exact ⟨ha, hx⟩
  · exact absurd rfl (h n hn)
/-- A guess, held against the name. -/
theorem NumR.of {t z s : List UInt8} {g : Nat} (hg : g < 18446744073709551616) (hs : ∀ m : Nat, m < 18446744073709551616 → s = nm t z m → g = m) :
    (s = nm t z g → NumR t z s g true) ∧ (s ≠ nm t z g → NumR t z s 0 false) :=
  ⟨fun h => .inl ⟨g, hg, h, rfl, rfl⟩, fun h => .inr ⟨fun m hm hm' => h (by rw [hs m hm hm']; exact hm'), rfl, rfl⟩⟩

theorem run_nm {t z : List UInt8} (hz : run z = []) (n : Nat) : run ((nm t z n).drop t.length) = padL 6 n := by
  unfold nm
  rw [List.append_assoc, List.drop_left, run_digs _ _ padL_dig, hz, List.append_nil]

end Go.V
set_option linter.unusedVariables false
/-! Texts as rows of bytes. -/
namespace Go.V
open Go.Lib

def tx (l : List UInt8) : ByteArray := ⟨l.toArray⟩
theorem tx_eta (s : ByteArray) : tx s.data.toList = s := by cases s; simp [tx]
theorem tx_list (l : List UInt8) : (tx l).data.toList = l := by simp [tx]
theorem tx_size (l : List UInt8) : (tx l).size = l.length := by simp [tx, ByteArray.size]
theorem tx_app (a b : List UInt8) : tx a ++ tx b = tx (a ++ b) := by
  apply ByteArray.ext
  apply Array.toList_inj.1
  simp [tx, ByteArray.data_append]
theorem tx_inj {a b : List UInt8} (h : tx a = tx b) : a = b := by rw [← tx_list a, h, tx_list]
theorem tx_eq (a b : List UInt8) : strEq (tx a) (tx b) = decide (a = b) := by
  have e : strEq (tx a) (tx b) = (a.toArray == b.toArray) := rfl
  rw [e, Bool.eq_iff_iff]
  simp
theorem tx_extract (l : List UInt8) (i j : Nat) : (tx l).extract i j = tx ((l.take j).drop i) := by
  apply ByteArray.ext
  apply Array.toList_inj.1
  simp [tx, ByteArray.data_extract, List.drop_take, List.extract]
theorem tx_bt {l : List UInt8} {j : Nat} (h : j < l.length) : bt (tx l) (j : Int) = ((l[j]'h).toNat : Int) := by
  unfold bt
  rw [tx_list, show (j : Int).toNat = j from rfl]
  rw [List.getD_eq_getElem?_getD, List.getElem?_eq_getElem h]
  rfl

theorem bytes_one {h : Heap} {b : Nat} {t : TypeId} {c : UInt8} (k : Blk h b t [.int .u8 (c.toNat : Int)]) : bytesAt h ⟨some (b, 0), 1, 1⟩ (tx [c]) :=
  ⟨rfl, .inr ⟨b, 0, rfl, rfl, k.cell rfl⟩⟩

theorem nDigits_20 {n : Nat} (h : n < 18446744073709551616) : nDigits n ≤ 20 := by
  rcases Nat.eq_zero_or_pos n with h0 | h0
  · subst h0; rw [nDigits_small (by omega)]; omega
  · have := numDigits_eq n h0 h
    split at this <;> omega
theorem padL_len26 {n : Nat} (h : n < 18446744073709551616) : (padL 6 n).length ≤ 26 := by
  rw [padL_dec n 6 (by omega), List.length_append, List.length_replicate, decDigits_length]
  have := nDigits_20 h
  omega

theorem wd8 (m : Nat) : IntKind.wrap .u8 (IntKind.wrap .u64 ((48 : Int) + Int.tmod (m : Int) (10 : Int))) = ((d8 m).toNat : Int) := by
  have h := Int.tmod_eq_emod_of_nonneg (a := (m : Int)) (b := 10) (by omega)
  rw [d8_toNat, h, wu64 (by omega) (by omega), wu8 (by omega) (by omega)]
  omega

/-- A digit more, put ahead. -/
theorem padL_more {n m : Nat} {l : List UInt8} (hp : padL 6 n = padL (6 - l.length) m ++ l) (hm : 0 < m ∨ l.length < 6) : padL 6 n = padL (6 - (d8 m :: l).length) (m / 10) ++ d8 m :: l := by
  rw [padL_step (k := 6 - l.length) (n := m) (by omega)] at hp
  rw [hp, List.append_assoc, List.length_cons, show 6 - (l.length + 1) = 6 - l.length - 1 by omega]
  rfl

/-- How far the digits were read. -/
structure Read (l : List UInt8) (T q : Nat) (i : Int) : Prop where
  rr : run (l.drop T) = (l.drop T).take q ++ run ((l.drop T).drop q)
  vv : i = ((val 0 ((l.drop T).take q) % 18446744073709551616 : Nat) : Int)
  le : q ≤ (l.drop T).length
theorem Read.start (l : List UInt8) (T : Nat) : Read l T 0 0 := ⟨by rw [List.take_zero, List.drop_zero]; rfl, by rw [List.take_zero]; show (0 : Int) = ((0 % 18446744073709551616 : Nat) : Int); rw [Nat.zero_mod]; rfl, Nat.zero_le _⟩
theorem Read.dig {l : List UInt8} {T q : Nat} {i : Int} (r : Read l T q i) (hlt : T + q < l.length) (hd : isDig l[T + q] = true) :
    Read l T (q + 1) (IntKind.wrap .u64 (IntKind.wrap .u64 ((10 : Int) * i) + IntKind.wrap .u64 (IntKind.wrap .u8 ((l[T + q].toNat : Int) - (48 : Int))))) := by
  have hq : q < (l.drop T).length := by rw [List.length_drop]; omega
  have hg : (l.drop T)[q]'hq = l[T + q] := by rw [List.getElem_drop]
  refine ⟨?_, ?_, by omega⟩
  · rw [r.rr, List.drop_eq_getElem_cons hq, hg]
    show _ ++ (match isDig l[T + q] with | true => _ | false => _) = _
    rw [hd, List.take_succ_eq_append_getElem hq, hg, List.append_assoc]
    rfl
  · rw [List.take_succ_eq_append_getElem hq, hg, val_append, r.vv]
    show _ = (((10 * val 0 ((l.drop T).take q) + (l[T + q].toNat - 48)) % 18446744073709551616 : Nat) : Int)
    generalize val 0 ((l.drop T).take q) = v
    unfold isDig at hd
    simp only [decide_eq_true_eq] at hd
    generalize l[T + q].toNat = c at *
    rw [wu8 (by omega) (by omega), wu64 (n := (c : Int) - 48) (by omega) (by omega), IntKind.wrap_u64, IntKind.wrap_u64]
    omega
theorem Read.stop {l : List UInt8} {T q : Nat} {i : Int} (r : Read l T q i) (h : l.length ≤ T + q ∨ ∃ hlt : T + q < l.length, isDig l[T + q] = false) : i = ((val 0 (run (l.drop T)) % 18446744073709551616 : Nat) : Int) := by
  have h0 : run ((l.drop T).drop q) = [] := by
    rcases h with h | ⟨hlt, h⟩
    · rw [List.drop_eq_nil_of_le (by rw [List.length_drop]; omega)]; rfl
    · have hq : q < (l.drop T).length := by rw [List.length_drop]; omega
      have hg : (l.drop T)[q]'hq = l[T + q] := by rw [List.getElem_drop]
      rw [List.drop_eq_getElem_cons hq, hg]
      show (match isDig l[T + q] with | true => _ | false => _) = _
      rw [h]
  rw [r.rr, h0, List.append_nil]
  exact r.vv
theorem dig_iff (c : UInt8) : isDig c = true ↔ ((c.toNat : Int) ≥ 48 ∧ (c.toNat : Int) ≤ 57) := by
  unfold isDig
  simp only [decide_eq_true_eq]
  omega
theorem dig_not {c : UInt8} (h : ¬ ((c.toNat : Int) ≥ 48 ∧ (c.toNat : Int) ≤ 57)) : isDig c = false := by
  rw [← Bool.not_eq_true]
  exact fun x => h ((dig_iff c).1 x)

/-- The number that was read is the name's. -/
theorem read_nm {t z l : List UInt8} (hz : run z = []) {m : Nat} (hm : m < 18446744073709551616) (hl : l = nm t z m) : val 0 (run (l.drop t.length)) % 18446744073709551616 = m := by
  rw [hl, run_nm hz, padL_val, Nat.mod_eq_of_lt hm]

end Go.V
