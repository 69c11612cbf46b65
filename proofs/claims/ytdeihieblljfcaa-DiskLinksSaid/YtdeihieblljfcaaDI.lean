/- This text proves a part of the laws of seat Ytdeihieblljfcaa, under no condition: E2p E2t S2p. -/
import Derived.Lib.ItoaNum
import Derived.Lib.ParseIntBCases
import Derived.Test.YtdeihieblljfcaaDC
set_option linter.unusedVariables false
/-! The plain law of names that are a number of at least six digits. -/
namespace Go.V
open Go.Lib

/-- A digit. -/
def d8 (n : Nat) : UInt8 := UInt8.ofNat (48 + n % 10)
theorem d8_toNat (n : Nat) : (d8 n).toNat = 48 + n % 10 := by
  unfold d8
  rw [UInt8.toNat_ofNat']
  omega
def isDig (c : UInt8) : Bool := decide (48 ≤ c.toNat ∧ c.toNat ≤ 57)
theorem d8_dig (n : Nat) : isDig (d8 n) = true := by
  unfold isDig
  rw [d8_toNat]
  have := Nat.mod_lt n (show 0 < 10 by omega)
  simp only [decide_eq_true_eq]
  omega

/-- The digits of a number, at least k of them. -/
def padL (k n : Nat) : List UInt8 := if h : n = 0 ∧ k = 0 then [] else padL (k - 1) (n / 10) ++ [d8 n]
  termination_by n + k
  decreasing_by
  by_cases h0 : n = 0
  · subst h0; omega
  · have := Nat.div_le_self n 10
    have := Nat.div_lt_self (show 0 < n by omega) (show 1 < 10 by omega)
    omega

theorem padL_nil : padL 0 0 = [] := by rw [padL]; simp
theorem padL_step {k n : Nat} (h : ¬ (n = 0 ∧ k = 0)) : padL k n = padL (k - 1) (n / 10) ++ [d8 n] := by rw [padL, dif_neg h]

theorem padL_zero (k : Nat) : padL k 0 = List.replicate k 48 := by
  induction k with
  | zero => exact padL_nil
  | succ k ih =>
    rw [padL_step (by omega), List.replicate_succ']
    rw [show k + 1 - 1 = k by omega, Nat.zero_div, ih]
    rfl

theorem dec_step {n : Nat} (h : ¬ n < 10) : decDigits n = decDigits (n / 10) ++ [d8 n] := by rw [decDigits, dif_neg h]; rfl
theorem dec_small {n : Nat} (h : n < 10) : decDigits n = [d8 n] := by
  rw [decDigits, dif_pos h]
  unfold d8
  rw [Nat.mod_eq_of_lt h]

theorem padL_dec : ∀ (n k : Nat), (0 < n ∨ 0 < k) → padL k n = List.replicate (k - nDigits n) 48 ++ decDigits n := by
  intro n
  induction n using Nat.strongRecOn with
  | _ n ih =>
    intro k hk
    rw [padL_step (by omega)]
    by_cases h : n < 10
    · rw [Nat.div_eq_of_lt h, padL_zero, nDigits_small h, dec_small h]
    · rw [ih (n / 10) (by omega) (k - 1) (by omega), nDigits_big h, dec_step h, List.append_assoc]
      rw [show k - 1 - nDigits (n / 10) = k - (nDigits (n / 10) + 1) by omega]

theorem padL_len (k n : Nat) : k ≤ (padL k n).length := by
  by_cases h : n = 0 ∧ k = 0
  · obtain ⟨rfl, rfl⟩ := h; rw [padL_nil]; simp
  · rw [padL_dec n k (by omega), List.length_append, List.length_replicate, decDigits_length]
    omega

theorem padL_digs : ∀ (m k n : Nat), n + k = m → ∀ c ∈ padL k n, isDig c = true := by
  intro m
  induction m using Nat.strongRecOn with
  | _ m ih =>
    intro k n hm c hc
    by_cases h : n = 0 ∧ k = 0
    · obtain ⟨rfl, rfl⟩ := h; rw [padL_nil] at hc; cases hc
    · rw [padL_step h, List.mem_append] at hc
      rcases hc with hc | hc
      · have : n / 10 ≤ n := Nat.div_le_self n 10
        have : n / 10 + (k - 1) < m := by
          by_cases h0 : n = 0
          · subst h0; omega
          · have := Nat.div_lt_self (show 0 < n by omega) (show 1 < 10 by omega); omega
        exact ih _ this (k - 1) (n / 10) rfl c hc
      · rw [List.mem_singleton] at hc; subst hc; exact d8_dig n
theorem padL_dig {k n : Nat} : ∀ c ∈ padL k n, isDig c = true := padL_digs _ k n rfl

/-- What digits spell. -/
def val (acc : Nat) : List UInt8 → Nat
  | [] => acc
  | c :: r => val (10 * acc + (c.toNat - 48)) r
theorem val_append (acc : Nat) (a b : List UInt8) : val acc (a ++ b) = val (val acc a) b := by
  induction a generalizing acc with
  | nil => rfl
  | cons c a ih => exact ih _
theorem val_le : ∀ (l : List UInt8) (acc : Nat), acc ≤ val acc l
  | [], _ => Nat.le_refl _
  | c :: r, acc => by
    have := val_le r (10 * acc + (c.toNat - 48))
    show acc ≤ val _ r
    omega

theorem val_padL : ∀ (m k n : Nat), n + k = m → val 0 (padL k n) = n := by
  intro m
  induction m using Nat.strongRecOn with
  | _ m ih =>
    intro k n hm
    by_cases h : n = 0 ∧ k = 0
    · obtain ⟨rfl, rfl⟩ := h; rw [padL_nil]; rfl
    · have : n / 10 ≤ n := Nat.div_le_self n 10
      have : n / 10 + (k - 1) < m := by
        by_cases h0 : n = 0
        · subst h0; omega
        · have := Nat.div_lt_self (show 0 < n by omega) (show 1 < 10 by omega); omega
      rw [padL_step h, val_append, ih _ this (k - 1) (n / 10) rfl]
      show 10 * (n / 10) + ((d8 n).toNat - 48) = n
      rw [d8_toNat]
      omega
theorem padL_val (k n : Nat) : val 0 (padL k n) = n := val_padL _ k n rfl
theorem padL_inj {k m n : Nat} (h : padL k m = padL k n) : m = n := by rw [← padL_val k m, h, padL_val]

theorem parse_digs : ∀ (l : List UInt8) (acc : Nat), (∀ c ∈ l, isDig c = true) → val acc l ≤ 18446744073709551615 → parseUintM 18446744073709551615 acc l = .ok (val acc l)
  | [], _, _, _ => rfl
  | c :: r, acc, hd, hv => by
    have hc := hd c (by simp)
    unfold isDig at hc
    simp only [decide_eq_true_eq] at hc
    have hv : val (10 * acc + (c.toNat - 48)) r ≤ 18446744073709551615 := hv
    have hl := val_le r (10 * acc + (c.toNat - 48))
    unfold parseUintM
    rw [if_pos hc, if_neg (by omega), if_neg (by omega)]
    have := parse_digs r (10 * acc + (c.toNat - 48)) (fun x hx => hd x (by simp [hx])) hv
    rw [show acc * 10 + (c.toNat - 48) = 10 * acc + (c.toNat - 48) by omega, this]
    rfl

theorem parse_pad {n : Nat} (h : n < 18446744073709551616) : parseUintB 64 (padL 6 n) = .ok n := by
  unfold parseUintB
  rw [if_neg (by
    intro h0
    have := padL_len 6 n
    rw [h0] at this
    simp at this)]
  rw [show (2 : Nat) ^ 64 - 1 = 18446744073709551615 by decide]
  rw [parse_digs _ 0 padL_dig (by rw [padL_val]; omega), padL_val]

/-- The digits ahead. -/
def run : List UInt8 → List UInt8
  | [] => []
  | c :: r => match isDig c with | true => c :: run r | false => []
theorem run_digs : ∀ (l r : List UInt8), (∀ c ∈ l, isDig c = true) → run (l ++ r) = l ++ run r
  | [], _, _ => rfl
  | c :: l, r, h => by
    have hc := h c (by simp)
    show (match isDig c with | true => c :: run (l ++ r) | false => []) = _
    rw [hc, run_digs l r fun x hx => h x (by simp [hx])]
    rfl

/-- The name of a number: t ahead of it, z behind it. -/
def nm (t z : List UInt8) (n : Nat) : List UInt8 := t ++ padL 6 n ++ z
theorem nm_inj {t z : List UInt8} {m n : Nat} (h : nm t z m = nm t z n) : m = n := by
  unfold nm at h
  exact padL_inj (List.append_cancel_left (List.append_cancel_right h))
/-- A number, and whether there is one, of a name. -/
def NumR (t z : List UInt8) (s : List UInt8) (a : Int) (is : Bool) : Prop :=
  (∃ m : Nat, m < 18446744073709551616 ∧ s = nm t z m ∧ a = m ∧ is = true) ∨ ((∀ m : Nat, m < 18446744073709551616 → s ≠ nm t z m) ∧ a = 0 ∧ is = false)
theorem NumR.same {t z s : List UInt8} {a b : Int} {x y : Bool} (h : NumR t z s a x) (k : NumR t z s b y) : a = b ∧ x = y := by
  rcases h with ⟨m, hm, hs, ha, hx⟩ | ⟨h, ha, hx⟩ <;> rcases k with ⟨n, hn, ks, kb, ky⟩ | ⟨k, kb, ky⟩
  · have := nm_inj (hs.symm.trans ks)
    subst this
    exact ⟨ha.trans kb.symm, hx.trans ky.symm⟩
  · exact absurd hs (k m hm)
  · exact absurd ks (h n hn)
  · exact ⟨ha.trans kb.symm, hx.trans ky.symm⟩
theorem NumR.hit {t z : List UInt8} {n : Nat} (hn : n < 18446744073709551616) {a : Int} {x : Bool} (h : NumR t z (nm t z n) a x) : a = n ∧ x = true := by
  rcases h with ⟨m, hm, hs, ha, hx⟩ | ⟨h, _, _⟩
  · have := nm_inj hs
    subst this
    exact ⟨ha, hx⟩
  · exact absurd rfl (h n hn)
/-- A guess, held against the name. -/
theorem NumR.of {t z s : List UInt8} {g : Nat} (hg : g < 18446744073709551616) (hs : ∀ m : Nat, m < 18446744073709551616 → s = nm t z m → g = m) :
    (s = nm t z g → NumR t z s g true) ∧ (s ≠ nm t z g → NumR t z s 0 false) :=
  ⟨fun h => .inl ⟨g, hg, h, rfl, rfl⟩, fun h => .inr ⟨fun m hm hm' => h (by rw [hs m hm hm']; exact hm'), rfl, rfl⟩⟩

theorem run_nm {t z : List UInt8} (hz : run z = []) (n : Nat) : run ((nm t z n).drop t.length) = padL 6 n := by
  unfold nm
  rw [List.append_assoc, List.drop_left, run_digs _ _ padL_dig, hz, List.append_nil]

end Go.V
set_option linter.unusedVariables false
/-! Texts as rows of bytes. -/
namespace Go.V
open Go.Lib

def tx (l : List UInt8) : ByteArray := ⟨l.toArray⟩
theorem tx_eta (s : ByteArray) : tx s.data.toList = s := by cases s; simp [tx]
theorem tx_list (l : List UInt8) : (tx l).data.toList = l := by simp [tx]
theorem tx_size (l : List UInt8) : (tx l).size = l.length := by simp [tx, ByteArray.size]
theorem tx_app (a b : List UInt8) : tx a ++ tx b = tx (a ++ b) := by
  apply ByteArray.ext
  apply Array.toList_inj.1
  simp [tx, ByteArray.data_append]
theorem tx_inj {a b : List UInt8} (h : tx a = tx b) : a = b := by rw [← tx_list a, h, tx_list]
theorem tx_eq (a b : List UInt8) : strEq (tx a) (tx b) = decide (a = b) := by
  have e : strEq (tx a) (tx b) = (a.toArray == b.toArray) := rfl
  rw [e, Bool.eq_iff_iff]
  simp
theorem tx_extract (l : List UInt8) (i j : Nat) : (tx l).extract i j = tx ((l.take j).drop i) := by
  apply ByteArray.ext
  apply Array.toList_inj.1
  simp [tx, ByteArray.data_extract, List.drop_take, List.extract]
theorem tx_bt {l : List UInt8} {j : Nat} (h : j < l.length) : bt (tx l) (j : Int) = ((l[j]'h).toNat : Int) := by
  unfold bt
  rw [tx_list, show (j : Int).toNat = j from rfl]
  rw [List.getD_eq_getElem?_getD, List.getElem?_eq_getElem h]
  rfl

theorem bytes_one {h : Heap} {b : Nat} {t : TypeId} {c : UInt8} (k : Blk h b t [.int .u8 (c.toNat : Int)]) : bytesAt h ⟨some (b, 0), 1, 1⟩ (tx [c]) :=
  ⟨rfl, .inr ⟨b, 0, rfl, rfl, k.cell rfl⟩⟩

theorem nDigits_20 {n : Nat} (h : n < 18446744073709551616) : nDigits n ≤ 20 := by
  rcases Nat.eq_zero_or_pos n with h0 | h0
  · subst h0; rw [nDigits_small (by omega)]; omega
  · have := numDigits_eq n h0 h
    split at this <;> omega
theorem padL_len26 {n : Nat} (h : n < 18446744073709551616) : (padL 6 n).length ≤ 26 := by
  rw [padL_dec n 6 (by omega), List.length_append, List.length_replicate, decDigits_length]
  have := nDigits_20 h
  omega

theorem wd8 (m : Nat) : IntKind.wrap .u8 (IntKind.wrap .u64 ((48 : Int) + Int.tmod (m : Int) (10 : Int))) = ((d8 m).toNat : Int) := by
  have h := Int.tmod_eq_emod_of_nonneg (a := (m : Int)) (b := 10) (by omega)
  rw [d8_toNat, h, wu64 (by omega) (by omega), wu8 (by omega) (by omega)]
  omega

/-- A digit more, put ahead. -/
theorem padL_more {n m : Nat} {l : List UInt8} (hp : padL 6 n = padL (6 - l.length) m ++ l) (hm : 0 < m ∨ l.length < 6) : padL 6 n = padL (6 - (d8 m :: l).length) (m / 10) ++ d8 m :: l := by
  rw [padL_step (k := 6 - l.length) (n := m) (by omega)] at hp
  rw [hp, List.append_assoc, List.length_cons, show 6 - (l.length + 1) = 6 - l.length - 1 by omega]
  rfl

/-- How far the digits were read. -/
structure Read (l : List UInt8) (T q : Nat) (i : Int) : Prop where
  rr : run (l.drop T) = (l.drop T).take q ++ run ((l.drop T).drop q)
  vv : i = ((val 0 ((l.drop T).take q) % 18446744073709551616 : Nat) : Int)
  le : q ≤ (l.drop T).length
theorem Read.start (l : List UInt8) (T : Nat) : Read l T 0 0 := ⟨by rw [List.take_zero, List.drop_zero]; rfl, by rw [List.take_zero]; show (0 : Int) = ((0 % 18446744073709551616 : Nat) : Int); rw [Nat.zero_mod]; rfl, Nat.zero_le _⟩
theorem Read.dig {l : List UInt8} {T q : Nat} {i : Int} (r : Read l T q i) (hlt : T + q < l.length) (hd : isDig l[T + q] = true) :
    Read l T (q + 1) (IntKind.wrap .u64 (IntKind.wrap .u64 ((10 : Int) * i) + IntKind.wrap .u64 (IntKind.wrap .u8 ((l[T + q].toNat : Int) - (48 : Int))))) := by
  have hq : q < (l.drop T).length := by rw [List.length_drop]; omega
  have hg : (l.drop T)[q]'hq = l[T + q] := by rw [List.getElem_drop]
  refine ⟨?_, ?_, by omega⟩
  · rw [r.rr, List.drop_eq_getElem_cons hq, hg]
    show _ ++ (match isDig l[T + q] with | true => _ | false => _) = _
    rw [hd, List.take_succ_eq_append_getElem hq, hg, List.append_assoc]
    rfl
  · rw [List.take_succ_eq_append_getElem hq, hg, val_append, r.vv]
    show _ = (((10 * val 0 ((l.drop T).take q) + (l[T + q].toNat - 48)) % 18446744073709551616 : Nat) : Int)
    generalize val 0 ((l.drop T).take q) = v
    unfold isDig at hd
    simp only [decide_eq_true_eq] at hd
    generalize l[T + q].toNat = c at *
    rw [wu8 (by omega) (by omega), wu64 (n := (c : Int) - 48) (by omega) (by omega), IntKind.wrap_u64, IntKind.wrap_u64]
    omega
theorem Read.stop {l : List UInt8} {T q : Nat} {i : Int} (r : Read l T q i) (h : l.length ≤ T + q ∨ ∃ hlt : T + q < l.length, isDig l[T + q] = false) : i = ((val 0 (run (l.drop T)) % 18446744073709551616 : Nat) : Int) := by
  have h0 : run ((l.drop T).drop q) = [] := by
    rcases h with h | ⟨hlt, h⟩
    · rw [List.drop_eq_nil_of_le (by rw [List.length_drop]; omega)]; rfl
    · have hq : q < (l.drop T).length := by rw [List.length_drop]; omega
      have hg : (l.drop T)[q]'hq = l[T + q] := by rw [List.getElem_drop]
      rw [List.drop_eq_getElem_cons hq, hg]
      show (match isDig l[T + q] with | true => _ | false => _) = _
      rw [h]
  rw [r.rr, h0, List.append_nil]
  exact r.vv
theorem dig_iff (c : UInt8) : isDig c = true ↔ ((c.toNat : Int) ≥ 48 ∧ (c.toNat : Int) ≤ 57) := by
  unfold isDig
  simp only [decide_eq_true_eq]
  omega
theorem dig_not {c : UInt8} (h : ¬ ((c.toNat : Int) ≥ 48 ∧ (c.toNat : Int) ≤ 57)) : isDig c = false := by
  rw [← Bool.not_eq_true]
  exact fun x => h ((dig_iff c).1 x)

/-- The number that was read is the name's. -/
theorem read_nm {t z l : List UInt8} (hz : run z = []) {m : Nat} (hm : m < 18446744073709551616) (hl : l = nm t z m) : val 0 (run (l.drop t.length)) % 18446744073709551616 = m := by
  rw [hl, run_nm hz, padL_val, Nat.mod_eq_of_lt hm]

end Go.V
set_option linter.unusedVariables false
/-! The plain law of scripts: lines, words, what a line is, what a script comes to. -/
namespace Go.V

abbrev Tx := List UInt8

/-- A piece of a text. -/
def seg (l : Tx) (q i : Nat) : Tx := (l.take i).drop q
theorem seg_self (l : Tx) (i : Nat) : seg l i i = [] := by
  unfold seg
  rw [List.drop_eq_nil_of_le]
  rw [List.length_take]; omega
theorem seg_len {l : Tx} {q i : Nat} (h : i ≤ l.length) : (seg l q i).length = i - q := by
  unfold seg
  rw [List.length_drop, List.length_take, Nat.min_eq_left h]
theorem seg_succ {l : Tx} {q i : Nat} (hq : q ≤ i) (hi : i < l.length) : seg l q (i + 1) = seg l q i ++ [l[i]] := by
  unfold seg
  rw [List.take_succ_eq_append_getElem hi, List.drop_append_of_le_length]
  rw [List.length_take]; omega
theorem seg_nil {l : Tx} {q i : Nat} (hi : i ≤ l.length) (hq : q ≤ i) : seg l q i = [] ↔ q = i := by
  rw [← List.length_eq_zero_iff, seg_len hi]
  omega
theorem seg_all (l : Tx) (q : Nat) : seg l q l.length = l.drop q := by unfold seg; rw [List.take_length]

/-- Lines, words: what is at hand, and what follows. -/
def linesA : Tx → Tx → List Tx
  | cur, [] => if cur = [] then [] else [cur]
  | cur, c :: r => if c = 10 then cur :: linesA [] r else linesA (cur ++ [c]) r
def wordsA : Tx → Tx → List Tx
  | cur, [] => if cur = [] then [] else [cur]
  | cur, c :: r => if c = 32 then (if cur = [] then wordsA [] r else cur :: wordsA [] r) else wordsA (cur ++ [c]) r
def lines (l : Tx) : List Tx := linesA [] l
def words (l : Tx) : List Tx := wordsA [] l

theorem linesA_nil (cur : Tx) : linesA cur [] = if cur = [] then [] else [cur] := rfl
theorem linesA_cons (cur : Tx) (c : UInt8) (r : Tx) : linesA cur (c :: r) = if c = 10 then cur :: linesA [] r else linesA (cur ++ [c]) r := rfl
theorem linesA_cut : ∀ (l cur : Tx), linesA cur l = if cur ++ l = [] then [] else (cur ++ l.takeWhile (· != 10)) :: linesA [] ((l.dropWhile (· != 10)).drop 1)
  | [], cur => by
    rw [linesA_nil]
    by_cases h : cur = []
    · subst h; rfl
    · rw [if_neg h, if_neg (by simpa using h)]
      simp [linesA_nil]
  | c :: r, cur => by
    rw [linesA_cons, if_neg (by simp : ¬ cur ++ c :: r = [])]
    by_cases h : c = 10
    · subst h; simp
    · rw [if_neg h, linesA_cut r (cur ++ [c]), if_neg (by simp)]
      have hb : (c != 10) = true := by simpa using h
      simp [hb]
theorem lines_cut {l : Tx} (h : l ≠ []) : lines l = l.takeWhile (· != 10) :: lines ((l.dropWhile (· != 10)).drop 1) := by
  unfold lines
  rw [linesA_cut l [], if_neg (by simpa using h), List.nil_append]

theorem linesA_step {cur l : Tx} {i : Nat} (hi : i < l.length) (h : l[i] ≠ 10) : linesA cur (l.drop i) = linesA (cur ++ [l[i]]) (l.drop (i + 1)) := by
  rw [List.drop_eq_getElem_cons hi]
  conv => lhs; unfold linesA
  rw [if_neg h]
theorem linesA_nl {cur l : Tx} {i : Nat} (hi : i < l.length) (h : l[i] = 10) : linesA cur (l.drop i) = cur :: linesA [] (l.drop (i + 1)) := by
  rw [List.drop_eq_getElem_cons hi]
  conv => lhs; unfold linesA
  rw [if_pos h]
theorem wordsA_step {cur l : Tx} {i : Nat} (hi : i < l.length) (h : l[i] ≠ 32) : wordsA cur (l.drop i) = wordsA (cur ++ [l[i]]) (l.drop (i + 1)) := by
  rw [List.drop_eq_getElem_cons hi]
  conv => lhs; unfold wordsA
  rw [if_neg h]
theorem wordsA_sp {cur l : Tx} {i : Nat} (hi : i < l.length) (h : l[i] = 32) : wordsA cur (l.drop i) = if cur = [] then wordsA [] (l.drop (i + 1)) else cur :: wordsA [] (l.drop (i + 1)) := by
  rw [List.drop_eq_getElem_cons hi]
  conv => lhs; unfold wordsA
  rw [if_pos h]
theorem wordsA_end {cur l : Tx} {i : Nat} (hi : l.length ≤ i) : wordsA cur (l.drop i) = if cur = [] then [] else [cur] := by
  rw [List.drop_eq_nil_of_le hi]
  rfl
theorem linesA_end {cur l : Tx} {i : Nat} (hi : l.length ≤ i) : linesA cur (l.drop i) = if cur = [] then [] else [cur] := by
  rw [List.drop_eq_nil_of_le hi]
  rfl
/-- Several bytes that are no spaces. -/
theorem wordsA_steps {l : Tx} {q i : Nat} (hq : q ≤ i) : ∀ (w : Nat), i + w ≤ l.length → (∀ j (hj : j < l.length), i ≤ j → j < i + w → l[j] ≠ 32) → wordsA (seg l q i) (l.drop i) = wordsA (seg l q (i + w)) (l.drop (i + w))
  | 0, _, _ => rfl
  | w + 1, hw, h => by
    rw [wordsA_steps hq w (by omega) fun j hj h1 h2 => h j hj h1 (by omega)]
    have hi : i + w < l.length := by omega
    rw [wordsA_step hi (h _ hi (by omega) (by omega)), ← seg_succ (by omega) hi]
    rfl

theorem wordsA_ne : ∀ (l cur : Tx), ∀ w ∈ wordsA cur l, w ≠ []
  | [], cur, w, hw => by
    unfold wordsA at hw
    split at hw
    · cases hw
    · rename_i h; rw [List.mem_singleton] at hw; subst hw; exact h
  | c :: r, cur, w, hw => by
    unfold wordsA at hw
    split at hw
    · split at hw
      · exact wordsA_ne r [] w hw
      · rename_i h
        rcases List.mem_cons.1 hw with rfl | hw
        · exact h
        · exact wordsA_ne r [] w hw
    · exact wordsA_ne r _ w hw
theorem words_ne {l w : Tx} (h : w ∈ words l) : w ≠ [] := wordsA_ne l [] w h

theorem wordsA_len : ∀ (l cur : Tx), (wordsA cur l).length ≤ l.length + 1
  | [], cur => by
    unfold wordsA
    split <;> simp
  | c :: r, cur => by
    unfold wordsA
    have h1 := wordsA_len r []
    have h2 := wordsA_len r (cur ++ [c])
    rw [List.length_cons]
    split
    · split
      · omega
      · rw [List.length_cons]; omega
    · omega
theorem words_len (l : Tx) : (words l).length ≤ l.length + 1 := wordsA_len l []
theorem wordsA_sub : ∀ (l cur : Tx), ∀ w ∈ wordsA cur l, w.length ≤ cur.length + l.length
  | [], cur, w, hw => by
    unfold wordsA at hw
    split at hw
    · cases hw
    · rw [List.mem_singleton] at hw; subst hw; omega
  | c :: r, cur, w, hw => by
    unfold wordsA at hw
    rw [List.length_cons]
    split at hw
    · split at hw
      · have := wordsA_sub r [] w hw; simp only [List.length_nil] at this; omega
      · rcases List.mem_cons.1 hw with rfl | hw
        · omega
        · have := wordsA_sub r [] w hw; simp only [List.length_nil] at this; omega
    · have := wordsA_sub r _ w hw; rw [List.length_append, List.length_singleton] at this; omega

/-! What the further words of a command are. -/
def grA : List Tx := [[119, 114, 105, 116, 101], [102, 111, 114, 103, 101, 116], [104, 111, 108, 100], [115, 116, 101, 112], [108, 97, 115, 116], [102, 97, 109, 105, 108, 105, 101, 115], [98, 101, 103, 105, 110], [99, 111, 109, 109, 105, 116], [97, 98, 111, 114, 116], [99, 114, 97, 115, 104], [99, 104, 101, 99, 107]]
def grB : List Tx := [[111, 112, 101, 110], [100, 114, 111, 112], [102, 114, 101, 101], [102, 108, 117, 115, 104], [108, 111, 115, 101]]
def grC : List Tx := [[109, 97, 107, 101]]
def grD : List Tx := [[112, 117, 116], [114, 97, 110, 103, 101], [97, 100, 100], [99, 108, 101, 97, 114], [99, 111, 109, 112, 97, 99, 116], [115, 101, 116]]
def grE : List Tx := [[100, 101, 108], [99, 117, 116], [114, 101, 97, 100], [117, 110, 115, 101, 116], [111, 108, 100]]
def grF : List Tx := [[103, 101, 116]]
def grG : List Tx := [[115, 99, 97, 110], [98, 97, 99, 107]]
def grH : List Tx := [[116, 97, 107, 101]]
def grI : List Tx := [[109, 97, 114, 107], [115, 101, 101]]
def grJ : List Tx := [[115, 97, 118, 101]]
def kindsOf (l : Tx) : Option Tx :=
  if l ∈ grA ∨ l ∈ grJ then some [] else if l ∈ grB then some [68] else if l ∈ grC then some [78, 68] else if l ∈ grD then some [68, 78, 78] else if l ∈ grE then some [68, 78]
  else if l ∈ grF then some [68, 78, 68] else if l ∈ grG then some [68, 68] else if l ∈ grH then some [68, 78, 78, 78, 78] else if l ∈ grI then some [78] else none
theorem kindsOf_dn {l ks : Tx} (h : kindsOf l = some ks) : ∀ c ∈ ks, c = 68 ∨ c = 78 := by
  unfold kindsOf at h
  repeat' (split at h)
  all_goals first | (cases h; decide) | cases h
theorem kindsOf_len {l ks : Tx} (h : kindsOf l = some ks) : ks.length ≤ 5 := by
  unfold kindsOf at h
  repeat' (split at h)
  all_goals first | (cases h; decide) | cases h

def isNum (w : Tx) : Bool := !w.isEmpty && decide (w.length ≤ 4) && w.all isDig
def fits (k : UInt8) (w : Tx) : Bool := if k = 68 then isNum w else decide (w.length ≤ 20)

/-- What a line is: nothing, none that can be, or a command. -/
inductive Cl where
  | skip
  | bad
  | good (w : Tx) (a : List Tx)
def allFit : Tx → List Tx → Bool
  | [], [] => true
  | k :: ks, w :: ws => fits k w && allFit ks ws
  | _, _ => false
def cls : List Tx → Cl
  | [] => .skip
  | w :: a => if w.head? = some 35 then .skip else match kindsOf w with
    | none => .bad
    | some ks => match allFit ks a with | true => .good w a | false => .bad

/-- A command. -/
structure Say where
  line : Nat
  word : Tx
  args : List Tx
/-- What lines come to, from a line's number on, behind commands: the commands, the line that can't be, and why. -/
def runL : List Tx → Nat → List Say → List Say × Nat × Nat
  | [], _, acc => (acc, 0, 0)
  | l :: r, n, acc => match cls (words l) with
    | .skip => runL r (n + 1) acc
    | .bad => ([], n, 300)
    | .good w a => if 300 ≤ acc.length then ([], n, 300) else runL r (n + 1) (acc ++ [⟨n, w, a⟩])
def parseL (t : Tx) : List Say × Nat × Nat := if 131072 < t.length then ([], 0, 2) else runL (lines t) 1 []

theorem allFit_len : ∀ {ks : Tx} {ws : List Tx}, allFit ks ws = true → ks.length = ws.length
  | [], [], _ => rfl
  | k :: ks, w :: ws, h => by
    unfold allFit at h
    rw [Bool.and_eq_true] at h
    rw [List.length_cons, List.length_cons, allFit_len h.2]
  | [], _ :: _, h => by cases h
  | _ :: _, [], h => by cases h
theorem allFit_iff : ∀ {ks : Tx} {ws : List Tx}, allFit ks ws = true ↔ (ks.length = ws.length ∧ ∀ (i : Nat) k w, ks[i]? = some k → ws[i]? = some w → fits k w = true)
  | [], [] => by simp [allFit]
  | k :: ks, w :: ws => by
    unfold allFit
    rw [Bool.and_eq_true, allFit_iff]
    constructor
    · rintro ⟨h1, h2, h3⟩
      refine ⟨by simp [h2], fun i a b ha hb => ?_⟩
      cases i with
      | zero => simp at ha hb; subst ha; subst hb; exact h1
      | succ i => exact h3 i a b (by simpa using ha) (by simpa using hb)
    · rintro ⟨h2, h3⟩
      exact ⟨h3 0 k w rfl rfl, by simpa using h2, fun i a b ha hb => h3 (i + 1) a b (by simpa using ha) (by simpa using hb)⟩
  | [], _ :: _ => by simp [allFit]
  | _ :: _, [] => by simp [allFit]

end Go.V
