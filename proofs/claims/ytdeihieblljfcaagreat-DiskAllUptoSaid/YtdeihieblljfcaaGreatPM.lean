/- This text proves a part of the laws of seat YtdeihieblljfcaaGreat, under no condition: F1l E2p E2t S2p. -/
import Derived.Shelf.Strings.Cut
import Derived.Shelf.Sort.Plain
import Derived.Shelf.Slices.In.SortNone
import Derived.Shelf.SlMaps.Clone
import Derived.Test.YtdeihieblljfcaaGreatChecked
import Derived.Lib.ItoaNum
import Derived.Lib.ParseIntBCases
import Derived.Test.YtdeihieblljfcaaGreatPC
set_option maxRecDepth 100000
/-! The shelf's layings for this seat: which of its numbers is which of the library's functions and types. -/
namespace Go.V.YtdeihieblljfcaaGreat
open Go Go.Proofs Go.Shelf
def lays145_ren : Go.Shelf.Ren := ⟨fun | 145 => 181 | 220 => 213 | 219 => 244 | 217 => 274 | 225 => 275 | 224 => 276 | 267 => 277 | 266 => 287 | 314 => 288 | n => n, fun | 9 => 9 | 4 => 4 | 59 => 228 | 3 => 3 | 5 => 5 | 46 => 209 | 146 => 303 | 51 => 267 | n => n, fun | 1 => 0 | n => n⟩
theorem lays145 : Go.Proofs.Lays.n145 Tryz.prog lays145_ren := {
  mixed := by kernel_rfl,
  f145 := Tryz.func181.trans (congrArg some (by kernel_rfl)),
  f217 := Tryz.func274.trans (congrArg some (by kernel_rfl)),
  f219 := Tryz.func244.trans (congrArg some (by kernel_rfl)),
  f220 := Tryz.func213.trans (congrArg some (by kernel_rfl)),
  f224 := Tryz.func276.trans (congrArg some (by kernel_rfl)),
  f225 := Tryz.func275.trans (congrArg some (by kernel_rfl)),
  f266 := Tryz.func287.trans (congrArg some (by kernel_rfl)),
  f267 := Tryz.func277.trans (congrArg some (by kernel_rfl)),
  f314 := Tryz.func288.trans (congrArg some (by kernel_rfl)),
  t3 := Tryz.underlying3,
  a3 := Tryz.isAgg3,
  z3 := Tryz.sizeOf3,
  v3 := Tryz.zeroValue3,
  t4 := Tryz.underlying4,
  a4 := Tryz.isAgg4,
  z4 := Tryz.sizeOf4,
  v4 := Tryz.zeroValue4,
  t5 := Tryz.underlying5,
  a5 := Tryz.isAgg5,
  z5 := Tryz.sizeOf5,
  v5 := Tryz.zeroValue5,
  t9 := Tryz.underlying9,
  a9 := Tryz.isAgg9,
  z9 := Tryz.sizeOf9,
  v9 := Tryz.zeroValue9,
  t46 := Tryz.underlying209,
  a46 := Tryz.isAgg209,
  z46 := Tryz.sizeOf209,
  v46 := Tryz.zeroValue209,
  t51 := Tryz.underlying267,
  a51 := Tryz.isAgg267,
  z51 := Tryz.sizeOf267,
  v51 := Tryz.zeroValue267,
  t59 := Tryz.underlying228,
  a59 := Tryz.isAgg228,
  z59 := Tryz.sizeOf228,
  v59 := Tryz.zeroValue228,
  t146 := Tryz.underlying303,
  a146 := Tryz.isAgg303,
  z146 := Tryz.sizeOf303,
  v146 := Tryz.zeroValue303,
  g1 := by kernel_rfl }
def lays190_ren : Go.Shelf.Ren := ⟨fun | 190 => 184 | 125 => 208 | 258 => 216 | 128 => 234 | 129 => 235 | 302 => 245 | 303 => 246 | 304 => 247 | 305 => 248 | 306 => 249 | 307 => 250 | 308 => 251 | 309 => 252 | 310 => 253 | 333 => 278 | 329 => 267 | 330 => 268 | 334 => 279 | 335 => 280 | 336 => 281 | 344 => 289 | n => n, fun | 31 => 66 | 9 => 9 | 3 => 3 | 46 => 209 | 0 => 0 | 51 => 267 | 53 => 51 | 4 => 4 | 183 => 261 | 182 => 260 | 131 => 217 | 5 => 5 | 218 => 285 | 222 => 289 | 228 => 299 | 229 => 300 | n => n, fun | n => n⟩
theorem lays190 : Go.Proofs.Lays.n190 Tryz.prog lays190_ren := {
  mixed := by kernel_rfl,
  f125 := Tryz.func208.trans (congrArg some (by kernel_rfl)),
  f128 := Tryz.func234.trans (congrArg some (by kernel_rfl)),
  f129 := Tryz.func235.trans (congrArg some (by kernel_rfl)),
  f190 := Tryz.func184.trans (congrArg some (by kernel_rfl)),
  f258 := Tryz.func216.trans (congrArg some (by kernel_rfl)),
  f302 := Tryz.func245.trans (congrArg some (by kernel_rfl)),
  f303 := Tryz.func246.trans (congrArg some (by kernel_rfl)),
  f304 := Tryz.func247.trans (congrArg some (by kernel_rfl)),
  f305 := Tryz.func248.trans (congrArg some (by kernel_rfl)),
  f306 := Tryz.func249.trans (congrArg some (by kernel_rfl)),
  f307 := Tryz.func250.trans (congrArg some (by kernel_rfl)),
  f308 := Tryz.func251.trans (congrArg some (by kernel_rfl)),
  f309 := Tryz.func252.trans (congrArg some (by kernel_rfl)),
  f310 := Tryz.func253.trans (congrArg some (by kernel_rfl)),
  f329 := Tryz.func267.trans (congrArg some (by kernel_rfl)),
  f330 := Tryz.func268.trans (congrArg some (by kernel_rfl)),
  f333 := Tryz.func278.trans (congrArg some (by kernel_rfl)),
  f334 := Tryz.func279.trans (congrArg some (by kernel_rfl)),
  f335 := Tryz.func280.trans (congrArg some (by kernel_rfl)),
  f336 := Tryz.func281.trans (congrArg some (by kernel_rfl)),
  f344 := Tryz.func289.trans (congrArg some (by kernel_rfl)),
  t0 := Tryz.underlying0,
  a0 := Tryz.isAgg0,
  z0 := Tryz.sizeOf0,
  v0 := Tryz.zeroValue0,
  t3 := Tryz.underlying3,
  a3 := Tryz.isAgg3,
  z3 := Tryz.sizeOf3,
  v3 := Tryz.zeroValue3,
  t4 := Tryz.underlying4,
  a4 := Tryz.isAgg4,
  z4 := Tryz.sizeOf4,
  v4 := Tryz.zeroValue4,
  t5 := Tryz.underlying5,
  a5 := Tryz.isAgg5,
  z5 := Tryz.sizeOf5,
  v5 := Tryz.zeroValue5,
  t9 := Tryz.underlying9,
  a9 := Tryz.isAgg9,
  z9 := Tryz.sizeOf9,
  v9 := Tryz.zeroValue9,
  t31 := Tryz.underlying66,
  a31 := Tryz.isAgg66,
  z31 := Tryz.sizeOf66,
  v31 := Tryz.zeroValue66,
  t46 := Tryz.underlying209,
  a46 := Tryz.isAgg209,
  z46 := Tryz.sizeOf209,
  v46 := Tryz.zeroValue209,
  t51 := Tryz.underlying267,
  a51 := Tryz.isAgg267,
  z51 := Tryz.sizeOf267,
  v51 := Tryz.zeroValue267,
  t53 := Tryz.underlying51,
  a53 := Tryz.isAgg51,
  z53 := Tryz.sizeOf51,
  v53 := Tryz.zeroValue51,
  t131 := Tryz.underlying217,
  a131 := Tryz.isAgg217,
  z131 := Tryz.sizeOf217,
  v131 := Tryz.zeroValue217,
  t182 := Tryz.underlying260,
  a182 := Tryz.isAgg260,
  z182 := Tryz.sizeOf260,
  v182 := Tryz.zeroValue260,
  t183 := Tryz.underlying261,
  a183 := Tryz.isAgg261,
  z183 := Tryz.sizeOf261,
  v183 := Tryz.zeroValue261,
  t218 := Tryz.underlying285,
  a218 := Tryz.isAgg285,
  z218 := Tryz.sizeOf285,
  v218 := Tryz.zeroValue285,
  t222 := Tryz.underlying289,
  a222 := Tryz.isAgg289,
  z222 := Tryz.sizeOf289,
  v222 := Tryz.zeroValue289,
  t228 := Tryz.underlying299,
  a228 := Tryz.isAgg299,
  z228 := Tryz.sizeOf299,
  v228 := Tryz.zeroValue299,
  t229 := Tryz.underlying300,
  a229 := Tryz.isAgg300,
  z229 := Tryz.sizeOf300,
  v229 := Tryz.zeroValue300 }
def laysW5_ren : Go.Shelf.Ren := ⟨fun | 5 => 182 | 7 => 214 | n => n, fun | 23 => 113 | 25 => 9 | 3 => 98 | 4 => 4 | 20 => 20 | n => n, fun | n => n⟩
theorem laysW5 : Go.Proofs.SlLaysW.n5 Tryz.prog laysW5_ren := {
  mixed := by kernel_rfl,
  f5 := ⟨Tryz.f182.name, by kernel_rfl, Tryz.func182.trans (congrArg some (by kernel_rfl))⟩,
  f7 := Tryz.func214.trans (congrArg some (by kernel_rfl)),
  t4 := Tryz.underlying4,
  a4 := Tryz.isAgg4,
  z4 := Tryz.sizeOf4,
  v4 := Tryz.zeroValue4,
  t20 := Tryz.underlying20,
  a20 := Tryz.isAgg20,
  z20 := Tryz.sizeOf20,
  v20 := Tryz.zeroValue20,
  t23 := Tryz.underlying113,
  a23 := Tryz.isAgg113,
  z23 := Tryz.sizeOf113,
  v23 := Tryz.zeroValue113 }
end Go.V.YtdeihieblljfcaaGreat
set_option linter.unusedVariables false
/-! The plain law of names that are a number of at least six digits. -/
namespace Go.V
open Go.Lib

def d8 (n : Nat) : UInt8 := UInt8.ofNat (48 + n % 10)
theorem d8_toNat (n : Nat) : (d8 n).toNat = 48 + n % 10 := by
  unfold d8
  rw [UInt8.toNat_ofNat']
  omega
def isDig (c : UInt8) : Bool := decide (48 ≤ c.toNat ∧ c.toNat ≤ 57)
def padL (k n : Nat) : List UInt8 := if h : n = 0 ∧ k = 0 then [] else padL (k - 1) (n / 10) ++ [d8 n]
  termination_by n + k
  decreasing_by
  by_cases h0 : n = 0
  · subst h0; omega
  · have := Nat.div_le_self n 10
    have := Nat.div_lt_self (show 0 < n by omega) (show 1 < 10 by omega)
    omega

theorem padL_nil : padL 0 0 = [] := by rw [padL]; simp
theorem padL_step {k n : Nat} (h : ¬ (n = 0 ∧ k = 0)) : padL k n = padL (k - 1) (n / 10) ++ [d8 n] := by rw [padL, dif_neg h]

def val (acc : Nat) : List UInt8 → Nat
  | [] => acc
  | c :: r => val (10 * acc + (c.toNat - 48)) r
theorem val_append (acc : Nat) (a b : List UInt8) : val acc (a ++ b) = val (val acc a) b := by
  induction a generalizing acc with
  | nil => rfl
  | cons c a ih => exact ih _
theorem val_padL : ∀ (m k n : Nat), n + k = m → val 0 (padL k n) = n := by
  intro m
  induction m using Nat.strongRecOn with
  | _ m ih =>
    intro k n hm
    by_cases h : n = 0 ∧ k = 0
    · obtain ⟨rfl, rfl⟩ := h; rw [padL_nil]; rfl
    · have : n / 10 ≤ n := Nat.div_le_self n 10
      have : n / 10 + (k - 1) < m := by
        by_cases h0 : n = 0
        · subst h0; omega
        · have := Nat.div_lt_self (show 0 < n by omega) (show 1 < 10 by omega); omega
      rw [padL_step h, val_append, ih _ this (k - 1) (n / 10) rfl]
      show 10 * (n / 10) + ((d8 n).toNat - 48) = n
      rw [d8_toNat]
      omega
theorem padL_val (k n : Nat) : val 0 (padL k n) = n := val_padL _ k n rfl
theorem padL_inj {k m n : Nat} (h : padL k m = padL k n) : m = n := by rw [← padL_val k m, h, padL_val]

def run : List UInt8 → List UInt8
  | [] => []
  | c :: r => match isDig c with | true => c :: run r | false => []
def nm (t z : List UInt8) (n : Nat) : List UInt8 := t ++ padL 6 n ++ z
theorem nm_inj {t z : List UInt8} {m n : Nat} (h : nm t z m = nm t z n) : m = n := by
  unfold nm at h
  exact padL_inj (List.append_cancel_left (List.append_cancel_right h))
def NumR (t z : List UInt8) (s : List UInt8) (a : Int) (is : Bool) : Prop :=
  (∃ m : Nat, m < 18446744073709551616 ∧ s = nm t z m ∧ a = m ∧ is = true) ∨ ((∀ m : Nat, m < 18446744073709551616 → s ≠ nm t z m) ∧ a = 0 ∧ is = false)
theorem NumR.same {t z s : List UInt8} {a b : Int} {x y : Bool} (h : NumR t z s a x) (k : NumR t z s b y) : a = b ∧ x = y := by
  rcases h with ⟨m, hm, hs, ha, hx⟩ | ⟨h, ha, hx⟩ <;> rcases k with ⟨n, hn, ks, kb, ky⟩ | ⟨k, kb, ky⟩
  · have := nm_inj (hs.symm.trans ks)
    subst this
    exact ⟨ha.trans kb.symm, hx.trans ky.symm⟩
  · exact absurd hs (k m hm)
  · exact absurd ks (h n hn)
  · exact ⟨ha.trans kb.symm, hx.trans ky.symm⟩
theorem NumR.hit {t z : List UInt8} {n : Nat} (hn : n < 18446744073709551616) {a : Int} {x : Bool} (h : NumR t z (nm t z n) a x) : a = n ∧ x = true := by
  rcases h with ⟨m, hm, hs, ha, hx⟩ | ⟨h, _, _⟩
  · have := nm_inj hs
    subst this
    exact ⟨ha, hx⟩
  · exact absurd rfl (h n hn)
theorem NumR.of {t z s : List UInt8} {g : Nat} (hg : g < 18446744073709551616) (hs : ∀ m : Nat, m < 18446744073709551616 → s = nm t z m → g = m) :
    (s = nm t z g → NumR t z s g true) ∧ (s ≠ nm t z g → NumR t z s 0 false) :=
  ⟨fun h => .inl ⟨g, hg, h, rfl, rfl⟩, fun h => .inr ⟨fun m hm hm' => h (by rw [hs m hm hm']; exact hm'), rfl, rfl⟩⟩

end Go.V
/-! Texts as rows of bytes. -/
namespace Go.V
open Go.Lib

def tx (l : List UInt8) : ByteArray := ⟨l.toArray⟩
theorem tx_eta (s : ByteArray) : tx s.data.toList = s := by cases s; simp [tx]
theorem tx_list (l : List UInt8) : (tx l).data.toList = l := by simp [tx]
theorem tx_size (l : List UInt8) : (tx l).size = l.length := by simp [tx, ByteArray.size]
theorem tx_app (a b : List UInt8) : tx a ++ tx b = tx (a ++ b) := by
  apply ByteArray.ext
  apply Array.toList_inj.1
  simp [tx, ByteArray.data_append]
theorem tx_inj {a b : List UInt8} (h : tx a = tx b) : a = b := by rw [← tx_list a, h, tx_list]
theorem tx_eq (a b : List UInt8) : strEq (tx a) (tx b) = decide (a = b) := by
  have e : strEq (tx a) (tx b) = (a.toArray == b.toArray) := rfl
  rw [e, Bool.eq_iff_iff]
  simp
theorem tx_extract (l : List UInt8) (i j : Nat) : (tx l).extract i j = tx ((l.take j).drop i) := by
  apply ByteArray.ext
  apply Array.toList_inj.1
  simp [tx, ByteArray.data_extract, List.drop_take, List.extract]
theorem tx_bt {l : List UInt8} {j : Nat} (h : j < l.length) : bt (tx l) (j : Int) = ((l[j]'h).toNat : Int) := by
  unfold bt
  rw [tx_list, show (j : Int).toNat = j from rfl]
  rw [List.getD_eq_getElem?_getD, List.getElem?_eq_getElem h]
  rfl

structure Read (l : List UInt8) (T q : Nat) (i : Int) : Prop where
  rr : run (l.drop T) = (l.drop T).take q ++ run ((l.drop T).drop q)
  vv : i = ((val 0 ((l.drop T).take q) % 18446744073709551616 : Nat) : Int)
  le : q ≤ (l.drop T).length
theorem Read.start (l : List UInt8) (T : Nat) : Read l T 0 0 := ⟨by rw [List.take_zero, List.drop_zero]; rfl, by rw [List.take_zero]; show (0 : Int) = ((0 % 18446744073709551616 : Nat) : Int); rw [Nat.zero_mod]; rfl, Nat.zero_le _⟩
theorem Read.stop {l : List UInt8} {T q : Nat} {i : Int} (r : Read l T q i) (h : l.length ≤ T + q ∨ ∃ hlt : T + q < l.length, isDig l[T + q] = false) : i = ((val 0 (run (l.drop T)) % 18446744073709551616 : Nat) : Int) := by
  have h0 : run ((l.drop T).drop q) = [] := by
    rcases h with h | ⟨hlt, h⟩
    · rw [List.drop_eq_nil_of_le (by rw [List.length_drop]; omega)]; rfl
    · have hq : q < (l.drop T).length := by rw [List.length_drop]; omega
      have hg : (l.drop T)[q]'hq = l[T + q] := by rw [List.getElem_drop]
      rw [List.drop_eq_getElem_cons hq, hg]
      show (match isDig l[T + q] with | true => _ | false => _) = _
      rw [h]
  rw [r.rr, h0, List.append_nil]
  exact r.vv
end Go.V
/-! The plain law of scripts: lines, words, what a line is, what a script comes to. -/
namespace Go.V

abbrev Tx := List UInt8

/-! What the further words of a command are. -/
def grA : List Tx := [[119, 114, 105, 116, 101], [102, 111, 114, 103, 101, 116], [104, 111, 108, 100], [115, 116, 101, 112], [108, 97, 115, 116], [102, 97, 109, 105, 108, 105, 101, 115], [98, 101, 103, 105, 110], [99, 111, 109, 109, 105, 116], [97, 98, 111, 114, 116], [99, 114, 97, 115, 104], [99, 104, 101, 99, 107]]
def grB : List Tx := [[111, 112, 101, 110], [100, 114, 111, 112], [102, 114, 101, 101], [102, 108, 117, 115, 104], [108, 111, 115, 101]]
def grC : List Tx := [[109, 97, 107, 101]]
def grD : List Tx := [[112, 117, 116], [114, 97, 110, 103, 101], [97, 100, 100], [99, 108, 101, 97, 114], [99, 111, 109, 112, 97, 99, 116], [115, 101, 116]]
def grE : List Tx := [[100, 101, 108], [99, 117, 116], [114, 101, 97, 100], [117, 110, 115, 101, 116], [111, 108, 100]]
def grF : List Tx := [[103, 101, 116]]
def grG : List Tx := [[115, 99, 97, 110], [98, 97, 99, 107]]
def grH : List Tx := [[116, 97, 107, 101]]
def grI : List Tx := [[109, 97, 114, 107], [115, 101, 101]]
def grJ : List Tx := [[115, 97, 118, 101]]
def kindsOf (l : Tx) : Option Tx :=
  if l ∈ grA ∨ l ∈ grJ then some [] else if l ∈ grB then some [68] else if l ∈ grC then some [78, 68] else if l ∈ grD then some [68, 78, 78] else if l ∈ grE then some [68, 78]
  else if l ∈ grF then some [68, 78, 68] else if l ∈ grG then some [68, 68] else if l ∈ grH then some [68, 78, 78, 78, 78] else if l ∈ grI then some [78] else none
def isNum (w : Tx) : Bool := !w.isEmpty && decide (w.length ≤ 4) && w.all isDig
def fits (k : UInt8) (w : Tx) : Bool := if k = 68 then isNum w else decide (w.length ≤ 20)

inductive Cl where
  | skip
  | bad
  | good (w : Tx) (a : List Tx)
def allFit : Tx → List Tx → Bool
  | [], [] => true
  | k :: ks, w :: ws => fits k w && allFit ks ws
  | _, _ => false
def cls : List Tx → Cl
  | [] => .skip
  | w :: a => if w.head? = some 35 then .skip else match kindsOf w with
    | none => .bad
    | some ks => match allFit ks a with | true => .good w a | false => .bad

end Go.V
