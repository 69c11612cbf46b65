/- This text proves a part of the laws of seat YtdeihieblljfcaaDoor, under no condition: E2a2. -/
import Derived.Test.YtdeihieblljfcaaDoorEI
import Derived.Test.YtdeihieblljfcaaDoorEF
set_option linter.unusedVariables false
set_option linter.unusedSimpArgs false
/-! The document's names: tables. -/
namespace Go.V.YtdeihieblljfcaaDoor
open Go Go.V Go.Lib

def t13 : List UInt8 := []
def z13 : List UInt8 := [46, 115, 115, 116]

theorem c13 {n : Nat} (hn : n < 18446744073709551616) {h : Heap} {R : ByteArray → Heap → Prop} (k : ∀ h', Ext0 h h' → R (tx (nm t13 z13 n)) h') :
    Call Go.Proofs.Tryd.prog 13 [.lf (.int .u64 (n : Int))] h [.one .str] R := by
  refine ok13 ⟨fun i s hh b => ∃ (m : Nat) (l : List UInt8), i = m ∧ s = tx l ∧ padL 6 n = padL (6 - l.length) m ++ l ∧ m < 18446744073709551616 ∧ Ext0 h hh ∧ b = m + (6 - l.length),
    ⟨_, n, [], rfl, rfl, by simp, hn, Ext.refl _ _, rfl⟩, ?_⟩
  rintro _ _ h4 _ ⟨m, l, rfl, rfl, hp, hm, e, rfl⟩
  have hl26 := padL_len26 hn
  have hl : l.length ≤ 26 := by rw [hp, List.length_append] at hl26; omega
  refine ⟨fun hh => hh = h4 ∧ (0 < m ∨ l.length < 6), Br.dec (fun x => ⟨rfl, .inl (by omega)⟩) fun x => Br.dec (fun y => ⟨rfl, .inr (by rw [tx_size] at y; omega)⟩) fun y => ?_, ?_⟩
  · rw [tx_size] at y
    obtain rfl : m = 0 := by omega
    refine ⟨by rw [tx_size]; omega, ?_⟩
    have := k h4 e
    unfold nm at this
    rw [hp, show 6 - l.length = 0 by omega, padL_nil] at this
    rw [show tx l ++ ByteArray.mk #[(46 : UInt8), (115 : UInt8), (115 : UInt8), (116 : UInt8)] = tx (t13 ++ ([] ++ l) ++ z13) from by rw [List.nil_append, show t13 = [] from rfl, List.nil_append]; exact tx_app l z13]
    exact this
  · rintro _ ⟨rfl, hx⟩
    refine ⟨by omega, New.mk fun b8 h9 hb hs e9 k9 => ?_⟩
    rw [wd8 m] at k9
    refine ⟨tx [d8 m], bytes_one k9, by rw [tx_size, tx_size, List.length_singleton]; omega, by omega, m / 10 + (6 - (d8 m :: l).length), ?_, m / 10, d8 m :: l, ?_, tx_app _ _, padL_more hp hx, by omega, e.trans e9, rfl⟩
    · rw [List.length_cons]; omega
    · rw [Int.tdiv_eq_ediv_of_nonneg (by omega), wu64 (by omega) (by omega)]; omega

theorem c11 {l : List UInt8} (hl : l.length ≤ 9223372036854775807) {h : Heap} {R : Int → Bool → Heap → Prop} (k : ∀ a is h', Ext0 h h' → NumR t13 z13 l a is → R a is h') :
    Call Go.Proofs.Tryd.prog 11 [.lf (.str (tx l))] h [.one (.int .u64), .one .bool] R := by
  refine ok11 ⟨fun n i hh b => ∃ q : Nat, i = ((0 + q : Nat) : Int) ∧ hh = h ∧ Read l 0 q n ∧ b = l.length - q, ⟨_, 0, rfl, rfl, Read.start _ _, rfl⟩, ?_⟩
  rintro n _ h4 _ ⟨q, rfl, hh, r, rfl⟩
  subst hh
  have done : (l.length ≤ 0 + q ∨ ∃ hlt : 0 + q < l.length, isDig l[0 + q] = false) →
      Call Go.Proofs.Tryd.prog 13 [VV.lf (Lf.int IntKind.u64 n)] h4 [VT.one LT.str] fun (t : ByteArray) (h' : Heap) => Br (!strEq t (tx l)) (R (0 : Int) Bool.false h') (R n Bool.true h') := fun hx => by
    have hn := r.stop hx
    rw [hn]
    have hlt : val 0 (run (l.drop 0)) % 18446744073709551616 < 18446744073709551616 := Nat.mod_lt _ (by omega)
    refine c13 hlt fun h' e => ?_
    have ho := NumR.of (t := t13) (z := z13) (s := l) hlt fun m hm hs => read_nm (t := t13) (z := z13) (by rfl) hm hs
    rw [tx_eq]
    refine Br.not (fun hf => ?_) fun ht => ?_
    · exact k _ _ _ e (ho.2 fun x => by rw [decide_eq_false_iff_not] at hf; exact hf x.symm)
    · exact k _ _ _ e (ho.1 (by rw [decide_eq_true_eq] at ht; exact ht.symm))
  refine ⟨fun hh => hh = h4 ∧ ∃ hlt : 0 + q < l.length, isDig l[0 + q] = true, ?_, ?_⟩
  · refine Br.dec (fun hlt => ?_) fun hge => done (.inl (by rw [tx_size] at hge; omega))
    have hlt' : 0 + q < l.length := by rw [tx_size] at hlt; omega
    refine ⟨by omega, hlt, ?_⟩
    rw [tx_bt hlt']
    refine Br.dec (fun h1 => ⟨by omega, hlt, Br.dec (fun h2 => ⟨rfl, hlt', (dig_iff _).2 ⟨h1, h2⟩⟩) fun h2 => done (.inr ⟨hlt', dig_not fun x => h2 x.2⟩)⟩) fun h1 => done (.inr ⟨hlt', dig_not fun x => h1 x.1⟩)
  · rintro _ ⟨rfl, hlt, hd⟩
    refine ⟨by omega, by rw [tx_size]; omega, l.length - (q + 1), by omega, q + 1, by rw [wi64 (by omega) (by omega)]; omega, rfl, ?_, rfl⟩
    rw [tx_bt hlt]
    exact r.dig hlt hd

end Go.V.YtdeihieblljfcaaDoor
