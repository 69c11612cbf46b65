/- This text proves a part of the laws of seat YtdeihieblljfcaaDoor, under no condition: E2a. -/
import Derived.Test.YtdeihieblljfcaaDoorEI
import Derived.Test.YtdeihieblljfcaaDoorEF
set_option linter.unusedVariables false
set_option linter.unusedSimpArgs false
/-! The document's names: manifests. -/
namespace Go.V.YtdeihieblljfcaaDoor
open Go Go.V Go.Lib

def t9 : List UInt8 := [77, 65, 78, 73, 70, 69, 83, 84, 45]
def z9 : List UInt8 := []

theorem c9 {n : Nat} (hn : n < 18446744073709551616) {h : Heap} {R : ByteArray → Heap → Prop} (k : ∀ h', Ext0 h h' → R (tx (nm t9 z9 n)) h') :
    Call Go.Proofs.Tryd.prog 9 [.lf (.int .u64 (n : Int))] h [.one .str] R := by
  refine ok9 ⟨fun i s hh b => ∃ (m : Nat) (l : List UInt8), i = m ∧ s = tx l ∧ padL 6 n = padL (6 - l.length) m ++ l ∧ m < 18446744073709551616 ∧ Ext0 h hh ∧ b = m + (6 - l.length),
    ⟨_, n, [], rfl, rfl, by simp, hn, Ext.refl _ _, rfl⟩, ?_⟩
  rintro _ _ h4 _ ⟨m, l, rfl, rfl, hp, hm, e, rfl⟩
  have hl26 := padL_len26 hn
  have hl : l.length ≤ 26 := by rw [hp, List.length_append] at hl26; omega
  refine ⟨fun hh => hh = h4 ∧ (0 < m ∨ l.length < 6), Br.dec (fun x => ⟨rfl, .inl (by omega)⟩) fun x => Br.dec (fun y => ⟨rfl, .inr (by rw [tx_size] at y; omega)⟩) fun y => ?_, ?_⟩
  · rw [tx_size] at y
    obtain rfl : m = 0 := by omega
    refine ⟨by rw [tx_size]; omega, ?_⟩
    have := k h4 e
    unfold nm at this
    rw [hp, show 6 - l.length = 0 by omega, padL_nil] at this
    rw [show ByteArray.mk #[(77 : UInt8), (65 : UInt8), (78 : UInt8), (73 : UInt8), (70 : UInt8), (69 : UInt8), (83 : UInt8), (84 : UInt8), (45 : UInt8)] ++ tx l = tx (t9 ++ ([] ++ l) ++ z9) from by rw [List.nil_append, show z9 = [] from rfl, List.append_nil]; exact tx_app t9 l]
    exact this
  · rintro _ ⟨rfl, hx⟩
    refine ⟨by omega, New.mk fun b8 h9 hb hs e9 k9 => ?_⟩
    rw [wd8 m] at k9
    refine ⟨tx [d8 m], bytes_one k9, by rw [tx_size, tx_size, List.length_singleton]; omega, by omega, m / 10 + (6 - (d8 m :: l).length), ?_, m / 10, d8 m :: l, ?_, tx_app _ _, padL_more hp hx, by omega, e.trans e9, rfl⟩
    · rw [List.length_cons]; omega
    · rw [Int.tdiv_eq_ediv_of_nonneg (by omega), wu64 (by omega) (by omega)]; omega

theorem c7 {l : List UInt8} (hl : l.length ≤ 9223372036854775807) {h : Heap} {R : Int → Bool → Heap → Prop} (k : ∀ a is h', Ext0 h h' → NumR t9 z9 l a is → R a is h') :
    Call Go.Proofs.Tryd.prog 7 [.lf (.str (tx l))] h [.one (.int .u64), .one .bool] R := by
  refine ok7 ⟨fun n i hh b => ∃ q : Nat, i = ((9 + q : Nat) : Int) ∧ hh = h ∧ Read l 9 q n ∧ b = l.length - q, ⟨_, 0, rfl, rfl, Read.start _ _, rfl⟩, ?_⟩
  rintro n _ h4 _ ⟨q, rfl, hh, r, rfl⟩
  subst hh
  have done : (l.length ≤ 9 + q ∨ ∃ hlt : 9 + q < l.length, isDig l[9 + q] = false) →
      Call Go.Proofs.Tryd.prog 9 [VV.lf (Lf.int IntKind.u64 n)] h4 [VT.one LT.str] fun (t : ByteArray) (h' : Heap) => Br (!strEq t (tx l)) (R (0 : Int) Bool.false h') (R n Bool.true h') := fun hx => by
    have hn := r.stop hx
    rw [hn]
    have hlt : val 0 (run (l.drop 9)) % 18446744073709551616 < 18446744073709551616 := Nat.mod_lt _ (by omega)
    refine c9 hlt fun h' e => ?_
    have ho := NumR.of (t := t9) (z := z9) (s := l) hlt fun m hm hs => read_nm (t := t9) (z := z9) (by rfl) hm hs
    rw [tx_eq]
    refine Br.not (fun hf => ?_) fun ht => ?_
    · exact k _ _ _ e (ho.2 fun x => by rw [decide_eq_false_iff_not] at hf; exact hf x.symm)
    · exact k _ _ _ e (ho.1 (by rw [decide_eq_true_eq] at ht; exact ht.symm))
  refine ⟨fun hh => hh = h4 ∧ ∃ hlt : 9 + q < l.length, isDig l[9 + q] = true, ?_, ?_⟩
  · refine Br.dec (fun hlt => ?_) fun hge => done (.inl (by rw [tx_size] at hge; omega))
    have hlt' : 9 + q < l.length := by rw [tx_size] at hlt; omega
    refine ⟨by omega, hlt, ?_⟩
    rw [tx_bt hlt']
    refine Br.dec (fun h1 => ⟨by omega, hlt, Br.dec (fun h2 => ⟨rfl, hlt', (dig_iff _).2 ⟨h1, h2⟩⟩) fun h2 => done (.inr ⟨hlt', dig_not fun x => h2 x.2⟩)⟩) fun h1 => done (.inr ⟨hlt', dig_not fun x => h1 x.1⟩)
  · rintro _ ⟨rfl, hlt, hd⟩
    refine ⟨by omega, by rw [tx_size]; omega, l.length - (q + 1), by omega, q + 1, by rw [wi64 (by omega) (by omega)]; omega, rfl, ?_, rfl⟩
    rw [tx_bt hlt]
    exact r.dig hlt hd

end Go.V.YtdeihieblljfcaaDoor
