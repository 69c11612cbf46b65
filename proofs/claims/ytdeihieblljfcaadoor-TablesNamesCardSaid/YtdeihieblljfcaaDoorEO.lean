/- This text proves a part of the laws of seat YtdeihieblljfcaaDoor, under no condition: E2e2. -/
import Derived.Test.YtdeihieblljfcaaDoorEM
import Derived.Test.YtdeihieblljfcaaDoorEK
set_option linter.unusedVariables false
set_option linter.unusedSimpArgs false
set_option maxRecDepth 100000
/-! The program's names: tables. -/
namespace Go.V.YtdeihieblljfcaaDoor
open Go Go.V Go.Lib Go.Proofs

theorem pad19 {d : Nat} (h : d ≤ 20) : (if (0 : Int) > IntKind.wrap IntKind.i64 ((6 : Int) - (d : Int)) then (0 : Int) else IntKind.wrap IntKind.i64 ((6 : Int) - (d : Int))) = ((6 - d : Nat) : Int) := by
  rw [wi64 (by omega) (by omega)]
  split <;> omega

theorem c19 {n : Nat} (hn : n < 18446744073709551616) {h : Heap} (D : Door h) {R : ByteArray → Heap → Prop} (k : ∀ h', Ext0 h h' → R (tx (nm t13 z13 n)) h') :
    Call Tryd.prog 19 [.lf (.int .u64 (n : Int))] h [.one .str] R := by
  have h20 := nDigits_20 hn
  refine ok19 (c26 hn D fun h1 e1 => ?_)
  have hd : (tx (decDigits n)).size = nDigits n := by rw [tx_size, decDigits_length]
  rw [hd, pad19 h20]
  refine c27 (by omega) ?_
  have hz : (tx (zs (6 - nDigits n))).size = 6 - nDigits n := by rw [tx_size]; unfold zs; rw [List.length_replicate]
  refine ⟨by rw [hz]; omega, ?_, ?_⟩
  · rw [tx_app, tx_size, List.length_append, decDigits_length]
    unfold zs
    rw [List.length_replicate]
    omega
  rw [show ByteArray.mk #[(46 : UInt8), (115 : UInt8), (115 : UInt8), (116 : UInt8)] = tx z13 from rfl, tx_app, tx_app]
  have he : nm t13 z13 n = zs (6 - nDigits n) ++ decDigits n ++ z13 := by
    unfold nm
    rw [padL_dec n 6 (by omega)]
    show _ = zs (6 - nDigits n) ++ decDigits n ++ z13
    simp [zs, t13, z13]
  have := k h1 e1
  rw [he] at this
  exact this

theorem c12 {n : Nat} (hn : n < 18446744073709551616) {h : Heap} (D : Door h) {R : ByteArray → Heap → Prop} (k : ∀ h', Ext0 h h' → R (tx (nm t13 z13 n)) h') :
    Call Tryd.prog 12 [.lf (.int .u64 (n : Int))] h [.one .str] R := ok12 (c19 hn D k)

theorem c18 {l : List UInt8} (hl : l.length ≤ 281474976710656) {h : Heap} (D : Door h) {R : Int → Bool → Heap → Prop} (k : ∀ a is h', Ext0 h h' → NumR t13 z13 l a is → R a is h') :
    Call Tryd.prog 18 [.lf (.str (tx l))] h [.one (.int .u64), .one .bool] R := by
  refine ok18 (c28 (p := z13) (by omega) fun r c hc => ?_)
  have hr : r.length ≤ 281474976710656 := by
    rcases hc with ⟨he, _⟩ | ⟨_, he, _⟩
    · rw [he] at hl; simp only [List.length_append] at hl; omega
    · rw [he]; exact hl
  refine c25 hr D fun u e h5 e5 hu he => ?_
  have hit : ∀ m : Nat, m < 18446744073709551616 → l = nm t13 z13 m → c = true ∧ e = .nilIface ∧ u = m := fun m hm hs => by
    have hp := parse_pad hm
    have : c = true ∧ r = padL 6 m := by
      rcases hc with ⟨he, hc⟩ | ⟨hno, _⟩
      · refine ⟨hc, ?_⟩
        rw [hs] at he
        unfold nm at he
        rw [show t13 = [] from rfl, List.nil_append] at he
        exact (List.append_cancel_right he).symm
      · exfalso
        rw [hs] at hno
        unfold nm at hno
        exact hno (padL 6 m) (by simp [t13, z13])
    refine ⟨this.1, ?_⟩
    rw [this.2] at he
    rcases he with ⟨h1, h2⟩ | ⟨h1, _⟩
    · rw [hp] at h1
      injection h1 with h1
      exact ⟨h2, h1.symm⟩
    · exact absurd hp (h1 m)
  have miss : (c = false ∨ e ≠ .nilIface) → NumR t13 z13 l 0 false := fun x => .inr ⟨fun m hm hs => by
    obtain ⟨h1, h2, _⟩ := hit m hm hs
    rcases x with x | x
    · rw [h1] at x; cases x
    · exact x h2, rfl, rfl⟩
  refine Br.not (fun hf => k _ _ _ e5 (miss (.inl hf))) fun ht => ?_
  have hin : ∃ b, IfEq Tryd.prog e .nilIface true b ∧ (b = true → e = .nilIface) ∧ (b = false → e ≠ .nilIface) := by
    rcases he with ⟨_, rfl⟩ | ⟨_, t, v, rfl⟩
    · exact ⟨true, ⟨rfl, rfl⟩, fun _ => rfl, fun x => by cases x⟩
    · exact ⟨false, rfl, fun x => (by cases x), fun _ x => by cases x⟩
  obtain ⟨b, hb, hb1, hb2⟩ := hin
  refine ⟨b, hb, Br.not (fun hf => k _ _ _ e5 (miss (.inr (hb2 hf)))) fun hbt => ?_⟩
  refine c19 hu (D.ext e5) fun h8 e8 => ?_
  have ho := NumR.of (t := t13) (z := z13) (s := l) hu fun m hm hs => (hit m hm hs).2.2
  rw [tx_eq]
  refine Br.not (fun hf => ?_) fun hy => ?_
  · exact k _ _ _ (e5.trans e8) (ho.2 fun x => by rw [decide_eq_false_iff_not] at hf; exact hf x.symm)
  · exact k _ _ _ (e5.trans e8) (ho.1 (by rw [decide_eq_true_eq] at hy; exact hy.symm))

theorem c10 {l : List UInt8} (hl : l.length ≤ 281474976710656) {h : Heap} (D : Door h) {R : Int → Bool → Heap → Prop} (k : ∀ a is h', Ext0 h h' → NumR t13 z13 l a is → R a is h') :
    Call Tryd.prog 10 [.lf (.str (tx l))] h [.one (.int .u64), .one .bool] R := ok10 (c18 hl D k)

theorem c4 {n : Nat} (hn : n < 18446744073709551616) {l : List UInt8} (hl : l.length ≤ 281474976710656) {h : Heap} (D : Door h) :
    Call Tryd.prog 4 [.lf (.int .u64 (n : Int)), .lf (.str (tx l))] h [.one .bool] fun b h' => b = true ∧ Ext0 h h' := by
  have h26 : (nm t13 z13 n).length ≤ 64 := by
    have := padL_len26 hn
    unfold nm
    simp [t13, z13]
    omega
  refine ok4 (c10 hl D fun a is h2 e2 r2 => c11 (by omega) fun b was h5 e5 r5 => ?_)
  obtain ⟨rfl, rfl⟩ := r2.same r5
  have E5 := e2.trans e5
  refine c12 hn (D.ext E5) fun h7 e7 => c10 (by omega) (D.ext (E5.trans e7)) fun c ok h10 e10 r10 => ?_
  obtain ⟨rfl, rfl⟩ := r10.hit hn
  have E10 := (E5.trans e7).trans e10
  refine c12 hn (D.ext E10) fun h12 e12 => c13 hn fun h14 e14 => ?_
  rw [tx_eq]
  exact Br.t (by simp) (Br.eq (fun _ => Br.t (by simp) (Br.eq (fun _ => ⟨rfl, (E10.trans e12).trans e14⟩) fun x => absurd rfl x)) fun x => absurd rfl x)

end Go.V.YtdeihieblljfcaaDoor
