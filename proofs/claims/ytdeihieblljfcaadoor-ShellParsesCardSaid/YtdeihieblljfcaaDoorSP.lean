/- This text proves a part of the laws of seat YtdeihieblljfcaaDoor, under no condition: S2d. -/
import Derived.Test.YtdeihieblljfcaaDoorSN
set_option linter.unusedVariables false
set_option linter.unusedSimpArgs false
/-! The document's lines and words; whether words are a command. -/
namespace Go.V.YtdeihieblljfcaaDoor
open Go Go.V Go.Lib Go.Proofs

/-- A text more. -/
theorem app1 {s : Slc} {S : List Tx} {w : Tx} {h0 h : Heap} (o : Own 1 sF h s S) (f : Fresh h0 h s) (hS : S.length ≤ 200000) {K : Slc → Heap → Prop}
    (k : ∀ s' h', Own 1 sF h' s' (S ++ [w]) → Fresh h0 h' s' → K s' h') :
    New 9 [Lf.str (tx w)] h fun b h' => AppC 9 [Lf.str (ByteArray.mk #[])] 1 16 s ⟨some (b, 0), 1, 1⟩ h' K :=
  New.mk fun b h1 hb hs e1 k1 => AppC.grow sF_sized (by decide) rfl (o.ext0 e1) ((Own.new sF_sized (l := [w]) k1).arr sF_sized) (by simp; omega) fun s' h' o' g' => k s' h' o' ((f.ext0 e1).grow g')

theorem c21 {l : Tx} (hl : l.length ≤ 131072) {h : Heap} {R : Slc → Heap → Prop} (k : ∀ s h', Arr 1 sF h' s (lines l) → Fresh h h' s → R s h') :
    Call Tryd.prog 21 [.lf (.str (tx l))] h [.one .slc] R := by
  refine ok21 ⟨fun s f i hh b => ∃ (S : List Tx) (q p : Nat), f = q ∧ i = p ∧ q ≤ p ∧ p ≤ l.length ∧ Own 1 sF hh s S ∧ Fresh h hh s ∧ S ++ linesA (seg l q p) (l.drop p) = lines l ∧ S.length ≤ p ∧ b = l.length - p,
    ⟨_, [], 0, 0, rfl, rfl, by omega, by omega, Own.nil _ _ _, Fresh.nil _, by rw [seg_self]; rfl, by simp, rfl⟩, ?_⟩
  rintro s _ _ hh _ ⟨S, q, p, rfl, rfl, hq, hp, o, fr, hw, hS, rfl⟩
  rw [tx_size]
  refine Br.dec (fun hlt => ?_) fun hge => ?_
  · have hlt' : p < l.length := by omega
    rw [tx_bt hlt']
    refine ⟨by omega, hlt, Br.eq (fun e => ?_) fun e => ?_⟩
    · have hc : l[p] = 10 := by rw [← UInt8.toNat_inj]; show l[p].toNat = 10; omega
      refine ⟨by omega, by omega, by omega, by omega, ?_⟩
      rw [show (q : Int).toNat = q from rfl, show (p : Int).toNat = p from rfl, tx_extract]
      refine app1 o fr (by omega) fun s' h' o' f' => ⟨l.length - (p + 1), by omega, S ++ [seg l q p], p + 1, p + 1, by rw [wi64 (by omega) (by omega)]; omega, by rw [wi64 (by omega) (by omega)]; omega, by omega, by omega, o', f', ?_, by simp; omega, rfl⟩
      rw [linesA_nl hlt' hc] at hw
      rw [seg_self, List.append_assoc]
      exact hw
    · have hc : l[p] ≠ 10 := fun x => e (by rw [x]; rfl)
      refine ⟨l.length - (p + 1), by omega, S, q, p + 1, rfl, by rw [wi64 (by omega) (by omega)]; omega, by omega, by omega, o, fr, ?_, by omega, rfl⟩
      rw [linesA_step hlt' hc, ← seg_succ hq hlt'] at hw
      exact hw
  · obtain rfl : p = l.length := by omega
    rw [linesA_end (Nat.le_refl _)] at hw
    refine Br.dec (fun h0 => ⟨by omega, by omega, ?_⟩) fun h0 => ?_
    · rw [show (q : Int).toNat = q from rfl, tx_extract]
      rw [if_neg (fun x => by have := (seg_nil (Nat.le_refl _) hq).1 x; omega)] at hw
      refine app1 o fr (by omega) fun s' h' o' f' => k s' h' ?_ f'
      rw [← hw]
      exact o'.arr sF_sized
    · obtain rfl : q = l.length := by omega
      rw [seg_self, if_pos rfl, List.append_nil] at hw
      subst hw
      exact k s hh (o.arr sF_sized) fr

theorem c22 {l : Tx} (hl : l.length ≤ 131072) {h : Heap} {R : Slc → Heap → Prop} (k : ∀ s h', Arr 1 sF h' s (words l) → Fresh h h' s → s.len ≤ s.cap → R s h') :
    Call Tryd.prog 22 [.lf (.str (tx l))] h [.one .slc] R := by
  refine ok22 ⟨fun s f i hh b => ∃ (S : List Tx) (q p : Nat), f = q ∧ i = p ∧ q ≤ p ∧ p ≤ l.length + 1 ∧ Own 1 sF hh s S ∧ Fresh h hh s ∧ S ++ wordsA (seg l q p) (l.drop p) = words l ∧ (p = l.length + 1 → q = p) ∧ S.length ≤ p ∧ b = l.length + 1 - p,
    ⟨_, [], 0, 0, rfl, rfl, by omega, by omega, Own.nil _ _ _, Fresh.nil _, by rw [seg_self]; rfl, by omega, by simp, rfl⟩, ?_⟩
  rintro s _ _ hh _ ⟨S, q, p, rfl, rfl, hq, hp, o, fr, hw, hqp, hS, rfl⟩
  rw [tx_size]
  refine Br.dec (fun hle => ?_) fun hgt => ?_
  · refine ⟨fun g => g = hh ∧ (p = l.length ∨ ∃ hlt : p < l.length, l[p] = 32), Br.dec (fun hlt => ?_) fun hge => ⟨rfl, .inl (by omega)⟩, ?_⟩
    · have hlt' : p < l.length := by omega
      rw [tx_bt hlt']
      refine ⟨by omega, hlt, Br.ne (fun e => ?_) fun e => ⟨rfl, .inr ⟨hlt', by rw [← UInt8.toNat_inj]; show l[p].toNat = 32; omega⟩⟩⟩
      have hc : l[p] ≠ 32 := fun x => e (by rw [x]; rfl)
      refine ⟨l.length + 1 - (p + 1), by omega, S, q, p + 1, rfl, by rw [wi64 (by omega) (by omega)]; omega, by omega, by omega, o, fr, ?_, by omega, by omega, rfl⟩
      rw [wordsA_step hlt' hc, ← seg_succ hq hlt'] at hw
      exact hw
    rintro g ⟨rfl, hc⟩
    have hple : p ≤ l.length := by omega
    have hw' : S ++ (if seg l q p = [] then [] else [seg l q p]) ++ wordsA [] (l.drop (p + 1)) = words l := by
      rw [← hw]
      rcases hc with rfl | ⟨hlt, hc⟩
      · rw [wordsA_end (Nat.le_refl _), List.drop_eq_nil_of_le (by omega)]
        show _ ++ [] = _
        rw [List.append_nil]
      · rw [wordsA_sp hlt hc]
        split <;> simp
    refine Br.dec (fun h0 => ⟨by omega, by omega, by omega, by omega, ?_⟩) fun h0 => ?_
    · rw [show (q : Int).toNat = q from rfl, show (p : Int).toNat = p from rfl, tx_extract]
      rw [if_neg (fun x => by have := (seg_nil hple hq).1 x; omega)] at hw'
      exact app1 o fr (by omega) fun s' h' o' f' => ⟨l.length + 1 - (p + 1), by omega, S ++ [seg l q p], p + 1, p + 1, by rw [wi64 (by omega) (by omega)]; omega, by rw [wi64 (by omega) (by omega)]; omega, by omega, by omega, o', f', by rw [seg_self]; exact hw', by omega, by simp; omega, rfl⟩
    · obtain rfl : q = p := by omega
      rw [seg_self, if_pos rfl, List.append_nil] at hw'
      exact ⟨l.length + 1 - (q + 1), by omega, S, q + 1, q + 1, by rw [wi64 (by omega) (by omega)]; omega, by rw [wi64 (by omega) (by omega)]; omega, by omega, by omega, o, fr, by rw [seg_self]; exact hw', by omega, by omega, rfl⟩
  · obtain rfl : p = l.length + 1 := by omega
    obtain rfl := hqp rfl
    rw [seg_self, List.drop_eq_nil_of_le (by omega)] at hw
    have hw : S = words l := by rw [← hw]; simp [wordsA]
    subst hw
    exact k s hh (o.arr sF_sized) fr o.lec

/-- Whether words are a command. -/
def canW : List Tx → Bool
  | [] => false
  | w :: a => match kindsOf w with
    | none => false
    | some ks => allFit ks a

theorem c23 {s : Slc} {w : Tx} {a : List Tx} {h : Heap} (A : Arr 1 sF h s (w :: a)) (hl : a.length ≤ 200000) {R : Bool → Heap → Prop} (k : R (canW (w :: a)) h) :
    Call Tryd.prog 23 [.lf (.slc s)] h [.one .bool] R := by
  have hs := A.len
  rw [List.length_cons] at hs
  refine ok23 (A.ix (k := 0) rfl rfl fun b off hb => ⟨_, hb, c31 ?_⟩)
  cases hk : kindsOf w with
  | none =>
    have hcan : canW (w :: a) = false := by simp [canW, hk]
    rw [hcan] at k
    refine ⟨fun c hh => c = true ∧ hh = h, Br.t rfl ⟨rfl, rfl⟩, ?_⟩
    rintro c h8 ⟨rfl, rfl⟩
    exact k
  | some ks =>
    have hcan : canW (w :: a) = allFit ks a := by simp [canW, hk]
    rw [hcan] at k
    have h5 := kindsOf_len hk
    have hdn := kindsOf_dn hk
    refine ⟨fun c hh => (c = true ↔ ks.length ≠ a.length) ∧ hh = h, Br.f rfl ⟨?_, rfl⟩, ?_⟩
    · rw [hs]
      show _ ↔ _
      rw [wi64 (by omega) (by omega)]
      show ((((a.length + 1 : Nat) : Int) - 1 != ((tx ks).size : Int)) = true) ↔ _
      rw [tx_size, bne_iff_ne]
      constructor <;> intro x y <;> apply x <;> omega
    rintro c h8 ⟨hc, rfl⟩
    refine Br.mk (fun e => ?_) fun e => ?_
    · have hx : allFit ks a = false := by
        rw [← Bool.not_eq_true]; exact fun x => hc.1 e (allFit_len x)
      rw [hx] at k
      exact k
    have hlen : ks.length = a.length := Classical.byContradiction fun x => by rw [hc.2 x] at e; cases e
    have kf : ∀ (i : Nat) c v, ks[i]? = some c → a[i]? = some v → fits c v = false → R false h8 := fun i c v hi hv hf => by
      have hx : allFit ks a = false := by
        rw [← Bool.not_eq_true, allFit_iff]
        intro x
        have := x.2 i c v hi hv
        rw [hf] at this; cases this
      rw [hx] at k; exact k
    refine ⟨fun i hh b => ∃ p : Nat, i = p ∧ p ≤ ks.length ∧ hh = h8 ∧ (∀ (i : Nat) c v, i < p → ks[i]? = some c → a[i]? = some v → fits c v = true) ∧ b = ks.length - p, ⟨_, 0, rfl, by omega, rfl, fun i c v hi => absurd hi (by omega), rfl⟩, ?_⟩
    rintro _ hh _ ⟨p, rfl, hp, he, hf, rfl⟩
    subst he
    show Br (decide ((p : Int) < ((tx ks).size : Int))) _ _
    rw [tx_size]
    refine Br.dec (fun hlt => ?_) fun hge => ?_
    · have hpk : p < ks.length := by omega
      have hpa : p < a.length := by omega
      have hap : (w :: a)[p + 1]? = some a[p] := by simp [hpa]
      refine A.ix (k := p + 1) (by rw [wi64 (by omega) (by omega)]; omega) hap fun b1 off1 hb1 => ⟨_, hb1, by omega, hlt, ?_⟩
      show Br (bt (tx ks) (p : Int) == 68) _ _
      rw [tx_bt hpk]
      have hc2 := hdn _ (List.getElem_mem hpk)
      have next : fits ks[p] a[p] = true → ∃ b, b < ks.length - p ∧ ∃ q : Nat, IntKind.wrap IntKind.i64 ((p : Int) + 1) = q ∧ q ≤ ks.length ∧ hh = hh ∧ (∀ (i : Nat) c v, i < q → ks[i]? = some c → a[i]? = some v → fits c v = true) ∧ b = ks.length - q := fun x =>
        ⟨ks.length - (p + 1), by omega, p + 1, by rw [wi64 (by omega) (by omega)]; omega, by omega, rfl, fun i c v hi h1 h2 => by
          by_cases hip : i = p
          · subst hip
            rw [List.getElem?_eq_getElem hpk] at h1
            rw [List.getElem?_eq_getElem hpa] at h2
            cases h1; cases h2; exact x
          · exact hf i c v (by omega) h1 h2, rfl⟩
      rcases hc2 with hc2 | hc2
      · rw [hc2]
        refine Br.t rfl (c32 fun n hn => Br.dec (fun hneg => ?_) fun hpos => ⟨by omega, hlt, Br.f (by show (bt (tx ks) (p : Int) == 78) = false; rw [tx_bt hpk, hc2]; rfl) (next ?_)⟩)
        · refine kf p ks[p] a[p] (List.getElem?_eq_getElem hpk) (List.getElem?_eq_getElem hpa) ?_
          rw [hc2]
          show (if (68 : UInt8) = 68 then isNum a[p] else _) = false
          rw [if_pos rfl, ← Bool.not_eq_true]
          exact fun x => by have := hn.2 x; omega
        · rw [hc2]
          show (if (68 : UInt8) = 68 then isNum a[p] else _) = true
          rw [if_pos rfl]
          exact hn.1 (by omega)
      · rw [hc2]
        have hfit : fits 78 a[p] = decide (a[p].length ≤ 20) := by unfold fits; rw [if_neg (by decide)]
        refine Br.f rfl ⟨by omega, hlt, Br.t (by show (bt (tx ks) (p : Int) == 78) = true; rw [tx_bt hpk, hc2]; rfl) (Br.dec (fun hbig => ?_) fun hsm => next ?_)⟩
        · rw [tx_size] at hbig
          refine kf p ks[p] a[p] (List.getElem?_eq_getElem hpk) (List.getElem?_eq_getElem hpa) ?_
          rw [hc2, hfit]
          exact decide_eq_false (by omega)
        · rw [tx_size] at hsm
          rw [hc2, hfit]
          exact decide_eq_true (by omega)
    · obtain rfl : p = ks.length := by omega
      have hx : allFit ks a = true := allFit_iff.2 ⟨hlen, fun i c v h1 h2 => hf i c v (by
        rcases Nat.lt_or_ge i ks.length with y | y
        · exact y
        · rw [List.getElem?_eq_none y] at h1; cases h1) h1 h2⟩
      rw [hx] at k
      exact k

end Go.V.YtdeihieblljfcaaDoor
