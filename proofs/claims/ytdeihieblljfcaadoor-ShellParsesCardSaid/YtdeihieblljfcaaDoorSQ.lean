/- This text proves a part of the laws of seat YtdeihieblljfcaaDoor, under no condition: S2h. -/
import Derived.Test.YtdeihieblljfcaaDoorSO
import Derived.Test.YtdeihieblljfcaaDoorSP
set_option linter.unusedVariables false
set_option linter.unusedSimpArgs false
/-! A line, as the program reads it. -/
namespace Go.V.YtdeihieblljfcaaDoor
open Go Go.V Go.Lib Go.Proofs

theorem lt_of_arr {z : Slc} {l : List Tx} {h : Heap} (A : Arr 1 sF h z l) (hl : l ≠ []) : ∀ b off, z.a = some (b, off) → b < h.size := fun b off hb => by
  cases l with
  | nil => exact absurd rfl hl
  | cons x r => exact (A.at_ b off hb 0 x rfl).lt

theorem cls_cons (w : Tx) (a : List Tx) : cls (w :: a) = if w.head? = some 35 then .skip else match kindsOf w with
    | none => .bad
    | some ks => match allFit ks a with | true => .good w a | false => .bad := rfl
theorem cls_skip {w : Tx} {a : List Tx} : cls (w :: a) = .skip ↔ w.head? = some 35 := by
  rw [cls_cons]
  by_cases h : w.head? = some 35
  · simp [h]
  · rw [if_neg h]
    constructor
    · intro x
      split at x
      · cases x
      · split at x <;> cases x
    · exact fun x => absurd x h
theorem cls_none {w : Tx} {a : List Tx} (h : w.head? ≠ some 35) (hk : kindsOf w = none) : cls (w :: a) = .bad := by
  rw [cls_cons, if_neg h, hk]
theorem cls_bad {w ks : Tx} {a : List Tx} (h : w.head? ≠ some 35) (hk : kindsOf w = some ks) (hf : allFit ks a = false) : cls (w :: a) = .bad := by
  rw [cls_cons, if_neg h, hk]; simp only [hf]
theorem cls_good {w ks : Tx} {a : List Tx} (h : w.head? ≠ some 35) (hk : kindsOf w = some ks) (hf : allFit ks a = true) : cls (w :: a) = .good w a := by
  rw [cls_cons, if_neg h, hk]; simp only [hf]
theorem head_35 {w : Tx} (h : w ≠ []) : ∃ c r, w = c :: r ∧ bt (tx w) (0 : Int) = (c.toNat : Int) ∧ (0 : Int) < ((tx w).size : Int) ∧ (w.head? = some 35 ↔ (c.toNat : Int) = 35) := by
  cases w with
  | nil => exact absurd rfl h
  | cons c r =>
    refine ⟨c, r, rfl, tx_bt (l := c :: r) (j := 0) (by simp), by rw [tx_size, List.length_cons]; omega, ?_⟩
    rw [List.head?_cons, Option.some.injEq, ← UInt8.toNat_inj]
    show c.toNat = 35 ↔ _
    omega

theorem c30 {l : Tx} (hl : l.length ≤ 131072) {h : Heap} {R : Int → ByteArray → Slc → Bool → Heap → Prop}
    (k1 : cls (words l) = .skip → ∀ h', Ext0 h h' → R 0 (tx []) ⟨none, 0, 0⟩ true h') (k2 : cls (words l) = .bad → ∀ h', Ext0 h h' → R 0 (tx []) ⟨none, 0, 0⟩ false h')
    (k3 : ∀ w a, cls (words l) = .good w a → ∀ s h', Ext0 h h' → Arr 1 sF h' s a → (∀ b off, s.a = some (b, off) → h.size ≤ b ∧ b < h'.size) → R 0 (tx w) s true h') :
    Call Tryd.prog 30 [.lf (.str (tx l))] h [.agg [.int .i64, .str, .slc], .one .bool] R := by
  refine ok30 (New.mk fun b0 h1 hb0 hs1 e1 B1 => c45 hl fun s2 h3 A f3 hcap => ⟨f3.ext.keep (by omega), ?_⟩)
  have e3 : Ext0 h h3 := e1.trans f3.ext
  have hs3 := f3.ext.size
  have hlen := A.len
  have wl := words_len l
  refine ⟨fun c hh => hh = h3 ∧ (c = true ↔ cls (words l) = .skip), ?_, ?_⟩
  · cases hw : words l with
    | nil =>
      rw [hw] at hlen
      exact Br.eq (fun _ => ⟨rfl, fun _ => rfl, fun _ => rfl⟩) fun x => absurd (by rw [hlen]; rfl) x
    | cons w a =>
      rw [hw] at A hlen
      obtain ⟨c, r, _, hbt, hsz, h35⟩ := head_35 (words_ne (l := l) (w := w) (by rw [hw]; simp))
      rw [List.length_cons] at hlen
      refine Br.eq (fun x => by omega) fun _ => A.ix (k := 0) rfl rfl fun b off hb => ⟨_, hb, by omega, hsz, rfl, ?_⟩
      rw [hbt, beq_iff_eq, cls_skip, h35]
  rintro c8 h9 ⟨rfl, hc⟩
  have done : ∀ {hh h' : Heap}, Ext0 h9 hh ∨ hh = h9 → Ext (fun x => x = b0) hh h' → Ext0 h h' := fun {hh h'} x e => by
    have this : Ext0 h hh := x.elim (fun y => e3.trans y) fun y => by rw [y]; exact e3
    exact this.trans' e fun i hi y => by subst y; omega
  refine Br.mk (fun e => Set.mk fun h10 hs10 e10 _ => k1 (hc.1 e) h10 (done (.inr rfl) e10)) fun e => ?_
  have hns : cls (words l) ≠ .skip := fun x => by rw [hc.2 x] at e; cases e
  cases hw : words l with
  | nil => rw [hw] at hns; exact absurd rfl hns
  | cons w a =>
    rw [hw] at A hlen hns k2 k3 wl
    rw [List.length_cons] at hlen wl
    have h35 : w.head? ≠ some 35 := fun x => hns (cls_skip.2 x)
    refine A.ix (k := 0) rfl rfl fun b off hb => ⟨_, hb, c47 ⟨⟨rfl, trivial⟩, ?_⟩⟩
    have bad : cls (w :: a) = .bad → ∀ hh, (Ext0 h9 hh ∨ hh = h9) → Set b0 33 [Lf.int IntKind.i64 (0 : Int), Lf.str (ByteArray.mk #[]), Lf.slc (Slc.mk none 0 0)] hh fun h' => R (0 : Int) (ByteArray.mk #[]) (Slc.mk none 0 0) Bool.false h' := fun x hh y =>
      Set.mk fun h20 hs20 e20 _ => k2 x h20 (done y e20)
    cases hk : kindsOf w with
    | none =>
      refine ⟨fun c hh => c = true ∧ hh = h9, Br.t rfl ⟨rfl, rfl⟩, ?_⟩
      rintro c h19 ⟨rfl, rfl⟩
      exact bad (cls_none h35 hk) h19 (.inr rfl)
    | some ks =>
      have h5 := kindsOf_len hk
      refine ⟨fun c hh => (c = true ↔ ks.length ≠ a.length) ∧ hh = h9, Br.f rfl ⟨?_, rfl⟩, ?_⟩
      · show ((((tx ks).size : Int)) != IntKind.wrap IntKind.i64 ((s2.len : Int) - 1)) = true ↔ _
        rw [hlen, wi64 (by omega) (by omega), tx_size, bne_iff_ne]
        constructor <;> intro x y <;> apply x <;> omega
      rintro c h19 ⟨hc, rfl⟩
      refine Br.mk (fun e => bad (cls_bad h35 hk ?_) h19 (.inr rfl)) fun e => ?_
      · rw [← Bool.not_eq_true]; exact fun x => hc.1 e (allFit_len x)
      have hlk : ks.length = a.length := Classical.byContradiction fun x => by rw [hc.2 x] at e; cases e
      refine ⟨fun i n t s hh b => ∃ p : Nat, i = p ∧ p ≤ ks.length ∧ n = 0 ∧ t = tx [] ∧ s = ⟨none, 0, 0⟩ ∧ Ext0 h19 hh ∧ (∀ (i : Nat) c v, i < p → ks[i]? = some c → a[i]? = some v → fits c v = true) ∧ b = ks.length - p,
        ⟨_, 0, rfl, by omega, rfl, rfl, rfl, Ext.refl _ _, fun i c v hi => absurd hi (by omega), rfl⟩, ?_⟩
      rintro _ _ _ _ h27 _ ⟨p, rfl, hp, rfl, rfl, rfl, e27, hf, rfl⟩
      have A27 := A.ext0 e27
      show Br (decide ((p : Int) < ((tx ks).size : Int))) _ _
      rw [tx_size]
      refine Br.dec (fun hlt => ?_) fun hge => ?_
      · have hpk : p < ks.length := by omega
        have hpa : p < a.length := by omega
        refine ⟨by omega, hlt, A27.ix (k := p + 1) (x := a[p]) (by rw [wi64 (by omega) (by omega)]; omega) (by simp [hpa]) fun b1 off1 hb1 => ⟨_, hb1, ?_⟩⟩
        show Call Tryd.prog 48 [.lf (.int .u8 (bt (tx ks) (p : Int))), _] _ _ _
        rw [tx_bt hpk]
        have := e27.size
        refine c48 fun h33 e33 => ⟨e33.keep (by omega), Br.not (fun hff => bad (cls_bad h35 hk ?_) h33 (.inl (e27.trans e33))) fun htt => ?_⟩
        · rw [← Bool.not_eq_true, allFit_iff]
          intro x
          have := x.2 p ks[p] a[p] (List.getElem?_eq_getElem hpk) (List.getElem?_eq_getElem hpa)
          rw [hff] at this; cases this
        · refine ⟨ks.length - (p + 1), by omega, p + 1, by rw [wi64 (by omega) (by omega)]; omega, by omega, rfl, rfl, rfl, e27.trans e33, fun i c v hi h1 h2 => ?_, rfl⟩
          by_cases hip : i = p
          · subst hip
            rw [List.getElem?_eq_getElem hpk] at h1
            rw [List.getElem?_eq_getElem hpa] at h2
            cases h1; cases h2; exact htt
          · exact hf i c v (by omega) h1 h2
      · obtain rfl : p = ks.length := by omega
        have hx : allFit ks a = true := allFit_iff.2 ⟨hlk, fun i c v h1 h2 => hf i c v (by
          rcases Nat.lt_or_ge i ks.length with y | y
          · exact y
          · rw [List.getElem?_eq_none y] at h1; cases h1) h1 h2⟩
        refine A27.ix (k := 0) rfl rfl fun b1 off1 hb1 => ⟨_, hb1, by omega, by omega, Set.mk fun h39 hs39 e39 _ => ?_⟩
        have A39 : Arr 1 sF h39 s2 (w :: a) := A27.ext e39 fun ⟨b', off', x, y⟩ => by have := f3.new _ _ x; omega
        have A40 := A39.sub (lo := 1) (hi := s2.len) (m := s2.cap) (by omega) (by rw [List.length_cons]; omega) hcap
        have hd : ((w :: a).take s2.len).drop 1 = a := by rw [List.take_of_length_le (by rw [List.length_cons]; omega)]; rfl
        rw [hd] at A40
        refine k3 w a (cls_good h35 hk hx) _ h39 (done (.inl e27) e39) A40 fun b off hx => ?_
        unfold Slc.sub at hx
        simp only at hx
        split at hx
        · have := f3.new _ _ hx; exact ⟨by omega, lt_of_arr A39 (by simp) _ _ hx⟩
        · cases ha : s2.a with
          | none => rw [ha] at hx; cases hx
          | some q => obtain ⟨b2, o2⟩ := q; rw [ha] at hx; cases hx; have := f3.new _ _ ha; exact ⟨by omega, lt_of_arr A39 (by simp) _ _ ha⟩

end Go.V.YtdeihieblljfcaaDoor
