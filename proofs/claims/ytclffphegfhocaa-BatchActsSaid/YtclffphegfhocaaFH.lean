/- This text proves a part of the laws of seat Ytclffphegfhocaa, under no condition: B4h. -/
import Derived.Test.YtclffphegfhocaaFG
import Derived.Test.YtclffphegfhocaaFB
set_option linter.unusedVariables false
set_option linter.unusedSimpArgs false
/-! slices.Sort of numbers: reverse, partial insertion, the pivot. -/
namespace Go.V.Ytclffphegfhocaa
open Go Go.V

theorem US.ext {h h' : Heap} {s : Slc} {d : Array Int} {S : Nat → Prop} (u : US h s d) (e : Ext S h h') (hs : ∀ b, inS s b → ¬ S b) : US h' s d :=
  ⟨u.own.ext e fun ⟨b, o, hb, hS⟩ => hs b ⟨o, hb⟩ hS, u.sz⟩
theorem US.ext0 {h h' : Heap} {s : Slc} {d : Array Int} (u : US h s d) (e : Ext0 h h') : US h' s d := u.ext e fun _ _ k => k
theorem US.lt {h : Heap} {s : Slc} {d : Array Int} (u : US h s d) : ∀ b, inS s b → b < h.size := fun b ⟨o, ho⟩ => (u.own.lt b o ho).1

/-- reverseRange. -/
theorem c78 {h : Heap} {s : Slc} {d : Array Int} (u : US h s d) {a b : Nat} (hb : b ≤ d.size) (ha : a < b) {R : Heap → Prop} (k : ∀ h', US h' s (Sort.reverseRange d a b) → Ext (inS s) h h' → R h') :
    Call Go.Proofs.Try.prog 78 [.lf (.slc s), .lf (.int .i64 a), .lf (.int .i64 b)] h [] R := by
  have hsz := u.sz
  unfold Sort.reverseRange at k
  refine ok78 ⟨fun i j h' m => ∃ (q r : Nat) (e : Array Int), i = q ∧ j = r ∧ r < b ∧ q ≤ r + 1 ∧ m = r - q ∧ US h' s e ∧ e.size = d.size ∧ Sort.reverseLoop q r e = Sort.reverseLoop a (b - 1) d ∧ Ext (inS s) h h',
    ⟨_, a, b - 1, d, rfl, i64 (by omega) (by omega), by omega, by omega, rfl, u, rfl, rfl, Ext.refl _ _⟩, ?_⟩
  rintro _ _ h4 _ ⟨q, r, e, rfl, rfl, hr, hqr, rfl, u4, hes, hd, x4⟩
  rw [Sort.reverseLoop] at hd
  refine Br.dec (fun hlt => ?_) fun hge => ?_
  · rw [if_pos (by omega)] at hd
    exact u4.swap (p := r) (q := q) rfl rfl (by omega) (by omega) fun h17 hs17 u17 x17 => ⟨(r - 1) - (q + 1), by omega, q + 1, r - 1, _, i64 (by omega) (by omega), i64 (by omega) (by omega), by omega, by omega, rfl, u17, by rw [swp_size]; exact hes, hd, x4.trans x17⟩
  · rw [if_neg (by omega)] at hd
    exact k h4 (hd ▸ u4) x4

/-- partialInsertionSort. -/
theorem c79 {h : Heap} {s : Slc} {d : Array Int} (u : US h s d) {a b : Nat} (hb : b ≤ d.size) (ha : a < b) {R : Bool → Heap → Prop}
    (k : ∀ h', US h' s (Sort.partialInsertionSort Sort.ltInt d a b).1 → Ext (inS s) h h' → R (Sort.partialInsertionSort Sort.ltInt d a b).2 h') :
    Call Go.Proofs.Try.prog 79 [.lf (.slc s), .lf (.int .i64 a), .lf (.int .i64 b)] h [.one .bool] R := by
  have hsz := u.sz
  unfold Sort.partialInsertionSort at k
  have wba : IntKind.wrap .i64 ((b : Int) - (a : Int)) = ((b - a : Nat) : Int) := i64 (by omega) (by omega)
  refine ok79 ⟨fun i j h' m => ∃ (q t : Nat) (e : Array Int), i = q ∧ j = (5 : Int) - t ∧ t ≤ 5 ∧ a < q ∧ q ≤ b ∧ t = m ∧ US h' s e ∧ e.size = d.size ∧ Sort.partialIns Sort.ltInt a b t q e = Sort.partialIns Sort.ltInt a b 5 (a + 1) d ∧ Ext (inS s) h h',
    ⟨_, a + 1, 5, d, i64 (by omega) (by omega), rfl, Nat.le_refl _, by omega, by omega, rfl, u, rfl, rfl, Ext.refl _ _⟩, ?_⟩
  rintro _ _ h4 _ ⟨q, t, e, rfl, rfl, ht5, hq, hqb, rfl, u4, hes, hd, x4⟩
  refine Br.dec (fun hj => ?_) fun hj => ?_
  · obtain ⟨t, rfl⟩ : ∃ r, t = r + 1 := ⟨t - 1, by omega⟩
    rw [Sort.partialIns_succ] at hd
    obtain ⟨q', hq'⟩ : ∃ q', q' = Sort.scanSorted Sort.ltInt e b q := ⟨_, rfl⟩
    rw [← hq'] at hd
    refine ⟨fun i h' => h4 = h' ∧ i = (q' : Int) ∧ q ≤ q' ∧ q' ≤ b, ⟨fun i h' m => ∃ r : Nat, i = r ∧ q ≤ r ∧ r ≤ b ∧ m = b - r ∧ h4 = h' ∧ q' = Sort.scanSorted Sort.ltInt e b r, ⟨_, q, rfl, Nat.le_refl _, hqb, rfl, rfl, hq'⟩, ?_⟩, ?_⟩
    · rintro _ _ _ ⟨r, rfl, hqr, hrb, rfl, rfl, hr⟩
      rw [Sort.scanSorted] at hr
      refine Br.dec (fun hlt => ?_) fun hge => ⟨rfl, ?_, ?_, ?_⟩
      · have hlt' : r < b := by omega
        refine u4.read (k := r) rfl (by omega) fun bb oo hc => ⟨_, hc, u4.read (k := r - 1) (i64 (by omega) (by omega)) (by omega) fun bb oo hc => ⟨_, hc, c80 (Br.not (fun hf => ?_) fun htt => ⟨rfl, ?_, ?_, ?_⟩)⟩⟩
        · rw [if_pos (by simp [hlt', hf])] at hr
          exact ⟨b - (r + 1), by omega, r + 1, i64 (by omega) (by omega), by omega, by omega, rfl, rfl, hr⟩
        all_goals rw [if_neg (by simp [htt])] at hr
        · rw [hr]
        · omega
        · omega
      all_goals
        have hge' : ¬ r < b := by omega
        rw [if_neg (by simp [hge'])] at hr
      · rw [hr]
      · omega
      · omega
    · rintro _ _ ⟨rfl, rfl, hqq, hq'b⟩
      refine Br.eq (fun heq => ?_) fun hne => ?_
      · rw [if_pos (by omega)] at hd
        rw [← hd] at k
        exact k h4 u4 x4
      have hne' : q' ≠ b := by omega
      rw [if_neg hne'] at hd
      simp only [wba]
      refine Br.dec (fun h50 => ?_) fun h50 => ?_
      · rw [if_pos (by omega)] at hd
        rw [← hd] at k
        exact k h4 u4 x4
      rw [if_neg (by omega)] at hd
      have wq1 : IntKind.wrap .i64 ((q' : Int) - 1) = ((q' - 1 : Nat) : Int) := i64 (by omega) (by omega)
      have wqa : IntKind.wrap .i64 ((q' : Int) - (a : Int)) = ((q' - a : Nat) : Int) := i64 (by omega) (by omega)
      have wbq : IntKind.wrap .i64 ((b : Int) - (q' : Int)) = ((b - q' : Nat) : Int) := i64 (by omega) (by omega)
      have wqp : IntKind.wrap .i64 ((q' : Int) + 1) = ((q' + 1 : Nat) : Int) := i64 (by omega) (by omega)
      simp only [wq1, wqa, wbq, wqp]
      refine u4.swap (p := q' - 1) (q := q') rfl rfl (by omega) (by omega) fun h34 hs34 u34 x34 => ?_
      have hg1s : (Sort.swp e q' (q' - 1)).size = d.size := by rw [swp_size]; exact hes
      generalize Sort.swp e q' (q' - 1) = g1 at *
      have next : ∀ {g : Array Int} {h' : Heap}, US h' s g → g.size = d.size → Sort.partialIns Sort.ltInt a b t q' g = Sort.partialIns Sort.ltInt a b 5 (a + 1) d → Ext (inS s) h h' → ∃ b93, b93 < t + 1 ∧ ∃ (q t' : Nat) (e : Array Int), (q' : Int) = (q : Int) ∧ IntKind.wrap .i64 ((5 : Int) - ((t + 1 : Nat) : Int) + 1) = (5 : Int) - t' ∧ t' ≤ 5 ∧ a < q ∧ q ≤ b ∧ t' = b93 ∧ US h' s e ∧ e.size = d.size ∧ Sort.partialIns Sort.ltInt a b t' q e = Sort.partialIns Sort.ltInt a b 5 (a + 1) d ∧ Ext (inS s) h h' := fun ug hgs hg xg =>
        ⟨t, by omega, q', t, _, rfl, by rw [wi64 (by omega) (by omega)]; omega, by omega, by omega, by omega, rfl, ug, hgs, hg, xg⟩
      refine ⟨fun h' => US h' s (Sort.fixDown Sort.ltInt a q' g1) ∧ (Sort.fixDown Sort.ltInt a q' g1).size = d.size ∧ Ext (inS s) h h', ?_, ?_⟩
      · unfold Sort.fixDown
        refine Br.dec (fun h2 => ?_) fun h2 => ?_
        · rw [if_pos (by omega)]
          refine ⟨fun h' => US h' s (Sort.shiftDown Sort.ltInt (q' - 1) g1) ∧ (Sort.shiftDown Sort.ltInt (q' - 1) g1).size = d.size ∧ Ext (inS s) h h', ⟨fun j h' m => ∃ (r : Nat) (g : Array Int), j = r ∧ r ≤ q' - 1 ∧ r = m ∧ US h' s g ∧ g.size = d.size ∧ Sort.shiftDown Sort.ltInt r g = Sort.shiftDown Sort.ltInt (q' - 1) g1 ∧ Ext (inS s) h h', ⟨_, q' - 1, g1, rfl, Nat.le_refl _, rfl, u34, hg1s, rfl, x4.trans x34⟩, ?_⟩, fun _ hh => hh⟩
          rintro _ h40 _ ⟨r, g, rfl, hrq, rfl, u40, hgs, hg, x40⟩
          refine Br.dec (fun hge => ?_) fun hlt => ?_
          · obtain ⟨w, rfl⟩ : ∃ w, r = w + 1 := ⟨r - 1, by omega⟩
            rw [Sort.shiftDown] at hg
            have ww : IntKind.wrap .i64 (((w + 1 : Nat) : Int) - 1) = (w : Int) := i64 (by omega) (by omega)
            simp only [ww]
            refine u40.read (k := w + 1) rfl (by omega) fun bb oo hc => ⟨_, hc, u40.read (k := w) rfl (by omega) fun bb oo hc => ⟨_, hc, c80 (Br.not (fun hf => ?_) fun htt => ?_)⟩⟩
            · rw [if_pos (by simp [hf])] at hg
              rw [← hg]; exact ⟨u40, hgs, x40⟩
            · rw [if_neg (by simp [htt])] at hg
              exact u40.swap (p := w) (q := w + 1) rfl rfl (by omega) (by omega) fun h61 hs61 u61 x61 => ⟨w, by omega, w, _, rfl, by omega, rfl, u61, by rw [swp_size]; exact hgs, hg, x40.trans x61⟩
          · have : r = 0 := by omega
            subst this
            rw [← hg]; exact ⟨u40, hgs, x40⟩
        · rw [if_neg (by omega)]
          exact ⟨u34, hg1s, x4.trans x34⟩
      · rintro h64 ⟨u64', hf1, x64⟩
        generalize Sort.fixDown Sort.ltInt a q' g1 = g2 at *
        unfold Sort.fixUp at hd
        refine Br.dec (fun h2 => ?_) fun h2 => ?_
        · rw [if_pos (by omega)] at hd
          refine ⟨fun j h' m => ∃ (r : Nat) (g : Array Int), j = r ∧ q' < r ∧ r ≤ b ∧ m = b - r ∧ US h' s g ∧ g.size = d.size ∧ Sort.shiftUp Sort.ltInt b r g = Sort.shiftUp Sort.ltInt b (q' + 1) g2 ∧ Ext (inS s) h h', ⟨_, q' + 1, g2, rfl, by omega, by omega, rfl, u64', hf1, rfl, x64⟩, ?_⟩
          rintro _ h68 _ ⟨r, g, rfl, hrq, hrb, rfl, u68, hgs, hg, x68⟩
          rw [Sort.shiftUp] at hg
          refine Br.dec (fun hlt => ?_) fun hge => ?_
          · rw [if_pos (by omega)] at hg
            have ww : IntKind.wrap .i64 ((r : Int) - 1) = ((r - 1 : Nat) : Int) := i64 (by omega) (by omega)
            simp only [ww]
            refine u68.read (k := r) rfl (by omega) fun bb oo hc => ⟨_, hc, u68.read (k := r - 1) rfl (by omega) fun bb oo hc => ⟨_, hc, c80 (Br.not (fun hf => ?_) fun htt => ?_)⟩⟩
            · rw [if_pos (by simp [hf])] at hg
              rw [← hg] at hd
              exact next u68 hgs hd x68
            · rw [if_neg (by simp [htt])] at hg
              exact u68.swap (p := r - 1) (q := r) rfl rfl (by omega) (by omega) fun h90 hs90 u90 x90 => ⟨b - (r + 1), by omega, r + 1, _, i64 (by omega) (by omega), by omega, by omega, rfl, u90, by rw [swp_size]; exact hgs, hg, x68.trans x90⟩
          · rw [if_neg (by omega)] at hg
            rw [← hg] at hd
            exact next u68 hgs hd x68
        · rw [if_neg (by omega)] at hd
          exact next u64' hf1 hd x64
  · have ht0 : t = 0 := by omega
    subst ht0
    have : Sort.partialIns Sort.ltInt a b 0 q e = (e, false) := rfl
    rw [this] at hd
    rw [← hd] at k
    exact k h4 u4 x4

/-- order2: the two indices, in some order. -/
theorem c91 {h : Heap} {s : Slc} {d : Array Int} (u : US h s d) {a b x : Nat} {n : Int} (ha : a < d.size) (hb : b < d.size) (hx : Blk h x 3 [.int .i64 n]) (hxs : ¬ inS s x) {R : Int → Int → Heap → Prop}
    (k : ∀ h' m, Blk h' x 3 [.int .i64 m] → Ext (fun y => y = x) h h' → R a b h' ∧ R b a h') :
    Call Go.Proofs.Try.prog 91 [.lf (.slc s), .lf (.int .i64 a), .lf (.int .i64 b), .lf (.ptr (some (x, 0)))] h [.one (.int .i64), .one (.int .i64)] R :=
  ok91 (u.read (k := b) rfl hb fun _ o hc => ⟨_, hc, u.read (k := a) rfl ha fun _ o hc => ⟨_, hc, c80 (Br.mk (fun _ => NilC.mk rfl ⟨n, hx.cell rfl, NilC.mk rfl (StC.one hx (by simp) fun h13 hs13 k13 e13 => (k h13 _ k13 e13).2)⟩) fun _ => (k h n hx (Ext.refl _ _)).1)⟩⟩)

theorem c89 {h : Heap} {s : Slc} {d : Array Int} (u : US h s d) {a b c x : Nat} {n : Int} (ha : a < d.size) (hb : b < d.size) (hc : c < d.size) (hx : Blk h x 3 [.int .i64 n]) (hxs : ¬ inS s x) {R : Int → Heap → Prop}
    (k : ∀ (p : Nat) h' m, (p = a ∨ p = b ∨ p = c) → Blk h' x 3 [.int .i64 m] → Ext (fun y => y = x) h h' → R p h') :
    Call Go.Proofs.Try.prog 89 [.lf (.slc s), .lf (.int .i64 a), .lf (.int .i64 b), .lf (.int .i64 c), .lf (.ptr (some (x, 0)))] h [.one (.int .i64)] R := by
  have ux : ∀ {h'}, Ext (fun y => y = x) h h' → US h' s d := fun e => u.ext e fun b hb he => hxs (he ▸ hb)
  have step : ∀ {h1 : Heap} {p q : Nat} {m : Int} {R : Int → Int → Heap → Prop}, Ext (fun y => y = x) h h1 → p < d.size → q < d.size → Blk h1 x 3 [.int .i64 m] → (∀ (r t : Nat) h' m', ((r = p ∧ t = q) ∨ (r = q ∧ t = p)) → Blk h' x 3 [.int .i64 m'] → Ext (fun y => y = x) h h' → R r t h') →
      Call Go.Proofs.Try.prog 91 [.lf (.slc s), .lf (.int .i64 p), .lf (.int .i64 q), .lf (.ptr (some (x, 0)))] h1 [.one (.int .i64), .one (.int .i64)] R := fun e hp hq hb1 kk =>
    c91 (ux e) hp hq hb1 hxs fun h' m' hb' e' => ⟨kk _ _ h' m' (.inl ⟨rfl, rfl⟩) hb' (e.trans e'), kk _ _ h' m' (.inr ⟨rfl, rfl⟩) hb' (e.trans e')⟩
  refine ok89 (step (Ext.refl _ _) ha hb hx fun r1 t1 h2 m2 h12 b2 e2 => step e2 (by omega) hc b2 fun r2 t2 h5 m5 h25 b5 e5 => step e5 (by omega) (by omega) b5 fun r3 t3 h8 m8 h38 b8 e8 => k t3 h8 m8 (by omega) b8 e8)

theorem c88 {h : Heap} {s : Slc} {d : Array Int} (u : US h s d) {a x : Nat} {n : Int} (h1 : 1 ≤ a) (ha : a + 1 < d.size) (hx : Blk h x 3 [.int .i64 n]) (hxs : ¬ inS s x) {R : Int → Heap → Prop}
    (k : ∀ (p : Nat) h' m, (p = a - 1 ∨ p = a ∨ p = a + 1) → Blk h' x 3 [.int .i64 m] → Ext (fun y => y = x) h h' → R p h') :
    Call Go.Proofs.Try.prog 88 [.lf (.slc s), .lf (.int .i64 a), .lf (.ptr (some (x, 0)))] h [.one (.int .i64)] R := by
  have hsz := u.sz
  refine ok88 ?_
  unfold vc88
  have w1 : IntKind.wrap .i64 ((a : Int) - 1) = ((a - 1 : Nat) : Int) := i64 (by omega) (by omega)
  have w2 : IntKind.wrap .i64 ((a : Int) + 1) = ((a + 1 : Nat) : Int) := i64 (by omega) (by omega)
  rw [w1, w2]
  exact c89 u (by omega) (by omega) ha hx hxs k

/-- choosePivot: some index. -/
theorem c77 {h : Heap} {s : Slc} {d : Array Int} (u : US h s d) {a b : Nat} (hb : b ≤ d.size) (hab : a + 12 < b) {R : Int → Int → Heap → Prop} (k : ∀ (p : Nat) (t : Int) h', a ≤ p → p < b → Ext0 h h' → R p t h') :
    Call Go.Proofs.Try.prog 77 [.lf (.slc s), .lf (.int .i64 a), .lf (.int .i64 b)] h [.one (.int .i64), .one (.int .i64)] R := by
  have hsz := u.sz
  obtain ⟨l, hl⟩ : ∃ l, b - a = l := ⟨_, rfl⟩
  have wl : IntKind.wrap .i64 ((b : Int) - (a : Int)) = (l : Int) := i64 (by omega) (by omega)
  have wd : Int.tdiv (l : Int) 4 = ((l / 4 : Nat) : Int) := by rw [Int.tdiv_eq_ediv_of_nonneg (by omega)]; rfl
  have wd1 : IntKind.wrap .i64 ((l / 4 : Nat) : Int) = ((l / 4 : Nat) : Int) := i64 rfl (by omega)
  have wm : ∀ c : Nat, c ≤ 3 → IntKind.wrap .i64 (((l / 4 : Nat) : Int) * (c : Int)) = ((l / 4 * c : Nat) : Int) := fun c hc => by
    have h3 : l / 4 * c ≤ l / 4 * 3 := Nat.mul_le_mul_left _ hc
    exact i64 (by simp) (by omega)
  have wm1 := wm 1 (by decide)
  have wm2 := wm 2 (by decide)
  have wm3 := wm 3 (by decide)
  have wa : ∀ n : Nat, n ≤ l → IntKind.wrap .i64 ((a : Int) + (n : Int)) = ((a + n : Nat) : Int) := fun n hn => i64 (by omega) (by omega)
  have wa1 := wa (l / 4 * 1) (by omega)
  have wa2 := wa (l / 4 * 2) (by omega)
  have wa3 := wa (l / 4 * 3) (by omega)
  refine ok77 (New.mk fun x h1 hx hs1 e1 k1 => ?_)
  have u1 := u.ext0 e1
  have hxs : ¬ inS s x := fun hin => by have := u.lt x hin; omega
  have ux : ∀ {h'}, Ext (fun y => y = x) h1 h' → US h' s d := fun e => u1.ext e fun b hb he => hxs (he ▸ hb)
  have hx00 : h.size ≤ x := by omega
  have e0 : ∀ {h'}, Ext (fun y => y = x) h1 h' → Ext0 h h' := fun e => e1.tmp e hx00
  have c1 : ((1 : Nat) : Int) = 1 := rfl
  have c2 : ((2 : Nat) : Int) = 2 := rfl
  have c3 : ((3 : Nat) : Int) = 3 := rfl
  rw [c1] at wm1; rw [c2] at wm2; rw [c3] at wm3
  simp only [wl, wd, wd1, wm1, wm2, wm3, wa1, wa2, wa3]
  have hL1 : 4 * (l / 4) ≤ l := Nat.mul_div_le l 4
  have hL2 : 3 ≤ l / 4 := by omega
  clear wa wa1 wa2 wa3 wm wm1 wm2 wm3 wd wd1 wl c1 c2 c3
  have hx0 : h.size ≤ x := by omega
  clear hx hs1
  generalize l / 4 = L at *
  refine ⟨by decide, by decide, by decide, Br.dec (fun h8 => ?_) fun h8 => ?_⟩
  · refine ⟨fun i j k h' => ∃ (p q r : Nat) (m : Int), i = p ∧ j = q ∧ k = r ∧ a ≤ p ∧ p < b ∧ a ≤ q ∧ q < b ∧ a ≤ r ∧ r < b ∧ Blk h' x 3 [.int .i64 m] ∧ Ext (fun y => y = x) h1 h', Br.dec (fun h50 => ?_) fun h50 => ?_, ?_⟩
    · refine c88 u1 (by omega) (by omega) k1 hxs fun p h4 m4 hp b4 e4 => c88 (ux e4) (by omega) (by omega) b4 hxs fun q h6 m6 hq b6 e6 => c88 (ux (e4.trans e6)) (by omega) (by omega) b6 hxs fun r h8' m8 hr b8 e8 => ?_
      exact ⟨p, q, r, m8, rfl, rfl, rfl, by omega, by omega, by omega, by omega, by omega, by omega, b8, (e4.trans e6).trans e8⟩
    · exact ⟨_, _, _, _, rfl, rfl, rfl, by omega, by omega, by omega, by omega, by omega, by omega, k1, Ext.refl _ _⟩
    · rintro _ _ _ h12 ⟨p, q, r, m, rfl, rfl, rfl, hp1, hp2, hq1, hq2, hr1, hr2, b12, e12⟩
      refine c89 (ux e12) (by omega) (by omega) (by omega) b12 hxs fun t h14 m14 ht b14 e14 => ⟨_, b14.cell rfl, ?_⟩
      have e := e0 (e12.trans e14)
      exact Br.eq (fun _ => k t 1 h14 (by omega) (by omega) e) fun _ => Br.eq (fun _ => k t 2 h14 (by omega) (by omega) e) fun _ => k t 0 h14 (by omega) (by omega) e
  · omega

end Go.V.Ytclffphegfhocaa
