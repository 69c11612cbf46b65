/- This text proves a part of the laws of seat Yteojmnnobmpdiaa, under no condition: S12a S12b. -/
import Derived.Test.YteojmnnobmpdiaaSD
import Derived.Test.YteojmnnobmpdiaaSE
import Derived.Sort.LotA
import Derived.Sort.LotB
import Derived.Sort.LotC
import Derived.Sort.LotD1
import Derived.Sort.LotD2
import Derived.Sort.LotD3
import Derived.Test.YteojmnnobmpdiaaSF
set_option linter.unusedVariables false
set_option linter.unusedSimpArgs false
/-! slices.Sort of numbers: words; insertion sort; heap sort. -/
namespace Go.V.Yteojmnnobmpdiaa
open Go Go.V

def uF (n : Int) : List Lf := [.int .u64 n]
theorem uF_sized : Sized 1 uF := fun _ => rfl

/-- The row that is sorted, as an array. -/
structure US (h : Heap) (s : Slc) (d : Array Int) : Prop where
  own : Own 1 uF h s d.toList
  sz : d.size ≤ 4398046511104

/-- The row's block. -/
def inS (s : Slc) (b : Nat) : Prop := ∃ o, s.a = some (b, o)

theorem US.len {h : Heap} {s : Slc} {d : Array Int} (u : US h s d) : s.len = d.size := by have := u.own.len; simpa using this
theorem US.read {h : Heap} {s : Slc} {d : Array Int} (u : US h s d) {i : Int} {k : Nat} (hi : i = (k : Int)) (hk : k < d.size) {K : Nat → Nat → Prop} (c : ∀ b o, cellsAt h b o [.int .u64 d[k]!] → K b o) : IxC s i 1 K :=
  (u.own.arr uF_sized).ix hi (x := d[k]!) (by simp [hk, getElem!_pos]) c
theorem US.write {h : Heap} {s : Slc} {d : Array Int} (u : US h s d) {i : Int} {k : Nat} (hi : i = (k : Int)) (hk : k < d.size) {v : Int} {K : Heap → Prop}
    (c : ∀ h', h'.size = h.size → US h' s (d.setIfInBounds k v) → Ext (inS s) h h' → K h') : IxC s i 1 fun b o => StC h b o [.int .u64 v] K :=
  IxC.set uF_sized u.own hi (by simpa using hk) (x := v) rfl fun h' hs o e => c h' hs ⟨by simpa using o, by simpa using u.sz⟩ e
/-- data[q], data[p] = data[p], data[q]. -/
theorem US.swap {h : Heap} {s : Slc} {d : Array Int} (u : US h s d) {i j : Int} {p q : Nat} (hi : i = (p : Int)) (hj : j = (q : Int)) (hp : p < d.size) (hq : q < d.size) {K : Heap → Prop}
    (c : ∀ h', h'.size = h.size → US h' s (Sort.swp d q p) → Ext (inS s) h h' → K h') :
    IxC s i 1 fun b o => ∃ v, cellsAt h b o [.int .u64 v] ∧ IxC s j 1 fun b o => ∃ w, cellsAt h b o [.int .u64 w] ∧ IxC s j 1 fun b o => StC h b o [.int .u64 v] fun h1 => IxC s i 1 fun b o => StC h1 b o [.int .u64 w] K :=
  u.read hi hp fun b o hc => ⟨_, hc, u.read hj hq fun b o hc => ⟨_, hc, u.write hj hq fun h1 hs1 u1 e1 => u1.write hi (by simpa using hp) fun h2 hs2 u2 e2 => c h2 (by omega) u2 (e1.trans e2)⟩⟩

theorem swp_size (d : Array Int) (i j : Nat) : (Sort.swp d i j).size = d.size := by simp [Sort.swp]

/-- cmp.Less. -/
theorem c150 {x y : Int} {h : Heap} {R : Bool → Heap → Prop} (k : R (Sort.ltInt x y) h) : Call Go.Proofs.Try.prog 150 [.lf (.int .u64 x), .lf (.int .u64 y)] h [.one .bool] R := by
  have nan : ∀ {z : Int} {R : Bool → Heap → Prop}, R false h → Call Go.Proofs.Try.prog 169 [.lf (.int .u64 z)] h [.one .bool] R := fun {z R} k => ok169 (by
    unfold vc169
    have : (z != z) = false := by simp
    rw [this]; exact k)
  exact ok150 (nan (Br.f rfl k))

theorem i64 {n : Int} {k : Nat} (h : n = (k : Int)) (hk : k ≤ 9223372036854775807) : IntKind.wrap .i64 n = (k : Int) := by subst h; exact wi64 (by omega) (by omega)

/-- insertionSort. -/
theorem c144 {h : Heap} {s : Slc} {d : Array Int} (u : US h s d) {a b : Nat} (hb : b ≤ d.size) (ha : a ≤ b) {R : Heap → Prop} (k : ∀ h', US h' s (Sort.insertionSort Sort.ltInt d a b) → Ext (inS s) h h' → R h') :
    Call Go.Proofs.Try.prog 144 [.lf (.slc s), .lf (.int .i64 a), .lf (.int .i64 b)] h [] R := by
  have hsz := u.sz
  unfold Sort.insertionSort at k
  refine ok144 ⟨fun i h' m => ∃ (q : Nat) (e : Array Int), i = q ∧ a + 1 ≤ q ∧ q ≤ b + 1 ∧ m = b + 1 - q ∧ US h' s e ∧ e.size = d.size ∧ Sort.insOuter Sort.ltInt a b q e = Sort.insOuter Sort.ltInt a b (a + 1) d ∧ Ext (inS s) h h',
    ⟨_, a + 1, d, i64 (by omega) (by omega), Nat.le_refl _, by omega, rfl, u, rfl, rfl, Ext.refl _ _⟩, ?_⟩
  rintro _ h3 _ ⟨q, e, rfl, hq1, hq2, rfl, u3, hes, hd, x3⟩
  refine Br.dec (fun hi => ?_) fun hi => ?_
  · have hqb : q < b := by omega
    have next : ∀ {h8 : Heap}, US h8 s (Sort.insInner Sort.ltInt a q e) → (Sort.insInner Sort.ltInt a q e).size = d.size → Ext (inS s) h h8 → ∃ b19, b19 < b + 1 - q ∧ ∃ (q' : Nat) (e : Array Int), IntKind.wrap .i64 ((q : Int) + 1) = (q' : Int) ∧ a + 1 ≤ q' ∧ q' ≤ b + 1 ∧ b19 = b + 1 - q' ∧ US h8 s e ∧ e.size = d.size ∧ Sort.insOuter Sort.ltInt a b q' e = Sort.insOuter Sort.ltInt a b (a + 1) d ∧ Ext (inS s) h h8 := fun u8 hs8 x8 =>
      ⟨b + 1 - (q + 1), by omega, q + 1, _, i64 (by omega) (by omega), by omega, by omega, rfl, u8, hs8, by rw [← hd]; conv => rhs; rw [Sort.insOuter, if_pos hqb], x8⟩
    refine ⟨fun j h' m => ∃ (p : Nat) (g : Array Int), j = p ∧ p ≤ q ∧ p = m ∧ US h' s g ∧ g.size = d.size ∧ Sort.insInner Sort.ltInt a p g = Sort.insInner Sort.ltInt a q e ∧ Ext (inS s) h h', ⟨_, q, e, rfl, Nat.le_refl _, rfl, u3, hes, rfl, x3⟩, ?_⟩
    rintro _ h8 _ ⟨p, g, rfl, hpq, rfl, u8, hgs, hg, x8⟩
    refine ⟨fun h' => h8 = h' ∧ ∃ r, p = r + 1 ∧ a ≤ r ∧ Sort.ltInt g[r + 1]! g[r]! = true, Br.dec (fun hj => ?_) fun hj => ?_, ?_⟩
    · obtain ⟨r, rfl⟩ : ∃ r, p = r + 1 := ⟨p - 1, by omega⟩
      refine u8.read (k := r + 1) rfl (by omega) fun b o hc => ⟨_, hc, u8.read (k := r) (i64 (by omega) (by omega)) (by omega) fun b o hc => ⟨_, hc, c150 (Br.mk (fun ht => ⟨rfl, r, rfl, by omega, ht⟩) fun hf => ?_)⟩⟩
      have hX : Sort.insInner Sort.ltInt a (r + 1) g = g := by rw [Sort.insInner, hf]; simp
      rw [hX] at hg
      exact next (hg ▸ u8) (by rw [← hg]; exact hgs) x8
    · have hX : Sort.insInner Sort.ltInt a p g = g := by
        cases p with
        | zero => rfl
        | succ r =>
          have : ¬ (r + 1 > a) := by omega
          rw [Sort.insInner]; simp [this]
      rw [hX] at hg
      exact next (hg ▸ u8) (by rw [← hg]; exact hgs) x8
    · rintro _ ⟨rfl, r, rfl, har, hlt⟩
      refine u8.swap (p := r) (q := r + 1) (i64 (by omega) (by omega)) rfl (by omega) (by omega) fun h33 hs33 u33 x33 => ⟨r, by omega, r, _, i64 (by omega) (by omega), by omega, rfl, u33, by rw [swp_size]; exact hgs, ?_, x8.trans x33⟩
      rw [← hg]
      conv => rhs; rw [Sort.insInner]
      have : (r + 1 > a) := by omega
      simp [this, hlt]
  · have hqb : ¬ q < b := by omega
    rw [Sort.insOuter, if_neg hqb] at hd
    rw [hd] at u3
    exact k h3 u3 x3

/-- siftDown. -/
theorem c164 {h : Heap} {s : Slc} {d : Array Int} (u : US h s d) {lo hi first : Nat} (hb : first + hi ≤ d.size) (hlo : lo ≤ d.size) {R : Heap → Prop} (k : ∀ h', US h' s (Sort.siftDown Sort.ltInt hi first lo d) → Ext (inS s) h h' → R h') :
    Call Go.Proofs.Try.prog 164 [.lf (.slc s), .lf (.int .i64 lo), .lf (.int .i64 hi), .lf (.int .i64 first)] h [] R := by
  have hsz := u.sz
  refine ok164 ⟨fun i h' m => ∃ (q : Nat) (e : Array Int), i = q ∧ q ≤ d.size ∧ m = hi - q ∧ US h' s e ∧ e.size = d.size ∧ Sort.siftDown Sort.ltInt hi first q e = Sort.siftDown Sort.ltInt hi first lo d ∧ Ext (inS s) h h',
    ⟨_, lo, d, rfl, hlo, rfl, u, rfl, rfl, Ext.refl _ _⟩, ?_⟩
  rintro _ h3 _ ⟨q, e, rfl, hq, rfl, u3, hes, hd, x3⟩
  have w1 : IntKind.wrap .i64 (2 * (q : Int)) = ((2 * q : Nat) : Int) := i64 (by omega) (by omega)
  have w2 : IntKind.wrap .i64 (((2 * q : Nat) : Int) + 1) = ((2 * q + 1 : Nat) : Int) := i64 (by omega) (by omega)
  have w3 : IntKind.wrap .i64 (((2 * q + 1 : Nat) : Int) + 1) = ((2 * q + 2 : Nat) : Int) := i64 (by omega) (by omega)
  have w4 : IntKind.wrap .i64 ((first : Int) + ((2 * q + 1 : Nat) : Int)) = ((first + (2 * q + 1) : Nat) : Int) := i64 (by omega) (by omega)
  have w5 : IntKind.wrap .i64 (((first + (2 * q + 1) : Nat) : Int) + 1) = ((first + (2 * q + 1) + 1 : Nat) : Int) := i64 (by omega) (by omega)
  have w6 : IntKind.wrap .i64 ((first : Int) + (q : Int)) = ((first + q : Nat) : Int) := i64 (by omega) (by omega)
  simp only [w1, w2, w3, w4, w5, w6]
  rw [Sort.siftDown] at hd
  refine Br.dec (fun hge => ?_) fun hlt => ?_
  · have : 2 * q + 1 ≥ hi := by omega
    rw [dif_pos this] at hd
    exact k h3 (hd ▸ u3) x3
  · have hn : ¬ 2 * q + 1 ≥ hi := by omega
    rw [dif_neg hn] at hd
    refine ⟨fun c h' => h3 = h' ∧ ∃ ch : Nat, c = (ch : Int) ∧ ch < hi ∧ q < ch ∧ (if !Sort.ltInt e[first + q]! e[first + ch]! then e else Sort.siftDown Sort.ltInt hi first ch (Sort.swp e (first + q) (first + ch))) = Sort.siftDown Sort.ltInt hi first lo d,
      ⟨fun c h' => h3 = h' ∧ c = (decide (2 * q + 1 + 1 < hi) && Sort.ltInt e[first + (2 * q + 1)]! e[first + (2 * q + 1) + 1]!), Br.dec (fun h2 => ?_) fun h2 => ⟨rfl, ?_⟩, ?_⟩, ?_⟩
    · refine u3.read (k := first + (2 * q + 1)) rfl (by omega) fun b o hc => ⟨_, hc, u3.read (k := first + (2 * q + 1) + 1) rfl (by omega) fun b o hc => ⟨_, hc, c150 ⟨rfl, ?_⟩⟩⟩
      have : 2 * q + 1 + 1 < hi := by omega
      simp [this]
    · have : ¬ 2 * q + 1 + 1 < hi := by omega
      simp [this]
    · rintro _ _ ⟨rfl, rfl⟩
      refine Br.mk (fun ht => ⟨rfl, 2 * q + 2, rfl, ?_, by omega, ?_⟩) fun hf => ⟨rfl, 2 * q + 1, rfl, by omega, by omega, ?_⟩
      · simp only [Bool.and_eq_true, decide_eq_true_eq] at ht; omega
      · rw [if_pos ht] at hd
        have : 2 * q + 2 < hi := by simp only [Bool.and_eq_true, decide_eq_true_eq] at ht; omega
        rw [dif_pos this] at hd
        exact hd
      · rw [if_neg (by simp [hf])] at hd
        exact hd
    · rintro _ _ ⟨rfl, ch, rfl, hch, hqc, hfin⟩
      have w7 : IntKind.wrap .i64 ((first : Int) + (ch : Int)) = ((first + ch : Nat) : Int) := i64 (by omega) (by omega)
      simp only [w7]
      refine u3.read (k := first + q) rfl (by omega) fun b o hc => ⟨_, hc, u3.read (k := first + ch) rfl (by omega) fun b o hc => ⟨_, hc, c150 (Br.not (fun hf => ?_) fun ht => ?_)⟩⟩
      · rw [hf] at hfin
        simp only [Bool.not_false, if_true] at hfin
        exact k h3 (hfin ▸ u3) x3
      · rw [ht] at hfin
        simp only [Bool.not_true, Bool.false_eq_true, if_false] at hfin
        refine u3.swap (p := first + ch) (q := first + q) rfl rfl (by omega) (by omega) fun h38 hs38 u38 x38 => ⟨hi - ch, by omega, ch, _, rfl, by omega, rfl, u38, by rw [swp_size]; exact hes, hfin, x3.trans x38⟩

/-- heapSort. -/
theorem c145 {h : Heap} {s : Slc} {d : Array Int} (u : US h s d) {a b : Nat} (hb : b ≤ d.size) (ha : a ≤ b) {R : Heap → Prop} (k : ∀ h', US h' s (Sort.heapSort Sort.ltInt d a b) → Ext (inS s) h h' → R h') :
    Call Go.Proofs.Try.prog 145 [.lf (.slc s), .lf (.int .i64 a), .lf (.int .i64 b)] h [] R := by
  have hsz := u.sz
  have wba : IntKind.wrap .i64 ((b : Int) - (a : Int)) = ((b - a : Nat) : Int) := i64 (by omega) (by omega)
  have sift_size : ∀ (hi first root : Nat) (d : Array Int), (Sort.siftDown Sort.ltInt hi first root d).size = d.size := fun hi first root d => by
    have key : ∀ (n root : Nat) (d : Array Int), hi - root ≤ n → (Sort.siftDown Sort.ltInt hi first root d).size = d.size := by
      intro n
      induction n with
      | zero => intro root d hn; rw [Sort.siftDown, dif_pos (by omega)]
      | succ n ih =>
        intro root d hn
        rw [Sort.siftDown]
        split
        · rfl
        · split
          · split
            · rfl
            · split
              · rw [ih _ _ (by omega), swp_size]
              · rfl
          · split
            · rfl
            · rw [ih _ _ (by omega), swp_size]
    exact key _ root d (Nat.le_refl _)
  unfold Sort.heapSort at k
  refine ok145 ⟨by decide, ?_⟩
  simp only [wba]
  have hstart : IntKind.wrap .i64 (Int.tdiv (IntKind.wrap .i64 (((b - a : Nat) : Int) - 1)) 2) = (((b - a - 1) / 2 + 1 : Nat) : Int) - 1 := by
    rw [wi64 (n := ((b - a : Nat) : Int) - 1) (by omega) (by omega)]
    by_cases h0 : b - a = 0
    · rw [h0]; decide
    · rw [Int.tdiv_eq_ediv_of_nonneg (by omega), wi64 (by omega) (by omega)]; omega
  rw [hstart]
  refine ⟨fun i h' m => ∃ (q : Nat) (e : Array Int), i = (q : Int) - 1 ∧ q ≤ (b - a - 1) / 2 + 1 ∧ q = m ∧ US h' s e ∧ e.size = d.size ∧ Sort.heapBuild Sort.ltInt (b - a) a q e = Sort.heapBuild Sort.ltInt (b - a) a ((b - a - 1) / 2 + 1) d ∧ Ext (inS s) h h',
    ⟨_, _, d, rfl, Nat.le_refl _, rfl, u, rfl, rfl, Ext.refl _ _⟩, ?_⟩
  rintro _ h3 _ ⟨q, e, rfl, hq, rfl, u3, hes, hd, x3⟩
  refine Br.dec (fun hi => ?_) fun hi => ?_
  · obtain ⟨r, rfl⟩ : ∃ r, q = r + 1 := ⟨q - 1, by omega⟩
    have hr : ((r + 1 : Nat) : Int) - 1 = (r : Int) := by omega
    rw [hr]
    refine c164 u3 (by omega) (by omega) fun h5 u5 x5 => ⟨r, by omega, r, _, ?_, by omega, rfl, u5, by rw [sift_size]; exact hes, hd, x3.trans x5⟩
    rw [wi64 (by omega) (by omega)]
  · have hq0 : q = 0 := by omega
    subst hq0
    have hb0 : Sort.heapBuild Sort.ltInt (b - a) a 0 e = e := rfl
    rw [hb0] at hd
    rw [← hd] at k
    have hw1 : IntKind.wrap .i64 (((b - a : Nat) : Int) - 1) = ((b - a : Nat) : Int) - 1 := wi64 (by omega) (by omega)
    rw [hw1]
    refine ⟨fun i h' m => ∃ (q : Nat) (g : Array Int), i = (q : Int) - 1 ∧ q ≤ b - a ∧ q = m ∧ US h' s g ∧ g.size = d.size ∧ Sort.heapPop Sort.ltInt a q g = Sort.heapPop Sort.ltInt a (b - a) e ∧ Ext (inS s) h h',
      ⟨_, _, e, rfl, Nat.le_refl _, rfl, u3, hes, rfl, x3⟩, ?_⟩
    rintro _ h10 _ ⟨q, g, rfl, hq, rfl, u10, hgs, hg, x10⟩
    refine Br.dec (fun hi2 => ?_) fun hi2 => ?_
    · obtain ⟨r, rfl⟩ : ∃ r, q = r + 1 := ⟨q - 1, by omega⟩
      have hr : ((r + 1 : Nat) : Int) - 1 = (r : Int) := by omega
      rw [hr]
      have w6 : IntKind.wrap .i64 ((a : Int) + (r : Int)) = ((a + r : Nat) : Int) := i64 (by omega) (by omega)
      simp only [w6]
      refine u10.swap (p := a + r) (q := a) rfl rfl (by omega) (by omega) fun h23 hs23 u23 x23 => ?_
      refine c164 u23 (lo := 0) (by rw [swp_size]; omega) (by omega) fun h24 u24 x24 => ⟨r, by omega, r, _, ?_, by omega, rfl, u24, by rw [sift_size, swp_size]; exact hgs, hg, (x10.trans x23).trans x24⟩
      rw [wi64 (by omega) (by omega)]
    · have hq0 : q = 0 := by omega
      subst hq0
      have hb0 : Sort.heapPop Sort.ltInt a 0 g = g := rfl
      rw [hb0] at hg
      exact k h10 (hg ▸ u10) x10

end Go.V.Yteojmnnobmpdiaa
set_option linter.unusedVariables false
set_option linter.unusedSimpArgs false
/-! slices.Sort of numbers: the partitions. -/
namespace Go.V.Yteojmnnobmpdiaa
open Go Go.V

theorem sdn_zero (p : Int → Bool) (d : Array Int) (i : Nat) (h : 1 ≤ i) (j : Nat) (hij : ¬ i ≤ j) : Sort.scanDown p d i j = j := by
  cases j with
  | zero => rfl
  | succ j => rw [Sort.scanDown]; simp [hij]

/-- partitionEqual. -/
theorem c151 {h : Heap} {s : Slc} {d : Array Int} (u : US h s d) {a b pivot : Nat} (hb : b ≤ d.size) (ha : a ≤ pivot) (hp : pivot < b) {R : Int → Heap → Prop}
    (k : ∀ h', US h' s (Sort.partitionEqual Sort.ltInt d a b pivot).2 → Ext (inS s) h h' → R ((Sort.partitionEqual Sort.ltInt d a b pivot).1 : Nat) h') :
    Call Go.Proofs.Try.prog 151 [.lf (.slc s), .lf (.int .i64 a), .lf (.int .i64 b), .lf (.int .i64 pivot)] h [.one (.int .i64)] R := by
  have hsz := u.sz
  unfold Sort.partitionEqual at k
  refine ok151 (u.swap (p := pivot) (q := a) rfl rfl (by omega) (by omega) fun h11 hs11 u11 x11 => ?_)
  refine ⟨fun i j h' m => ∃ (q r : Nat) (e : Array Int), i = q ∧ j = r ∧ a < q ∧ q ≤ r + 1 ∧ r < b ∧ m = r + 1 - q ∧ US h' s e ∧ e.size = d.size ∧ Sort.partEqLoop Sort.ltInt a q r e = Sort.partEqLoop Sort.ltInt a (a + 1) (b - 1) (Sort.swp d a pivot) ∧ Ext (inS s) h h',
    ⟨_, a + 1, b - 1, _, i64 (by omega) (by omega), i64 (by omega) (by omega), by omega, by omega, by omega, rfl, u11, by rw [swp_size], rfl, x11⟩, ?_⟩
  rintro _ _ h16 _ ⟨q, r, e, rfl, rfl, hq, hqr, hrb, rfl, u16, hes, hd, x16⟩
  obtain ⟨su1, su2, _, su4⟩ := Sort.scanUp_spec (fun x => !Sort.ltInt e[a]! x) e r _ q rfl
  obtain ⟨i2, hi2⟩ : ∃ i2, i2 = Sort.scanUp (fun x => !Sort.ltInt e[a]! x) e r q := ⟨_, rfl⟩
  obtain ⟨sd1, sd2, _, sd4⟩ := Sort.scanDown_spec (fun x => Sort.ltInt e[a]! x) e i2 r
  obtain ⟨j2, hj2⟩ : ∃ j2, j2 = Sort.scanDown (fun x => Sort.ltInt e[a]! x) e i2 r := ⟨_, rfl⟩
  rw [← hi2] at su1 su2 su4
  rw [← hj2] at sd1 sd2 sd4
  have hstrict : i2 ≤ j2 → i2 < j2 := fun hle => by
    rcases Nat.lt_or_eq_of_le hle with h1 | h1
    · exact h1
    · have a1 := su4 (by omega)
      have a2 := sd4 hle (by omega)
      rw [← h1] at a2
      rw [a2] at a1; cases a1
  rw [Sort.partEqLoop_eq, ← hi2, ← hj2] at hd
  refine ⟨fun i h' => h16 = h' ∧ i = (i2 : Int), ⟨fun i j h' m => ∃ t : Nat, i = t ∧ j = r ∧ q ≤ t ∧ t ≤ r + 1 ∧ m = r + 1 - t ∧ h16 = h' ∧ i2 = Sort.scanUp (fun x => !Sort.ltInt e[a]! x) e r t, ⟨_, q, rfl, rfl, Nat.le_refl _, hqr, rfl, rfl, hi2⟩, ?_⟩, ?_⟩
  · rintro _ _ _ _ ⟨t, rfl, rfl, htq, htr, rfl, rfl, ht⟩
    rw [Sort.scanUp] at ht
    refine Br.dec (fun hle => ?_) fun hle => ⟨rfl, ?_⟩
    · have hle' : t ≤ r := by omega
      refine u16.read (k := a) rfl (by omega) fun b o hc => ⟨_, hc, u16.read (k := t) rfl (by omega) fun b o hc => ⟨_, hc, c150 (Br.not (fun hf => ?_) fun ht2 => ⟨rfl, ?_⟩)⟩⟩
      · rw [if_pos (by simp [hle', hf])] at ht
        exact ⟨r + 1 - (t + 1), by omega, t + 1, i64 (by omega) (by omega), rfl, by omega, by omega, rfl, rfl, ht⟩
      · rw [if_neg (by simp [ht2])] at ht
        rw [ht]
    · have hle' : ¬ t ≤ r := by omega
      rw [if_neg (by simp [hle'])] at ht
      rw [ht]
  rintro _ _ ⟨rfl, rfl⟩
  refine ⟨fun j h' => h16 = h' ∧ j = (j2 : Int), ⟨fun j h' m => ∃ t : Nat, j = t ∧ i2 ≤ t + 1 ∧ t ≤ r ∧ m = t + 1 - i2 ∧ h16 = h' ∧ j2 = Sort.scanDown (fun x => Sort.ltInt e[a]! x) e i2 t, ⟨_, r, rfl, su2 hqr, Nat.le_refl _, rfl, rfl, hj2⟩, ?_⟩, ?_⟩
  · rintro _ _ _ ⟨t, rfl, ht1, ht2, rfl, rfl, ht⟩
    refine Br.dec (fun hle => ?_) fun hle => ⟨rfl, ?_⟩
    · have hle' : i2 ≤ t := by omega
      obtain ⟨w, rfl⟩ : ∃ w, t = w + 1 := ⟨t - 1, by omega⟩
      rw [Sort.scanDown] at ht
      refine u16.read (k := a) rfl (by omega) fun b o hc => ⟨_, hc, u16.read (k := w + 1) rfl (by omega) fun b o hc => ⟨_, hc, c150 (Br.mk (fun htt => ?_) fun hf => ⟨rfl, ?_⟩)⟩⟩
      · rw [if_pos (by simp [hle', htt])] at ht
        exact ⟨w + 1 - i2, by omega, w, i64 (by omega) (by omega), by omega, by omega, rfl, rfl, ht⟩
      · rw [if_neg (by simp [hf])] at ht
        rw [ht]
    · have hle' : ¬ i2 ≤ t := by omega
      rw [sdn_zero _ _ _ (by omega) _ hle'] at ht
      rw [ht]
  rintro _ _ ⟨rfl, rfl⟩
  refine Br.dec (fun hgt => ?_) fun hle => ?_
  · rw [if_pos (by omega)] at hd
    rw [← hd] at k
    exact k h16 u16 x16
  · rw [if_neg (by omega)] at hd
    have hst := hstrict (by omega)
    refine u16.swap (p := j2) (q := i2) rfl rfl (by omega) (by omega) fun h64 hs64 u64' x64 => ⟨(j2 - 1) + 1 - (i2 + 1), by omega, i2 + 1, j2 - 1, _, i64 (by omega) (by omega), i64 (by omega) (by omega), by omega, by omega, by omega, rfl, u64', by rw [swp_size]; exact hes, hd, x16.trans x64⟩

/-- partition. -/
theorem c152 {h : Heap} {s : Slc} {d : Array Int} (u : US h s d) {a b pivot : Nat} (hb : b ≤ d.size) (ha : a ≤ pivot) (hp : pivot < b) {R : Int → Bool → Heap → Prop}
    (k : ∀ h', US h' s (Sort.partition Sort.ltInt d a b pivot).2.2 → Ext (inS s) h h' → R ((Sort.partition Sort.ltInt d a b pivot).1 : Nat) (Sort.partition Sort.ltInt d a b pivot).2.1 h') :
    Call Go.Proofs.Try.prog 152 [.lf (.slc s), .lf (.int .i64 a), .lf (.int .i64 b), .lf (.int .i64 pivot)] h [.one (.int .i64), .one .bool] R := by
  have hsz := u.sz
  unfold Sort.partition at k
  simp only at k
  refine ok152 (u.swap (p := pivot) (q := a) rfl rfl (by omega) (by omega) fun h11 hs11 u11 x11 => ?_)
  have hes : (Sort.swp d a pivot).size = d.size := swp_size ..
  generalize Sort.swp d a pivot = e at *
  have wb : IntKind.wrap .i64 ((b : Int) - 1) = ((b - 1 : Nat) : Int) := i64 (by omega) (by omega)
  simp only [wb]
  -- the two scans, from wherever
  have up : ∀ {g : Array Int} {h0 : Heap} {q r : Nat}, US h0 s g → g.size = d.size → a < q → q ≤ r + 1 → r < b → ∀ {K : Int → Heap → Prop}, K (Sort.scanUp (fun x => Sort.ltInt x g[a]!) g r q : Nat) h0 →
      ∃ (I13 : Int → Heap → Nat → Prop), (∃ (b14 : Nat), I13 q h0 b14) ∧ ∀ (i15 : Int) (h16 : Heap) (b17 : Nat), I13 i15 h16 b17 → Br (decide (i15 ≤ (r : Nat))) (IxC s i15 1 fun (b18 b19 : Nat) => ∃ (i20 : Int), cellsAt h16 b18 b19 [.int .u64 i20] ∧ IxC s a 1 fun (b21 b22 : Nat) => ∃ (i23 : Int), cellsAt h16 b21 b22 [.int .u64 i23] ∧
        Call Go.Proofs.Try.prog 150 [.lf (.int .u64 i20), .lf (.int .u64 i23)] h16 [.one .bool] fun (c24 : Bool) (h25 : Heap) => Br c24 (∃ (b26 : Nat), b26 < b17 ∧ I13 (IntKind.wrap .i64 (i15 + 1)) h25 b26) (K i15 h25)) (K i15 h16) := by
    intro g h0 q r u0 hgs hq hqr hrb K hK
    refine ⟨fun i h' m => ∃ t : Nat, i = t ∧ q ≤ t ∧ t ≤ r + 1 ∧ m = r + 1 - t ∧ h0 = h' ∧ Sort.scanUp (fun x => Sort.ltInt x g[a]!) g r q = Sort.scanUp (fun x => Sort.ltInt x g[a]!) g r t, ⟨_, q, rfl, Nat.le_refl _, hqr, rfl, rfl, rfl⟩, ?_⟩
    rintro _ _ _ ⟨t, rfl, htq, htr, rfl, rfl, ht⟩
    rw [ht] at hK
    refine Br.dec (fun hle => ?_) fun hle => ?_
    · have hle' : t ≤ r := by omega
      refine u0.read (k := t) rfl (by omega) fun b o hc => ⟨_, hc, u0.read (k := a) rfl (by omega) fun b o hc => ⟨_, hc, c150 (Br.mk (fun htt => ?_) fun hf => ?_)⟩⟩
      · refine ⟨r + 1 - (t + 1), by omega, t + 1, i64 (by omega) (by omega), by omega, by omega, rfl, rfl, ?_⟩
        rw [ht]
        conv => lhs; rw [Sort.scanUp]
        rw [if_pos (by simp [hle', htt])]
      · rw [Sort.scanUp, if_neg (by simp [hf])] at hK
        exact hK
    · have hle' : ¬ t ≤ r := by omega
      rw [Sort.scanUp, if_neg (by simp [hle'])] at hK
      exact hK
  have down : ∀ {g : Array Int} {h0 : Heap} {i2 r : Nat}, US h0 s g → g.size = d.size → a < i2 → i2 ≤ r + 1 → r < b → ∀ {K : Int → Heap → Prop}, K (Sort.scanDown (fun x => !Sort.ltInt x g[a]!) g i2 r : Nat) h0 →
      ∃ (I30 : Int → Heap → Nat → Prop), (∃ (b31 : Nat), I30 r h0 b31) ∧ ∀ (i32 : Int) (h33 : Heap) (b34 : Nat), I30 i32 h33 b34 → Br (decide ((i2 : Nat) ≤ i32)) (IxC s i32 1 fun (b35 b36 : Nat) => ∃ (i37 : Int), cellsAt h33 b35 b36 [.int .u64 i37] ∧ IxC s a 1 fun (b38 b39 : Nat) => ∃ (i40 : Int), cellsAt h33 b38 b39 [.int .u64 i40] ∧
        Call Go.Proofs.Try.prog 150 [.lf (.int .u64 i37), .lf (.int .u64 i40)] h33 [.one .bool] fun (c41 : Bool) (h42 : Heap) => Br (!c41) (∃ (b43 : Nat), b43 < b34 ∧ I30 (IntKind.wrap .i64 (i32 - 1)) h42 b43) (K i32 h42)) (K i32 h33) := by
    intro g h0 i2 r u0 hgs hq hqr hrb K hK
    refine ⟨fun i h' m => ∃ t : Nat, i = t ∧ i2 ≤ t + 1 ∧ t ≤ r ∧ m = t + 1 - i2 ∧ h0 = h' ∧ Sort.scanDown (fun x => !Sort.ltInt x g[a]!) g i2 r = Sort.scanDown (fun x => !Sort.ltInt x g[a]!) g i2 t, ⟨_, r, rfl, hqr, Nat.le_refl _, rfl, rfl, rfl⟩, ?_⟩
    rintro _ _ _ ⟨t, rfl, ht1, ht2, rfl, rfl, ht⟩
    rw [ht] at hK
    refine Br.dec (fun hle => ?_) fun hle => ?_
    · have hle' : i2 ≤ t := by omega
      obtain ⟨w, rfl⟩ : ∃ w, t = w + 1 := ⟨t - 1, by omega⟩
      rw [Sort.scanDown] at hK
      refine u0.read (k := w + 1) rfl (by omega) fun b o hc => ⟨_, hc, u0.read (k := a) rfl (by omega) fun b o hc => ⟨_, hc, c150 (Br.not (fun hf => ?_) fun htt => ?_)⟩⟩
      · refine ⟨w + 1 - i2, by omega, w, i64 (by omega) (by omega), by omega, by omega, rfl, rfl, ?_⟩
        rw [ht]
        conv => lhs; rw [Sort.scanDown]
        rw [if_pos (by simp [hle', hf])]
      · rw [if_neg (by simp [htt])] at hK
        exact hK
    · have hle' : ¬ i2 ≤ t := by omega
      rw [sdn_zero _ _ _ (by omega) _ hle'] at hK
      exact hK
  obtain ⟨su1, su2, _, su4⟩ := Sort.scanUp_spec (fun x => Sort.ltInt x e[a]!) e (b - 1) _ (a + 1) rfl
  obtain ⟨i2, hi2⟩ : ∃ i2, i2 = Sort.scanUp (fun x => Sort.ltInt x e[a]!) e (b - 1) (a + 1) := ⟨_, rfl⟩
  obtain ⟨sd1, sd2, _, sd4⟩ := Sort.scanDown_spec (fun x => !Sort.ltInt x e[a]!) e i2 (b - 1)
  obtain ⟨j2, hj2⟩ : ∃ j2, j2 = Sort.scanDown (fun x => !Sort.ltInt x e[a]!) e i2 (b - 1) := ⟨_, rfl⟩
  rw [← hi2] at su1 su2 su4
  rw [← hj2] at sd1 sd2 sd4
  have hstrict : i2 ≤ j2 → i2 < j2 := fun hle => by
    rcases Nat.lt_or_eq_of_le hle with h1 | h1
    · exact h1
    · have a1 := su4 (by omega)
      have a2 := sd4 hle (by omega)
      rw [← h1] at a2
      rw [a1] at a2; cases a2
  rw [← hi2, ← hj2] at k
  have hw1 : IntKind.wrap .i64 ((a : Int) + 1) = ((a + 1 : Nat) : Int) := i64 (by omega) (by omega)
  simp only [hw1]
  refine ⟨fun i h' => h11 = h' ∧ i = (i2 : Int), up u11 hes (by omega) (by omega) (by omega) ⟨rfl, by rw [hi2]⟩, ?_⟩
  rintro _ _ ⟨rfl, rfl⟩
  refine ⟨fun j h' => h11 = h' ∧ j = (j2 : Int), down u11 hes (by omega) (su2 (by omega)) (by omega) ⟨rfl, by rw [hj2]⟩, ?_⟩
  rintro _ _ ⟨rfl, rfl⟩
  refine Br.dec (fun hgt => ?_) fun hle => ?_
  · rw [if_pos (by omega)] at k
    exact u11.swap (p := a) (q := j2) rfl rfl (by omega) (by omega) fun h57 hs57 u57 x57 => k h57 u57 (x11.trans x57)
  rw [if_neg (by omega)] at k
  have hst := hstrict (by omega)
  refine u11.swap (p := j2) (q := i2) rfl rfl (by omega) (by omega) fun h69 hs69 u69 x69 => ?_
  have wj : IntKind.wrap .i64 ((j2 : Int) - 1) = ((j2 - 1 : Nat) : Int) := i64 (by omega) (by omega)
  have wi : IntKind.wrap .i64 ((i2 : Int) + 1) = ((i2 + 1 : Nat) : Int) := i64 (by omega) (by omega)
  simp only [wj, wi]
  obtain ⟨fin, hfin⟩ : ∃ fin, fin = Sort.partLoop Sort.ltInt a (i2 + 1) (j2 - 1) (Sort.swp e i2 j2) := ⟨_, rfl⟩
  rw [← hfin] at k
  refine ⟨fun i j h' m => ∃ (q r : Nat) (g : Array Int), i = q ∧ j = r ∧ a < q ∧ q ≤ r + 1 ∧ r < b ∧ m = r + 1 - q ∧ US h' s g ∧ g.size = d.size ∧ Sort.partLoop Sort.ltInt a q r g = fin ∧ Ext (inS s) h h',
    ⟨_, i2 + 1, j2 - 1, _, rfl, rfl, by omega, by omega, by omega, rfl, u69, by rw [swp_size]; exact hes, hfin.symm, x11.trans x69⟩, ?_⟩
  rintro _ _ h73 _ ⟨q, r, g, rfl, rfl, hq, hqr, hrb, rfl, u73, hgs, hg, x73⟩
  obtain ⟨tu1, tu2, _, tu4⟩ := Sort.scanUp_spec (fun x => Sort.ltInt x g[a]!) g r _ q rfl
  obtain ⟨i3, hi3⟩ : ∃ i3, i3 = Sort.scanUp (fun x => Sort.ltInt x g[a]!) g r q := ⟨_, rfl⟩
  obtain ⟨td1, td2, _, td4⟩ := Sort.scanDown_spec (fun x => !Sort.ltInt x g[a]!) g i3 r
  obtain ⟨j3, hj3⟩ : ∃ j3, j3 = Sort.scanDown (fun x => !Sort.ltInt x g[a]!) g i3 r := ⟨_, rfl⟩
  rw [← hi3] at tu1 tu2 tu4
  rw [← hj3] at td1 td2 td4
  have hstrict3 : i3 ≤ j3 → i3 < j3 := fun hle => by
    rcases Nat.lt_or_eq_of_le hle with h1 | h1
    · exact h1
    · have a1 := tu4 (by omega)
      have a2 := td4 hle (by omega)
      rw [← h1] at a2
      rw [a1] at a2; cases a2
  rw [Sort.partLoop_eq, ← hi3, ← hj3] at hg
  refine ⟨fun i h' => h73 = h' ∧ i = (i3 : Int), ⟨fun i j h' m => ∃ t : Nat, i = t ∧ j = r ∧ q ≤ t ∧ t ≤ r + 1 ∧ m = r + 1 - t ∧ h73 = h' ∧ i3 = Sort.scanUp (fun x => Sort.ltInt x g[a]!) g r t, ⟨_, q, rfl, rfl, Nat.le_refl _, hqr, rfl, rfl, hi3⟩, ?_⟩, ?_⟩
  · rintro _ _ _ _ ⟨t, rfl, rfl, htq, htr, rfl, rfl, ht⟩
    rw [Sort.scanUp] at ht
    refine Br.dec (fun hle => ?_) fun hle => ⟨rfl, ?_⟩
    · have hle' : t ≤ r := by omega
      refine u73.read (k := t) rfl (by omega) fun b o hc => ⟨_, hc, u73.read (k := a) rfl (by omega) fun b o hc => ⟨_, hc, c150 (Br.mk (fun hf => ?_) fun ht2 => ⟨rfl, ?_⟩)⟩⟩
      · rw [if_pos (by simp [hle', hf])] at ht
        exact ⟨r + 1 - (t + 1), by omega, t + 1, i64 (by omega) (by omega), rfl, by omega, by omega, rfl, rfl, ht⟩
      · rw [if_neg (by simp [ht2])] at ht
        rw [ht]
    · have hle' : ¬ t ≤ r := by omega
      rw [if_neg (by simp [hle'])] at ht
      rw [ht]
  rintro _ _ ⟨rfl, rfl⟩
  refine ⟨fun j h' => h73 = h' ∧ j = (j3 : Int), down u73 hgs (by omega) (tu2 hqr) hrb ⟨rfl, by rw [hj3]⟩, ?_⟩
  rintro _ _ ⟨rfl, rfl⟩
  refine Br.dec (fun hgt => ?_) fun hle => ?_
  · rw [if_pos (by omega)] at hg
    subst hg
    exact u73.swap (p := a) (q := j3) rfl rfl (by omega) (by omega) fun h122 hs122 u122 x122 => k h122 u122 (x73.trans x122)
  · rw [if_neg (by omega)] at hg
    have hst3 := hstrict3 (by omega)
    exact u73.swap (p := j3) (q := i3) rfl rfl (by omega) (by omega) fun h134 hs134 u134 x134 => ⟨(j3 - 1) + 1 - (i3 + 1), by omega, i3 + 1, j3 - 1, _, i64 (by omega) (by omega), i64 (by omega) (by omega), by omega, by omega, by omega, rfl, u134, by rw [swp_size]; exact hgs, hg, x73.trans x134⟩

end Go.V.Yteojmnnobmpdiaa
