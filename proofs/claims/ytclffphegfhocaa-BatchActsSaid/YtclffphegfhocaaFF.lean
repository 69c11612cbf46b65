/- This text proves a part of the laws of seat Ytclffphegfhocaa, under no condition: B4f. -/
import Derived.Test.YtclffphegfhocaaED
import Derived.Test.YtclffphegfhocaaFA
import Derived.Sort.LotA
import Derived.Sort.LotB
import Derived.Sort.LotC
import Derived.Sort.LotD1
import Derived.Sort.LotD2
import Derived.Sort.LotD3
set_option linter.unusedVariables false
set_option linter.unusedSimpArgs false
/-! slices.Sort of numbers: words; insertion sort; heap sort. -/
namespace Go.V.Ytclffphegfhocaa
open Go Go.V

def uF (n : Int) : List Lf := [.int .u32 n]
theorem uF_sized : Sized 1 uF := fun _ => rfl

/-- The row that is sorted, as an array. -/
structure US (h : Heap) (s : Slc) (d : Array Int) : Prop where
  own : Own 1 uF h s d.toList
  sz : d.size ≤ 4398046511104

/-- The row's block. -/
def inS (s : Slc) (b : Nat) : Prop := ∃ o, s.a = some (b, o)

theorem US.len {h : Heap} {s : Slc} {d : Array Int} (u : US h s d) : s.len = d.size := by have := u.own.len; simpa using this
theorem US.read {h : Heap} {s : Slc} {d : Array Int} (u : US h s d) {i : Int} {k : Nat} (hi : i = (k : Int)) (hk : k < d.size) {K : Nat → Nat → Prop} (c : ∀ b o, cellsAt h b o [.int .u32 d[k]!] → K b o) : IxC s i 1 K :=
  (u.own.arr uF_sized).ix hi (x := d[k]!) (by simp [hk, getElem!_pos]) c
theorem US.write {h : Heap} {s : Slc} {d : Array Int} (u : US h s d) {i : Int} {k : Nat} (hi : i = (k : Int)) (hk : k < d.size) {v : Int} {K : Heap → Prop}
    (c : ∀ h', h'.size = h.size → US h' s (d.setIfInBounds k v) → Ext (inS s) h h' → K h') : IxC s i 1 fun b o => StC h b o [.int .u32 v] K :=
  IxC.set uF_sized u.own hi (by simpa using hk) (x := v) rfl fun h' hs o e => c h' hs ⟨by simpa using o, by simpa using u.sz⟩ e
/-- data[q], data[p] = data[p], data[q]. -/
theorem US.swap {h : Heap} {s : Slc} {d : Array Int} (u : US h s d) {i j : Int} {p q : Nat} (hi : i = (p : Int)) (hj : j = (q : Int)) (hp : p < d.size) (hq : q < d.size) {K : Heap → Prop}
    (c : ∀ h', h'.size = h.size → US h' s (Sort.swp d q p) → Ext (inS s) h h' → K h') :
    IxC s i 1 fun b o => ∃ v, cellsAt h b o [.int .u32 v] ∧ IxC s j 1 fun b o => ∃ w, cellsAt h b o [.int .u32 w] ∧ IxC s j 1 fun b o => StC h b o [.int .u32 v] fun h1 => IxC s i 1 fun b o => StC h1 b o [.int .u32 w] K :=
  u.read hi hp fun b o hc => ⟨_, hc, u.read hj hq fun b o hc => ⟨_, hc, u.write hj hq fun h1 hs1 u1 e1 => u1.write hi (by simpa using hp) fun h2 hs2 u2 e2 => c h2 (by omega) u2 (e1.trans e2)⟩⟩

theorem swp_size (d : Array Int) (i j : Nat) : (Sort.swp d i j).size = d.size := by simp [Sort.swp]

/-- cmp.Less. -/
theorem c80 {x y : Int} {h : Heap} {R : Bool → Heap → Prop} (k : R (Sort.ltInt x y) h) : Call Go.Proofs.Try.prog 80 [.lf (.int .u32 x), .lf (.int .u32 y)] h [.one .bool] R := by
  have nan : ∀ {z : Int} {R : Bool → Heap → Prop}, R false h → Call Go.Proofs.Try.prog 90 [.lf (.int .u32 z)] h [.one .bool] R := fun {z R} k => ok90 (by
    unfold vc90
    have : (z != z) = false := by simp
    rw [this]; exact k)
  exact ok80 (nan (Br.f rfl k))

theorem i64 {n : Int} {k : Nat} (h : n = (k : Int)) (hk : k ≤ 9223372036854775807) : IntKind.wrap .i64 n = (k : Int) := by subst h; exact wi64 (by omega) (by omega)

/-- insertionSort. -/
theorem c74 {h : Heap} {s : Slc} {d : Array Int} (u : US h s d) {a b : Nat} (hb : b ≤ d.size) (ha : a ≤ b) {R : Heap → Prop} (k : ∀ h', US h' s (Sort.insertionSort Sort.ltInt d a b) → Ext (inS s) h h' → R h') :
    Call Go.Proofs.Try.prog 74 [.lf (.slc s), .lf (.int .i64 a), .lf (.int .i64 b)] h [] R := by
  have hsz := u.sz
  unfold Sort.insertionSort at k
  refine ok74 ⟨fun i h' m => ∃ (q : Nat) (e : Array Int), i = q ∧ a + 1 ≤ q ∧ q ≤ b + 1 ∧ m = b + 1 - q ∧ US h' s e ∧ e.size = d.size ∧ Sort.insOuter Sort.ltInt a b q e = Sort.insOuter Sort.ltInt a b (a + 1) d ∧ Ext (inS s) h h',
    ⟨_, a + 1, d, i64 (by omega) (by omega), Nat.le_refl _, by omega, rfl, u, rfl, rfl, Ext.refl _ _⟩, ?_⟩
  rintro _ h3 _ ⟨q, e, rfl, hq1, hq2, rfl, u3, hes, hd, x3⟩
  refine Br.dec (fun hi => ?_) fun hi => ?_
  · have hqb : q < b := by omega
    have next : ∀ {h8 : Heap}, US h8 s (Sort.insInner Sort.ltInt a q e) → (Sort.insInner Sort.ltInt a q e).size = d.size → Ext (inS s) h h8 → ∃ b19, b19 < b + 1 - q ∧ ∃ (q' : Nat) (e : Array Int), IntKind.wrap .i64 ((q : Int) + 1) = (q' : Int) ∧ a + 1 ≤ q' ∧ q' ≤ b + 1 ∧ b19 = b + 1 - q' ∧ US h8 s e ∧ e.size = d.size ∧ Sort.insOuter Sort.ltInt a b q' e = Sort.insOuter Sort.ltInt a b (a + 1) d ∧ Ext (inS s) h h8 := fun u8 hs8 x8 =>
      ⟨b + 1 - (q + 1), by omega, q + 1, _, i64 (by omega) (by omega), by omega, by omega, rfl, u8, hs8, by rw [← hd]; conv => rhs; rw [Sort.insOuter, if_pos hqb], x8⟩
    refine ⟨fun j h' m => ∃ (p : Nat) (g : Array Int), j = p ∧ p ≤ q ∧ p = m ∧ US h' s g ∧ g.size = d.size ∧ Sort.insInner Sort.ltInt a p g = Sort.insInner Sort.ltInt a q e ∧ Ext (inS s) h h', ⟨_, q, e, rfl, Nat.le_refl _, rfl, u3, hes, rfl, x3⟩, ?_⟩
    rintro _ h8 _ ⟨p, g, rfl, hpq, rfl, u8, hgs, hg, x8⟩
    refine ⟨fun h' => h8 = h' ∧ ∃ r, p = r + 1 ∧ a ≤ r ∧ Sort.ltInt g[r + 1]! g[r]! = true, Br.dec (fun hj => ?_) fun hj => ?_, ?_⟩
    · obtain ⟨r, rfl⟩ : ∃ r, p = r + 1 := ⟨p - 1, by omega⟩
      refine u8.read (k := r + 1) rfl (by omega) fun b o hc => ⟨_, hc, u8.read (k := r) (i64 (by omega) (by omega)) (by omega) fun b o hc => ⟨_, hc, c80 (Br.mk (fun ht => ⟨rfl, r, rfl, by omega, ht⟩) fun hf => ?_)⟩⟩
      have hX : Sort.insInner Sort.ltInt a (r + 1) g = g := by rw [Sort.insInner, hf]; simp
      rw [hX] at hg
      exact next (hg ▸ u8) (by rw [← hg]; exact hgs) x8
    · have hX : Sort.insInner Sort.ltInt a p g = g := by
        cases p with
        | zero => rfl
        | succ r =>
          have : ¬ (r + 1 > a) := by omega
          rw [Sort.insInner]; simp [this]
      rw [hX] at hg
      exact next (hg ▸ u8) (by rw [← hg]; exact hgs) x8
    · rintro _ ⟨rfl, r, rfl, har, hlt⟩
      refine u8.swap (p := r) (q := r + 1) (i64 (by omega) (by omega)) rfl (by omega) (by omega) fun h33 hs33 u33 x33 => ⟨r, by omega, r, _, i64 (by omega) (by omega), by omega, rfl, u33, by rw [swp_size]; exact hgs, ?_, x8.trans x33⟩
      rw [← hg]
      conv => rhs; rw [Sort.insInner]
      have : (r + 1 > a) := by omega
      simp [this, hlt]
  · have hqb : ¬ q < b := by omega
    rw [Sort.insOuter, if_neg hqb] at hd
    rw [hd] at u3
    exact k h3 u3 x3

/-- siftDown. -/
theorem c85 {h : Heap} {s : Slc} {d : Array Int} (u : US h s d) {lo hi first : Nat} (hb : first + hi ≤ d.size) (hlo : lo ≤ d.size) {R : Heap → Prop} (k : ∀ h', US h' s (Sort.siftDown Sort.ltInt hi first lo d) → Ext (inS s) h h' → R h') :
    Call Go.Proofs.Try.prog 85 [.lf (.slc s), .lf (.int .i64 lo), .lf (.int .i64 hi), .lf (.int .i64 first)] h [] R := by
  have hsz := u.sz
  refine ok85 ⟨fun i h' m => ∃ (q : Nat) (e : Array Int), i = q ∧ q ≤ d.size ∧ m = hi - q ∧ US h' s e ∧ e.size = d.size ∧ Sort.siftDown Sort.ltInt hi first q e = Sort.siftDown Sort.ltInt hi first lo d ∧ Ext (inS s) h h',
    ⟨_, lo, d, rfl, hlo, rfl, u, rfl, rfl, Ext.refl _ _⟩, ?_⟩
  rintro _ h3 _ ⟨q, e, rfl, hq, rfl, u3, hes, hd, x3⟩
  have w1 : IntKind.wrap .i64 (2 * (q : Int)) = ((2 * q : Nat) : Int) := i64 (by omega) (by omega)
  have w2 : IntKind.wrap .i64 (((2 * q : Nat) : Int) + 1) = ((2 * q + 1 : Nat) : Int) := i64 (by omega) (by omega)
  have w3 : IntKind.wrap .i64 (((2 * q + 1 : Nat) : Int) + 1) = ((2 * q + 2 : Nat) : Int) := i64 (by omega) (by omega)
  have w4 : IntKind.wrap .i64 ((first : Int) + ((2 * q + 1 : Nat) : Int)) = ((first + (2 * q + 1) : Nat) : Int) := i64 (by omega) (by omega)
  have w5 : IntKind.wrap .i64 (((first + (2 * q + 1) : Nat) : Int) + 1) = ((first + (2 * q + 1) + 1 : Nat) : Int) := i64 (by omega) (by omega)
  have w6 : IntKind.wrap .i64 ((first : Int) + (q : Int)) = ((first + q : Nat) : Int) := i64 (by omega) (by omega)
  simp only [w1, w2, w3, w4, w5, w6]
  rw [Sort.siftDown] at hd
  refine Br.dec (fun hge => ?_) fun hlt => ?_
  · have : 2 * q + 1 ≥ hi := by omega
    rw [dif_pos this] at hd
    exact k h3 (hd ▸ u3) x3
  · have hn : ¬ 2 * q + 1 ≥ hi := by omega
    rw [dif_neg hn] at hd
    refine ⟨fun c h' => h3 = h' ∧ ∃ ch : Nat, c = (ch : Int) ∧ ch < hi ∧ q < ch ∧ (if !Sort.ltInt e[first + q]! e[first + ch]! then e else Sort.siftDown Sort.ltInt hi first ch (Sort.swp e (first + q) (first + ch))) = Sort.siftDown Sort.ltInt hi first lo d,
      ⟨fun c h' => h3 = h' ∧ c = (decide (2 * q + 1 + 1 < hi) && Sort.ltInt e[first + (2 * q + 1)]! e[first + (2 * q + 1) + 1]!), Br.dec (fun h2 => ?_) fun h2 => ⟨rfl, ?_⟩, ?_⟩, ?_⟩
    · refine u3.read (k := first + (2 * q + 1)) rfl (by omega) fun b o hc => ⟨_, hc, u3.read (k := first + (2 * q + 1) + 1) rfl (by omega) fun b o hc => ⟨_, hc, c80 ⟨rfl, ?_⟩⟩⟩
      have : 2 * q + 1 + 1 < hi := by omega
      simp [this]
    · have : ¬ 2 * q + 1 + 1 < hi := by omega
      simp [this]
    · rintro _ _ ⟨rfl, rfl⟩
      refine Br.mk (fun ht => ⟨rfl, 2 * q + 2, rfl, ?_, by omega, ?_⟩) fun hf => ⟨rfl, 2 * q + 1, rfl, by omega, by omega, ?_⟩
      · simp only [Bool.and_eq_true, decide_eq_true_eq] at ht; omega
      · rw [if_pos ht] at hd
        have : 2 * q + 2 < hi := by simp only [Bool.and_eq_true, decide_eq_true_eq] at ht; omega
        rw [dif_pos this] at hd
        exact hd
      · rw [if_neg (by simp [hf])] at hd
        exact hd
    · rintro _ _ ⟨rfl, ch, rfl, hch, hqc, hfin⟩
      have w7 : IntKind.wrap .i64 ((first : Int) + (ch : Int)) = ((first + ch : Nat) : Int) := i64 (by omega) (by omega)
      simp only [w7]
      refine u3.read (k := first + q) rfl (by omega) fun b o hc => ⟨_, hc, u3.read (k := first + ch) rfl (by omega) fun b o hc => ⟨_, hc, c80 (Br.not (fun hf => ?_) fun ht => ?_)⟩⟩
      · rw [hf] at hfin
        simp only [Bool.not_false, if_true] at hfin
        exact k h3 (hfin ▸ u3) x3
      · rw [ht] at hfin
        simp only [Bool.not_true, Bool.false_eq_true, if_false] at hfin
        refine u3.swap (p := first + ch) (q := first + q) rfl rfl (by omega) (by omega) fun h38 hs38 u38 x38 => ⟨hi - ch, by omega, ch, _, rfl, by omega, rfl, u38, by rw [swp_size]; exact hes, hfin, x3.trans x38⟩

/-- heapSort. -/
theorem c75 {h : Heap} {s : Slc} {d : Array Int} (u : US h s d) {a b : Nat} (hb : b ≤ d.size) (ha : a ≤ b) {R : Heap → Prop} (k : ∀ h', US h' s (Sort.heapSort Sort.ltInt d a b) → Ext (inS s) h h' → R h') :
    Call Go.Proofs.Try.prog 75 [.lf (.slc s), .lf (.int .i64 a), .lf (.int .i64 b)] h [] R := by
  have hsz := u.sz
  have wba : IntKind.wrap .i64 ((b : Int) - (a : Int)) = ((b - a : Nat) : Int) := i64 (by omega) (by omega)
  have sift_size : ∀ (hi first root : Nat) (d : Array Int), (Sort.siftDown Sort.ltInt hi first root d).size = d.size := fun hi first root d => by
    have key : ∀ (n root : Nat) (d : Array Int), hi - root ≤ n → (Sort.siftDown Sort.ltInt hi first root d).size = d.size := by
      intro n
      induction n with
      | zero => intro root d hn; rw [Sort.siftDown, dif_pos (by omega)]
      | succ n ih =>
        intro root d hn
        rw [Sort.siftDown]
        split
        · rfl
        · split
          · split
            · rfl
            · split
              · rw [ih _ _ (by omega), swp_size]
              · rfl
          · split
            · rfl
            · rw [ih _ _ (by omega), swp_size]
    exact key _ root d (Nat.le_refl _)
  unfold Sort.heapSort at k
  refine ok75 ⟨by decide, ?_⟩
  simp only [wba]
  have hstart : IntKind.wrap .i64 (Int.tdiv (IntKind.wrap .i64 (((b - a : Nat) : Int) - 1)) 2) = (((b - a - 1) / 2 + 1 : Nat) : Int) - 1 := by
    rw [wi64 (n := ((b - a : Nat) : Int) - 1) (by omega) (by omega)]
    by_cases h0 : b - a = 0
    · rw [h0]; decide
    · rw [Int.tdiv_eq_ediv_of_nonneg (by omega), wi64 (by omega) (by omega)]; omega
  rw [hstart]
  refine ⟨fun i h' m => ∃ (q : Nat) (e : Array Int), i = (q : Int) - 1 ∧ q ≤ (b - a - 1) / 2 + 1 ∧ q = m ∧ US h' s e ∧ e.size = d.size ∧ Sort.heapBuild Sort.ltInt (b - a) a q e = Sort.heapBuild Sort.ltInt (b - a) a ((b - a - 1) / 2 + 1) d ∧ Ext (inS s) h h',
    ⟨_, _, d, rfl, Nat.le_refl _, rfl, u, rfl, rfl, Ext.refl _ _⟩, ?_⟩
  rintro _ h3 _ ⟨q, e, rfl, hq, rfl, u3, hes, hd, x3⟩
  refine Br.dec (fun hi => ?_) fun hi => ?_
  · obtain ⟨r, rfl⟩ : ∃ r, q = r + 1 := ⟨q - 1, by omega⟩
    have hr : ((r + 1 : Nat) : Int) - 1 = (r : Int) := by omega
    rw [hr]
    refine c85 u3 (by omega) (by omega) fun h5 u5 x5 => ⟨r, by omega, r, _, ?_, by omega, rfl, u5, by rw [sift_size]; exact hes, hd, x3.trans x5⟩
    rw [wi64 (by omega) (by omega)]
  · have hq0 : q = 0 := by omega
    subst hq0
    have hb0 : Sort.heapBuild Sort.ltInt (b - a) a 0 e = e := rfl
    rw [hb0] at hd
    rw [← hd] at k
    have hw1 : IntKind.wrap .i64 (((b - a : Nat) : Int) - 1) = ((b - a : Nat) : Int) - 1 := wi64 (by omega) (by omega)
    rw [hw1]
    refine ⟨fun i h' m => ∃ (q : Nat) (g : Array Int), i = (q : Int) - 1 ∧ q ≤ b - a ∧ q = m ∧ US h' s g ∧ g.size = d.size ∧ Sort.heapPop Sort.ltInt a q g = Sort.heapPop Sort.ltInt a (b - a) e ∧ Ext (inS s) h h',
      ⟨_, _, e, rfl, Nat.le_refl _, rfl, u3, hes, rfl, x3⟩, ?_⟩
    rintro _ h10 _ ⟨q, g, rfl, hq, rfl, u10, hgs, hg, x10⟩
    refine Br.dec (fun hi2 => ?_) fun hi2 => ?_
    · obtain ⟨r, rfl⟩ : ∃ r, q = r + 1 := ⟨q - 1, by omega⟩
      have hr : ((r + 1 : Nat) : Int) - 1 = (r : Int) := by omega
      rw [hr]
      have w6 : IntKind.wrap .i64 ((a : Int) + (r : Int)) = ((a + r : Nat) : Int) := i64 (by omega) (by omega)
      simp only [w6]
      refine u10.swap (p := a + r) (q := a) rfl rfl (by omega) (by omega) fun h23 hs23 u23 x23 => ?_
      refine c85 u23 (lo := 0) (by rw [swp_size]; omega) (by omega) fun h24 u24 x24 => ⟨r, by omega, r, _, ?_, by omega, rfl, u24, by rw [sift_size, swp_size]; exact hgs, hg, (x10.trans x23).trans x24⟩
      rw [wi64 (by omega) (by omega)]
    · have hq0 : q = 0 := by omega
      subst hq0
      have hb0 : Sort.heapPop Sort.ltInt a 0 g = g := rfl
      rw [hb0] at hg
      exact k h10 (hg ▸ u10) x10

end Go.V.Ytclffphegfhocaa
