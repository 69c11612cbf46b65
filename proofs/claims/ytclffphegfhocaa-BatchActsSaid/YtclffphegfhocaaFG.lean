/- This text proves a part of the laws of seat Ytclffphegfhocaa, under no condition: B4g. -/
import Derived.Test.YtclffphegfhocaaFF
import Derived.Test.YtclffphegfhocaaFC
import Derived.Test.YtclffphegfhocaaFE
set_option linter.unusedVariables false
set_option linter.unusedSimpArgs false
/-! slices.Sort of numbers: the partitions. -/
namespace Go.V.Ytclffphegfhocaa
open Go Go.V

theorem sdn_zero (p : Int → Bool) (d : Array Int) (i : Nat) (h : 1 ≤ i) (j : Nat) (hij : ¬ i ≤ j) : Sort.scanDown p d i j = j := by
  cases j with
  | zero => rfl
  | succ j => rw [Sort.scanDown]; simp [hij]

/-- partitionEqual. -/
theorem c81 {h : Heap} {s : Slc} {d : Array Int} (u : US h s d) {a b pivot : Nat} (hb : b ≤ d.size) (ha : a ≤ pivot) (hp : pivot < b) {R : Int → Heap → Prop}
    (k : ∀ h', US h' s (Sort.partitionEqual Sort.ltInt d a b pivot).2 → Ext (inS s) h h' → R ((Sort.partitionEqual Sort.ltInt d a b pivot).1 : Nat) h') :
    Call Go.Proofs.Try.prog 81 [.lf (.slc s), .lf (.int .i64 a), .lf (.int .i64 b), .lf (.int .i64 pivot)] h [.one (.int .i64)] R := by
  have hsz := u.sz
  unfold Sort.partitionEqual at k
  refine ok81 (u.swap (p := pivot) (q := a) rfl rfl (by omega) (by omega) fun h11 hs11 u11 x11 => ?_)
  refine ⟨fun i j h' m => ∃ (q r : Nat) (e : Array Int), i = q ∧ j = r ∧ a < q ∧ q ≤ r + 1 ∧ r < b ∧ m = r + 1 - q ∧ US h' s e ∧ e.size = d.size ∧ Sort.partEqLoop Sort.ltInt a q r e = Sort.partEqLoop Sort.ltInt a (a + 1) (b - 1) (Sort.swp d a pivot) ∧ Ext (inS s) h h',
    ⟨_, a + 1, b - 1, _, i64 (by omega) (by omega), i64 (by omega) (by omega), by omega, by omega, by omega, rfl, u11, by rw [swp_size], rfl, x11⟩, ?_⟩
  rintro _ _ h16 _ ⟨q, r, e, rfl, rfl, hq, hqr, hrb, rfl, u16, hes, hd, x16⟩
  obtain ⟨su1, su2, _, su4⟩ := Sort.scanUp_spec (fun x => !Sort.ltInt e[a]! x) e r _ q rfl
  obtain ⟨i2, hi2⟩ : ∃ i2, i2 = Sort.scanUp (fun x => !Sort.ltInt e[a]! x) e r q := ⟨_, rfl⟩
  obtain ⟨sd1, sd2, _, sd4⟩ := Sort.scanDown_spec (fun x => Sort.ltInt e[a]! x) e i2 r
  obtain ⟨j2, hj2⟩ : ∃ j2, j2 = Sort.scanDown (fun x => Sort.ltInt e[a]! x) e i2 r := ⟨_, rfl⟩
  rw [← hi2] at su1 su2 su4
  rw [← hj2] at sd1 sd2 sd4
  have hstrict : i2 ≤ j2 → i2 < j2 := fun hle => by
    rcases Nat.lt_or_eq_of_le hle with h1 | h1
    · exact h1
    · have a1 := su4 (by omega)
      have a2 := sd4 hle (by omega)
      rw [← h1] at a2
      rw [a2] at a1; cases a1
  rw [Sort.partEqLoop_eq, ← hi2, ← hj2] at hd
  refine ⟨fun i h' => h16 = h' ∧ i = (i2 : Int), ⟨fun i j h' m => ∃ t : Nat, i = t ∧ j = r ∧ q ≤ t ∧ t ≤ r + 1 ∧ m = r + 1 - t ∧ h16 = h' ∧ i2 = Sort.scanUp (fun x => !Sort.ltInt e[a]! x) e r t, ⟨_, q, rfl, rfl, Nat.le_refl _, hqr, rfl, rfl, hi2⟩, ?_⟩, ?_⟩
  · rintro _ _ _ _ ⟨t, rfl, rfl, htq, htr, rfl, rfl, ht⟩
    rw [Sort.scanUp] at ht
    refine Br.dec (fun hle => ?_) fun hle => ⟨rfl, ?_⟩
    · have hle' : t ≤ r := by omega
      refine u16.read (k := a) rfl (by omega) fun b o hc => ⟨_, hc, u16.read (k := t) rfl (by omega) fun b o hc => ⟨_, hc, c80 (Br.not (fun hf => ?_) fun ht2 => ⟨rfl, ?_⟩)⟩⟩
      · rw [if_pos (by simp [hle', hf])] at ht
        exact ⟨r + 1 - (t + 1), by omega, t + 1, i64 (by omega) (by omega), rfl, by omega, by omega, rfl, rfl, ht⟩
      · rw [if_neg (by simp [ht2])] at ht
        rw [ht]
    · have hle' : ¬ t ≤ r := by omega
      rw [if_neg (by simp [hle'])] at ht
      rw [ht]
  rintro _ _ ⟨rfl, rfl⟩
  refine ⟨fun j h' => h16 = h' ∧ j = (j2 : Int), ⟨fun j h' m => ∃ t : Nat, j = t ∧ i2 ≤ t + 1 ∧ t ≤ r ∧ m = t + 1 - i2 ∧ h16 = h' ∧ j2 = Sort.scanDown (fun x => Sort.ltInt e[a]! x) e i2 t, ⟨_, r, rfl, su2 hqr, Nat.le_refl _, rfl, rfl, hj2⟩, ?_⟩, ?_⟩
  · rintro _ _ _ ⟨t, rfl, ht1, ht2, rfl, rfl, ht⟩
    refine Br.dec (fun hle => ?_) fun hle => ⟨rfl, ?_⟩
    · have hle' : i2 ≤ t := by omega
      obtain ⟨w, rfl⟩ : ∃ w, t = w + 1 := ⟨t - 1, by omega⟩
      rw [Sort.scanDown] at ht
      refine u16.read (k := a) rfl (by omega) fun b o hc => ⟨_, hc, u16.read (k := w + 1) rfl (by omega) fun b o hc => ⟨_, hc, c80 (Br.mk (fun htt => ?_) fun hf => ⟨rfl, ?_⟩)⟩⟩
      · rw [if_pos (by simp [hle', htt])] at ht
        exact ⟨w + 1 - i2, by omega, w, i64 (by omega) (by omega), by omega, by omega, rfl, rfl, ht⟩
      · rw [if_neg (by simp [hf])] at ht
        rw [ht]
    · have hle' : ¬ i2 ≤ t := by omega
      rw [sdn_zero _ _ _ (by omega) _ hle'] at ht
      rw [ht]
  rintro _ _ ⟨rfl, rfl⟩
  refine Br.dec (fun hgt => ?_) fun hle => ?_
  · rw [if_pos (by omega)] at hd
    rw [← hd] at k
    exact k h16 u16 x16
  · rw [if_neg (by omega)] at hd
    have hst := hstrict (by omega)
    refine u16.swap (p := j2) (q := i2) rfl rfl (by omega) (by omega) fun h64 hs64 u64' x64 => ⟨(j2 - 1) + 1 - (i2 + 1), by omega, i2 + 1, j2 - 1, _, i64 (by omega) (by omega), i64 (by omega) (by omega), by omega, by omega, by omega, rfl, u64', by rw [swp_size]; exact hes, hd, x16.trans x64⟩

/-- partition. -/
theorem c82 {h : Heap} {s : Slc} {d : Array Int} (u : US h s d) {a b pivot : Nat} (hb : b ≤ d.size) (ha : a ≤ pivot) (hp : pivot < b) {R : Int → Bool → Heap → Prop}
    (k : ∀ h', US h' s (Sort.partition Sort.ltInt d a b pivot).2.2 → Ext (inS s) h h' → R ((Sort.partition Sort.ltInt d a b pivot).1 : Nat) (Sort.partition Sort.ltInt d a b pivot).2.1 h') :
    Call Go.Proofs.Try.prog 82 [.lf (.slc s), .lf (.int .i64 a), .lf (.int .i64 b), .lf (.int .i64 pivot)] h [.one (.int .i64), .one .bool] R := by
  have hsz := u.sz
  unfold Sort.partition at k
  simp only at k
  refine ok82 (u.swap (p := pivot) (q := a) rfl rfl (by omega) (by omega) fun h11 hs11 u11 x11 => ?_)
  have hes : (Sort.swp d a pivot).size = d.size := swp_size ..
  generalize Sort.swp d a pivot = e at *
  have wb : IntKind.wrap .i64 ((b : Int) - 1) = ((b - 1 : Nat) : Int) := i64 (by omega) (by omega)
  simp only [wb]
  -- the two scans, from wherever
  have up : ∀ {g : Array Int} {h0 : Heap} {q r : Nat}, US h0 s g → g.size = d.size → a < q → q ≤ r + 1 → r < b → ∀ {K : Int → Heap → Prop}, K (Sort.scanUp (fun x => Sort.ltInt x g[a]!) g r q : Nat) h0 →
      ∃ (I13 : Int → Heap → Nat → Prop), (∃ (b14 : Nat), I13 q h0 b14) ∧ ∀ (i15 : Int) (h16 : Heap) (b17 : Nat), I13 i15 h16 b17 → Br (decide (i15 ≤ (r : Nat))) (IxC s i15 1 fun (b18 b19 : Nat) => ∃ (i20 : Int), cellsAt h16 b18 b19 [.int .u32 i20] ∧ IxC s a 1 fun (b21 b22 : Nat) => ∃ (i23 : Int), cellsAt h16 b21 b22 [.int .u32 i23] ∧
        Call Go.Proofs.Try.prog 80 [.lf (.int .u32 i20), .lf (.int .u32 i23)] h16 [.one .bool] fun (c24 : Bool) (h25 : Heap) => Br c24 (∃ (b26 : Nat), b26 < b17 ∧ I13 (IntKind.wrap .i64 (i15 + 1)) h25 b26) (K i15 h25)) (K i15 h16) := by
    intro g h0 q r u0 hgs hq hqr hrb K hK
    refine ⟨fun i h' m => ∃ t : Nat, i = t ∧ q ≤ t ∧ t ≤ r + 1 ∧ m = r + 1 - t ∧ h0 = h' ∧ Sort.scanUp (fun x => Sort.ltInt x g[a]!) g r q = Sort.scanUp (fun x => Sort.ltInt x g[a]!) g r t, ⟨_, q, rfl, Nat.le_refl _, hqr, rfl, rfl, rfl⟩, ?_⟩
    rintro _ _ _ ⟨t, rfl, htq, htr, rfl, rfl, ht⟩
    rw [ht] at hK
    refine Br.dec (fun hle => ?_) fun hle => ?_
    · have hle' : t ≤ r := by omega
      refine u0.read (k := t) rfl (by omega) fun b o hc => ⟨_, hc, u0.read (k := a) rfl (by omega) fun b o hc => ⟨_, hc, c80 (Br.mk (fun htt => ?_) fun hf => ?_)⟩⟩
      · refine ⟨r + 1 - (t + 1), by omega, t + 1, i64 (by omega) (by omega), by omega, by omega, rfl, rfl, ?_⟩
        rw [ht]
        conv => lhs; rw [Sort.scanUp]
        rw [if_pos (by simp [hle', htt])]
      · rw [Sort.scanUp, if_neg (by simp [hf])] at hK
        exact hK
    · have hle' : ¬ t ≤ r := by omega
      rw [Sort.scanUp, if_neg (by simp [hle'])] at hK
      exact hK
  have down : ∀ {g : Array Int} {h0 : Heap} {i2 r : Nat}, US h0 s g → g.size = d.size → a < i2 → i2 ≤ r + 1 → r < b → ∀ {K : Int → Heap → Prop}, K (Sort.scanDown (fun x => !Sort.ltInt x g[a]!) g i2 r : Nat) h0 →
      ∃ (I30 : Int → Heap → Nat → Prop), (∃ (b31 : Nat), I30 r h0 b31) ∧ ∀ (i32 : Int) (h33 : Heap) (b34 : Nat), I30 i32 h33 b34 → Br (decide ((i2 : Nat) ≤ i32)) (IxC s i32 1 fun (b35 b36 : Nat) => ∃ (i37 : Int), cellsAt h33 b35 b36 [.int .u32 i37] ∧ IxC s a 1 fun (b38 b39 : Nat) => ∃ (i40 : Int), cellsAt h33 b38 b39 [.int .u32 i40] ∧
        Call Go.Proofs.Try.prog 80 [.lf (.int .u32 i37), .lf (.int .u32 i40)] h33 [.one .bool] fun (c41 : Bool) (h42 : Heap) => Br (!c41) (∃ (b43 : Nat), b43 < b34 ∧ I30 (IntKind.wrap .i64 (i32 - 1)) h42 b43) (K i32 h42)) (K i32 h33) := by
    intro g h0 i2 r u0 hgs hq hqr hrb K hK
    refine ⟨fun i h' m => ∃ t : Nat, i = t ∧ i2 ≤ t + 1 ∧ t ≤ r ∧ m = t + 1 - i2 ∧ h0 = h' ∧ Sort.scanDown (fun x => !Sort.ltInt x g[a]!) g i2 r = Sort.scanDown (fun x => !Sort.ltInt x g[a]!) g i2 t, ⟨_, r, rfl, hqr, Nat.le_refl _, rfl, rfl, rfl⟩, ?_⟩
    rintro _ _ _ ⟨t, rfl, ht1, ht2, rfl, rfl, ht⟩
    rw [ht] at hK
    refine Br.dec (fun hle => ?_) fun hle => ?_
    · have hle' : i2 ≤ t := by omega
      obtain ⟨w, rfl⟩ : ∃ w, t = w + 1 := ⟨t - 1, by omega⟩
      rw [Sort.scanDown] at hK
      refine u0.read (k := w + 1) rfl (by omega) fun b o hc => ⟨_, hc, u0.read (k := a) rfl (by omega) fun b o hc => ⟨_, hc, c80 (Br.not (fun hf => ?_) fun htt => ?_)⟩⟩
      · refine ⟨w + 1 - i2, by omega, w, i64 (by omega) (by omega), by omega, by omega, rfl, rfl, ?_⟩
        rw [ht]
        conv => lhs; rw [Sort.scanDown]
        rw [if_pos (by simp [hle', hf])]
      · rw [if_neg (by simp [htt])] at hK
        exact hK
    · have hle' : ¬ i2 ≤ t := by omega
      rw [sdn_zero _ _ _ (by omega) _ hle'] at hK
      exact hK
  obtain ⟨su1, su2, _, su4⟩ := Sort.scanUp_spec (fun x => Sort.ltInt x e[a]!) e (b - 1) _ (a + 1) rfl
  obtain ⟨i2, hi2⟩ : ∃ i2, i2 = Sort.scanUp (fun x => Sort.ltInt x e[a]!) e (b - 1) (a + 1) := ⟨_, rfl⟩
  obtain ⟨sd1, sd2, _, sd4⟩ := Sort.scanDown_spec (fun x => !Sort.ltInt x e[a]!) e i2 (b - 1)
  obtain ⟨j2, hj2⟩ : ∃ j2, j2 = Sort.scanDown (fun x => !Sort.ltInt x e[a]!) e i2 (b - 1) := ⟨_, rfl⟩
  rw [← hi2] at su1 su2 su4
  rw [← hj2] at sd1 sd2 sd4
  have hstrict : i2 ≤ j2 → i2 < j2 := fun hle => by
    rcases Nat.lt_or_eq_of_le hle with h1 | h1
    · exact h1
    · have a1 := su4 (by omega)
      have a2 := sd4 hle (by omega)
      rw [← h1] at a2
      rw [a1] at a2; cases a2
  rw [← hi2, ← hj2] at k
  have hw1 : IntKind.wrap .i64 ((a : Int) + 1) = ((a + 1 : Nat) : Int) := i64 (by omega) (by omega)
  simp only [hw1]
  refine ⟨fun i h' => h11 = h' ∧ i = (i2 : Int), up u11 hes (by omega) (by omega) (by omega) ⟨rfl, by rw [hi2]⟩, ?_⟩
  rintro _ _ ⟨rfl, rfl⟩
  refine ⟨fun j h' => h11 = h' ∧ j = (j2 : Int), down u11 hes (by omega) (su2 (by omega)) (by omega) ⟨rfl, by rw [hj2]⟩, ?_⟩
  rintro _ _ ⟨rfl, rfl⟩
  refine Br.dec (fun hgt => ?_) fun hle => ?_
  · rw [if_pos (by omega)] at k
    exact u11.swap (p := a) (q := j2) rfl rfl (by omega) (by omega) fun h57 hs57 u57 x57 => k h57 u57 (x11.trans x57)
  rw [if_neg (by omega)] at k
  have hst := hstrict (by omega)
  refine u11.swap (p := j2) (q := i2) rfl rfl (by omega) (by omega) fun h69 hs69 u69 x69 => ?_
  have wj : IntKind.wrap .i64 ((j2 : Int) - 1) = ((j2 - 1 : Nat) : Int) := i64 (by omega) (by omega)
  have wi : IntKind.wrap .i64 ((i2 : Int) + 1) = ((i2 + 1 : Nat) : Int) := i64 (by omega) (by omega)
  simp only [wj, wi]
  obtain ⟨fin, hfin⟩ : ∃ fin, fin = Sort.partLoop Sort.ltInt a (i2 + 1) (j2 - 1) (Sort.swp e i2 j2) := ⟨_, rfl⟩
  rw [← hfin] at k
  refine ⟨fun i j h' m => ∃ (q r : Nat) (g : Array Int), i = q ∧ j = r ∧ a < q ∧ q ≤ r + 1 ∧ r < b ∧ m = r + 1 - q ∧ US h' s g ∧ g.size = d.size ∧ Sort.partLoop Sort.ltInt a q r g = fin ∧ Ext (inS s) h h',
    ⟨_, i2 + 1, j2 - 1, _, rfl, rfl, by omega, by omega, by omega, rfl, u69, by rw [swp_size]; exact hes, hfin.symm, x11.trans x69⟩, ?_⟩
  rintro _ _ h73 _ ⟨q, r, g, rfl, rfl, hq, hqr, hrb, rfl, u73, hgs, hg, x73⟩
  obtain ⟨tu1, tu2, _, tu4⟩ := Sort.scanUp_spec (fun x => Sort.ltInt x g[a]!) g r _ q rfl
  obtain ⟨i3, hi3⟩ : ∃ i3, i3 = Sort.scanUp (fun x => Sort.ltInt x g[a]!) g r q := ⟨_, rfl⟩
  obtain ⟨td1, td2, _, td4⟩ := Sort.scanDown_spec (fun x => !Sort.ltInt x g[a]!) g i3 r
  obtain ⟨j3, hj3⟩ : ∃ j3, j3 = Sort.scanDown (fun x => !Sort.ltInt x g[a]!) g i3 r := ⟨_, rfl⟩
  rw [← hi3] at tu1 tu2 tu4
  rw [← hj3] at td1 td2 td4
  have hstrict3 : i3 ≤ j3 → i3 < j3 := fun hle => by
    rcases Nat.lt_or_eq_of_le hle with h1 | h1
    · exact h1
    · have a1 := tu4 (by omega)
      have a2 := td4 hle (by omega)
      rw [← h1] at a2
      rw [a1] at a2; cases a2
  rw [Sort.partLoop_eq, ← hi3, ← hj3] at hg
  refine ⟨fun i h' => h73 = h' ∧ i = (i3 : Int), ⟨fun i j h' m => ∃ t : Nat, i = t ∧ j = r ∧ q ≤ t ∧ t ≤ r + 1 ∧ m = r + 1 - t ∧ h73 = h' ∧ i3 = Sort.scanUp (fun x => Sort.ltInt x g[a]!) g r t, ⟨_, q, rfl, rfl, Nat.le_refl _, hqr, rfl, rfl, hi3⟩, ?_⟩, ?_⟩
  · rintro _ _ _ _ ⟨t, rfl, rfl, htq, htr, rfl, rfl, ht⟩
    rw [Sort.scanUp] at ht
    refine Br.dec (fun hle => ?_) fun hle => ⟨rfl, ?_⟩
    · have hle' : t ≤ r := by omega
      refine u73.read (k := t) rfl (by omega) fun b o hc => ⟨_, hc, u73.read (k := a) rfl (by omega) fun b o hc => ⟨_, hc, c80 (Br.mk (fun hf => ?_) fun ht2 => ⟨rfl, ?_⟩)⟩⟩
      · rw [if_pos (by simp [hle', hf])] at ht
        exact ⟨r + 1 - (t + 1), by omega, t + 1, i64 (by omega) (by omega), rfl, by omega, by omega, rfl, rfl, ht⟩
      · rw [if_neg (by simp [ht2])] at ht
        rw [ht]
    · have hle' : ¬ t ≤ r := by omega
      rw [if_neg (by simp [hle'])] at ht
      rw [ht]
  rintro _ _ ⟨rfl, rfl⟩
  refine ⟨fun j h' => h73 = h' ∧ j = (j3 : Int), down u73 hgs (by omega) (tu2 hqr) hrb ⟨rfl, by rw [hj3]⟩, ?_⟩
  rintro _ _ ⟨rfl, rfl⟩
  refine Br.dec (fun hgt => ?_) fun hle => ?_
  · rw [if_pos (by omega)] at hg
    subst hg
    exact u73.swap (p := a) (q := j3) rfl rfl (by omega) (by omega) fun h122 hs122 u122 x122 => k h122 u122 (x73.trans x122)
  · rw [if_neg (by omega)] at hg
    have hst3 := hstrict3 (by omega)
    exact u73.swap (p := j3) (q := i3) rfl rfl (by omega) (by omega) fun h134 hs134 u134 x134 => ⟨(j3 - 1) + 1 - (i3 + 1), by omega, i3 + 1, j3 - 1, _, i64 (by omega) (by omega), i64 (by omega) (by omega), by omega, by omega, by omega, rfl, u134, by rw [swp_size]; exact hgs, hg, x73.trans x134⟩

end Go.V.Ytclffphegfhocaa
