/- This text proves a part of the laws of seat Ytclffphegfhocaa, under no condition: B4j. -/
import Derived.Test.YtclffphegfhocaaFI
import Derived.Test.YtclffphegfhocaaFC
set_option linter.unusedVariables false
set_option linter.unusedSimpArgs false
/-! slices.Sort of numbers. -/
namespace Go.V.Ytclffphegfhocaa
open Go Go.V

theorem swo : Sort.SWO Sort.ltInt := Sort.swo_ltInt

/-- **pdqsort.** -/
theorem c71 : ∀ (N : Nat) {h : Heap} {s : Slc} {d : Array Int} {a b : Nat} {lim : Int}, b - a ≤ N → US h s d → a ≤ b → b ≤ d.size → Sort.Below Sort.ltInt a b d → -9223372036854775808 ≤ lim → lim ≤ 9223372036854775807 → ∀ {R : Heap → Prop},
    (∀ h' e, US h' s e → Sort.PermIn a b d e → Sort.SortedIn Sort.ltInt a b e → Ext (inS s) h h' → R h') →
    Call Go.Proofs.Try.prog 71 [.lf (.slc s), .lf (.int .i64 a), .lf (.int .i64 b), .lf (.int .i64 lim)] h [] R := by
  intro N
  induction N using Nat.strongRecOn with
  | ind N ih =>
  intro h s d a b lim hN u hab hb hB hl0 hl1 R k
  have hsz := u.sz
  have wr0 : ∀ n : Int, -9223372036854775808 ≤ IntKind.wrap .i64 n ∧ IntKind.wrap .i64 n ≤ 9223372036854775807 := fun n => by
    rw [IntKind.wrap_i64]; omega
  refine ok71 ⟨fun q r l _ _ h' m => ∃ (a' b' : Nat) (e : Array Int), q = a' ∧ r = b' ∧ a ≤ a' ∧ a' ≤ b' ∧ b' ≤ b ∧ m = b' - a' ∧ -9223372036854775808 ≤ l ∧ l ≤ 9223372036854775807 ∧ US h' s e ∧ e.size = d.size ∧ Sort.Below Sort.ltInt a' b' e ∧
      (∀ f, Sort.PermIn a' b' e f → Sort.SortedIn Sort.ltInt a' b' f → Sort.PermIn a b d f ∧ Sort.SortedIn Sort.ltInt a b f) ∧ Ext (inS s) h h',
    ⟨_, a, b, d, rfl, rfl, Nat.le_refl _, hab, Nat.le_refl _, rfl, hl0, hl1, u, rfl, hB, fun f h1 h2 => ⟨h1, h2⟩, Ext.refl _ _⟩, ?_⟩
  rintro _ _ l wb wp h7 _ ⟨q, r, e, rfl, rfl, haq, hqr, hrb, rfl, hll0, hll1, u7, hes, hB7, glue, x7⟩
  have wrq : IntKind.wrap .i64 ((r : Int) - (q : Int)) = ((r - q : Nat) : Int) := i64 (by omega) (by omega)
  simp only [wrq]
  have fin : ∀ {h' : Heap} {f : Array Int}, US h' s f → Sort.PermIn q r e f → Sort.SortedIn Sort.ltInt q r f → Ext (inS s) h h' → R h' := fun uf hp hso xf => k _ _ uf (glue _ hp hso).1 (glue _ hp hso).2 xf
  refine Br.dec (fun h12 => ?_) fun h12 => Br.eq (fun hl => ?_) fun hl => ?_
  · have sp := Sort.insertionSort_holds (lt := Sort.ltInt) swo e q r hqr (by omega)
    exact c74 u7 (by omega) hqr fun h9 u9 x9 => fin u9 sp.1 sp.2 (x7.trans x9)
  · have sp := Sort.heapSort_holds (lt := Sort.ltInt) swo e q r hqr (by omega)
    exact c75 u7 (by omega) hqr fun h9 u9 x9 => fin u9 sp.1 sp.2 (x7.trans x9)
  have hlen : q + 12 < r := by omega
  refine ⟨fun l' h' => -9223372036854775808 ≤ l' ∧ l' ≤ 9223372036854775807 ∧ ∃ e1, US h' s e1 ∧ Sort.PermIn q r e e1 ∧ Ext (inS s) h h', Br.not (fun _ => c76 u7 (by omega) hlen fun h' e1 u1 p1 x1 => ⟨(wr0 _).1, (wr0 _).2, e1, u1, p1, x7.trans x1⟩) fun _ => ⟨hll0, hll1, e, u7, Sort.permIn_refl e q r, x7⟩, ?_⟩
  rintro l' h14 ⟨hl'0, hl'1, e1, u14, p14, x14⟩
  have h1s : e1.size = d.size := p14.1.trans hes
  refine c77 u14 (by omega) hlen fun pv t h17 hp1 hp2 x17 => ?_
  have u17 := u14.ext0 x17
  have x17' := x14.then0 x17
  refine ⟨fun i t' h' => ∃ (pv : Nat) (e2 : Array Int), i = pv ∧ q ≤ pv ∧ pv < r ∧ US h' s e2 ∧ Sort.PermIn q r e e2 ∧ Ext (inS s) h h', Br.eq (fun _ => c78 u17 (by omega) (by omega) fun h19 u19 x19 => ?_) fun _ => ⟨pv, e1, rfl, hp1, hp2, u17, p14, x17'⟩, ?_⟩
  · have w1 : IntKind.wrap .i64 ((r : Int) - 1) = ((r - 1 : Nat) : Int) := i64 (by omega) (by omega)
    have w2 : IntKind.wrap .i64 ((pv : Int) - (q : Int)) = ((pv - q : Nat) : Int) := i64 (by omega) (by omega)
    rw [w1, w2]
    exact ⟨(r - 1) - (pv - q), _, i64 (by omega) (by omega), by omega, by omega, u19, Sort.permIn_trans _ _ _ q r p14 (Sort.reverseRange_holds e1 q r hqr (by omega)), x17'.trans x19⟩
  rintro _ t' h22 ⟨pv, e2, rfl, hp1, hp2, u22, p22, x22⟩
  have h2s : e2.size = d.size := p22.1.trans hes
  have B22 : Sort.Below Sort.ltInt q r e2 := hB7.perm (by omega) p22
  refine ⟨fun h' => ∃ e3, US h' s e3 ∧ Sort.PermIn q r e e3 ∧ Ext (inS s) h h', ⟨fun _ h' => h22 = h', Br.mk (fun _ => Br.mk (fun _ => rfl) fun _ => rfl) fun _ => rfl, ?_⟩, ?_⟩
  · rintro cc _ rfl
    refine Br.mk (fun _ => c79 u22 (by omega) (by omega) fun h28 u28 x28 => ?_) fun _ => ⟨e2, u22, p22, x22⟩
    have sp := Sort.partialInsertionSort_holds (lt := Sort.ltInt) swo e2 q r (by omega) (by omega) B22
    exact Br.mk (fun ht => fin u28 (Sort.permIn_trans _ _ _ q r p22 sp.1) (sp.2 ht) (x22.trans x28)) fun _ => ⟨_, u28, Sort.permIn_trans _ _ _ q r p22 sp.1, x22.trans x28⟩
  rintro h29 ⟨e3, u29, p29, x29⟩
  have h3s : e3.size = d.size := p29.1.trans hes
  have B29 : Sort.Below Sort.ltInt q r e3 := hB7.perm (by omega) p29
  refine ⟨fun cc h' => h29 = h' ∧ (cc = true → 0 < q ∧ Sort.ltInt e3[q - 1]! e3[pv]! = false), Br.dec (fun hq => ?_) fun hq => ⟨rfl, fun h => by cases h⟩, ?_⟩
  · refine u29.read (k := q - 1) (i64 (by omega) (by omega)) (by omega) fun bb oo hc => ⟨_, hc, u29.read (k := pv) rfl (by omega) fun bb oo hc => ⟨_, hc, c80 ⟨rfl, fun h => ⟨by omega, by simpa using h⟩⟩⟩⟩
  rintro cc _ ⟨rfl, hcc⟩
  refine Br.mk (fun ht => ?_) fun _ => ?_
  · obtain ⟨hq0, hnl⟩ := hcc ht
    obtain ⟨m1, m2, ms, mB, mg⟩ := Sort.round_eq swo (Sort.partitionEqual_holds _) (mid := (Sort.partitionEqual Sort.ltInt e3 q r pv).1) (d4 := (Sort.partitionEqual Sort.ltInt e3 q r pv).2) hq0 hp1 hp2 (by omega) B29 hnl rfl
    exact c81 u29 (by omega) hp1 hp2 fun h42 u42 x42 => ⟨r - (Sort.partitionEqual Sort.ltInt e3 q r pv).1, by omega, _, r, _, rfl, rfl, by omega, m2, hrb, rfl, hl'0, hl'1, u42, by omega, mB, fun f hf hs => glue f (Sort.permIn_trans _ _ _ q r p29 (mg f hf hs).1) (mg f hf hs).2, x29.trans x42⟩
  · refine c82 u29 (by omega) hp1 hp2 fun h46 u46 x46 => ⟨by decide, ?_⟩
    obtain ⟨m1, m2, ms, mBl, mBr, mgl, mgr⟩ := Sort.round_part swo (Sort.partition_holds _) (mid := (Sort.partition Sort.ltInt e3 q r pv).1) (ap := (Sort.partition Sort.ltInt e3 q r pv).2.1) (d4 := (Sort.partition Sort.ltInt e3 q r pv).2.2) hp1 hp2 (by omega) B29 rfl
    generalize (Sort.partition Sort.ltInt e3 q r pv).1 = mid at *
    generalize (Sort.partition Sort.ltInt e3 q r pv).2.1 = ap at *
    generalize (Sort.partition Sort.ltInt e3 q r pv).2.2 = e4 at *
    have w3 : IntKind.wrap .i64 ((mid : Int) - (q : Int)) = ((mid - q : Nat) : Int) := i64 (by omega) (by omega)
    have w4 : IntKind.wrap .i64 ((r : Int) - (mid : Int)) = ((r - mid : Nat) : Int) := i64 (by omega) (by omega)
    have w5 : IntKind.wrap .i64 ((mid : Int) + 1) = ((mid + 1 : Nat) : Int) := i64 (by omega) (by omega)
    simp only [w3, w4, w5]
    refine Br.dec (fun _ => ?_) fun _ => ?_
    · refine ih (mid - q) (by omega) (Nat.le_refl _) u46 m1 (by omega) mBl hl'0 hl'1 fun h47 L u47 pL sL x47 => ?_
      obtain ⟨LB, Lg⟩ := mgl L pL sL
      exact ⟨r - (mid + 1), by omega, mid + 1, r, L, rfl, rfl, by omega, by omega, hrb, rfl, hl'0, hl'1, u47, by have := pL.1; omega, LB, fun f hf hs => glue f (Sort.permIn_trans _ _ _ q r p29 (Lg f hf hs).1) (Lg f hf hs).2, (x29.trans x46).trans x47⟩
    · refine ih (r - (mid + 1)) (by omega) (Nat.le_refl _) u46 (by omega) (by omega) mBr hl'0 hl'1 fun h47 L u47 pL sL x47 => ?_
      obtain ⟨LB, Lg⟩ := mgr L pL sL
      exact ⟨mid - q, by omega, q, mid, L, rfl, rfl, by omega, by omega, by omega, rfl, hl'0, hl'1, u47, by have := pL.1; omega, LB, fun f hf hs => glue f (Sort.permIn_trans _ _ _ q r p29 (Lg f hf hs).1) (Lg f hf hs).2, (x29.trans x46).trans x47⟩

/-- Numbers, rising. -/
def sortI (l : List Int) : List Int := l.mergeSort fun x y => decide (x ≤ y)

/-- slices.Sort: the one rising list. -/
theorem c66 {h : Heap} {s : Slc} {l : List Int} (o : Own 1 uF h s l) (hl : l.length ≤ 4398046511104) {R : Heap → Prop} (k : ∀ h', Own 1 uF h' s (sortI l) → Ext (inS s) h h' → R h') :
    Call Go.Proofs.Try.prog 66 [.lf (.slc s)] h [] R := by
  have u : US h s l.toArray := ⟨by simpa using o, by simpa using hl⟩
  have hlen : s.len = l.length := o.len
  refine ok66 ?_
  unfold vc66
  rw [wu64 (by omega) (by omega), hlen]
  refine c72 (by omega) fun L hL _ => c71 _ (Nat.le_refl _) u (a := 0) (b := l.length) (Nat.zero_le _) (by simp) (.inl rfl) (by omega) (by omega) fun h' e ue pe se xe => k h' ?_ xe
  have hs : e.toList = l.toArray.toList.mergeSort (fun x y => !Sort.ltInt y x) := Sort.sorted_unique_holds (lt := Sort.ltInt) swo (fun x y h1 h2 => by
    simp only [Sort.ltInt, decide_eq_false_iff_not] at h1 h2; omega) l.toArray e (by simpa using pe) (by simpa using se)
  have := ue.own
  rw [hs] at this
  have hf : (fun x y => !Sort.ltInt y x) = fun x y : Int => decide (x ≤ y) := by
    funext x y
    unfold Sort.ltInt
    by_cases hh : x ≤ y
    · have : ¬ y < x := by omega
      simp [hh, this]
    · have : y < x := by omega
      simp [hh, this]
  rw [hf] at this
  exact this

end Go.V.Ytclffphegfhocaa
