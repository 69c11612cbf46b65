/- This text proves a part of the laws of seat Ytclffphegfhocaa, under no condition: B4p. -/
import Derived.Test.YtclffphegfhocaaFO
set_option linter.unusedVariables false
set_option linter.unusedSimpArgs false
/-! The document's batch: marks; both answer alike. -/
namespace Go.V.Ytclffphegfhocaa
open Go Go.V

def docP (back : Bool) (l : List Rec) (m : List Int) : Int × List Rec × List Int := match m.getLast? with
  | none => (6, l, m)
  | some n => (0, if back then l.take n.toNat else l, m.dropLast)

section
variable {h : Heap} {g : Nat} {F : Nat → Prop} {l : List Rec} {m : List Int}

theorem c49 (D : Doc h g F l m) (hm : m.length ≤ 2199023255552) {R : Heap → Prop}
    (k : ∀ h' F', Doc h' g F' l (m ++ [(l.length : Int)]) → Ext (fun i => i = g) h h' → Sub F F' h → R h') :
    Call Go.Proofs.Try.prog 49 [.lf (.ptr (some (g, 0)))] h [] R := by
  obtain ⟨sl, sm, C⟩ := D
  have hg := C.blk.lt
  have hrl := C.recs.len
  have fin : ∀ {s : Slc} {h' : Heap}, Own 1 iF h' s (m ++ [(l.length : Int)]) → Fresh h h' s → NilC (some (g, 0)) fun b o => StC h' b (o + 1) [.slc s] fun h2 => R h2 := by
    intro s h' o f
    have C' := C.ext f.ext fun _ _ z => z
    refine NilC.mk rfl (StC.one C'.blk (by simp) fun h2 hs2 k2 e2 => k h2 (fun b => F b ∨ ∃ off, s.a = some (b, off)) ⟨sl, s, k2, C'.recs.ext e2 fun ⟨b, off, hb, z⟩ => (C.hl b off hb).2 z, o.ext e2 fun ⟨b, off, hb, z⟩ => ?_, .inl C.gin, ?_, fun b off hb => ⟨.inl (C.hl b off hb).1, (C.hl b off hb).2⟩, fun b off hb => ⟨.inr ⟨off, hb⟩, ?_⟩⟩ (f.ext.of0.trans e2) ?_)
    · have := f.new b off hb; have z : b = g := z; omega
    · rintro b (hb | ⟨off, hb⟩)
      · have := C'.lt b hb; omega
      · have := (o.lt b off hb).1; omega
    · have := f.new b off hb; omega
    · rintro b (hb | ⟨off, hb⟩)
      · exact .inl hb
      · exact .inr (f.new b off hb)
  have keep : ∀ {h' : Heap} {off : Nat} {y : Lf}, Ext0 h h' → cellsAt h g off [y] → cellsAt h' g off [y] := fun e z => cellsAt.ext e id z
  have c0 : cellsAt h g 0 [.slc sl] := C.blk.cell rfl
  have c1 : cellsAt h g 1 [.slc sm] := C.blk.cell rfl
  refine ok49 (NilC.mk rfl ⟨sm, c1, NilC.mk rfl ⟨sl, c0, ⟨New.mk fun b6 h7 hb6 hs7 e7 k7 => ⟨keep e7 c0, keep e7 c1, ?_, ?_⟩, New.mk fun b26 h27 hb26 hs27 e27 k27 => ⟨keep e27 c1, New.mk fun b28 h29 hb28 hs29 e29 k29 => ⟨keep (e27.trans e29) c1, ?_⟩⟩⟩⟩⟩)
  · have f7 : Fresh h h7 ⟨some (b6, 0), 0, 0⟩ := ⟨e7, fun b off z => by cases z; omega⟩
    refine AppC.grow iF_sized (by omega) rfl (Own.new (l := ([] : List Int)) iF_sized k7) ((C.marks.ext0 e7).arr iF_sized) (by simp; omega) fun s8 h9 o9 g9 => ?_
    have f9 := f7.grow g9
    refine ⟨keep f9.ext c0, New.mk fun b10 h11 hb10 hs11 e11 k11 => ?_⟩
    rw [hrl] at k11
    have ox : Own 1 iF h11 ⟨some (b10, 0), 1, 1⟩ [(l.length : Int)] := Own.new (l := [(l.length : Int)]) iF_sized k11
    have o9 : Own 1 iF h9 s8 m := o9
    exact AppC.grow iF_sized (by omega) rfl (o9.ext0 e11) (ox.arr iF_sized) (by simp only [List.length_singleton]; omega) fun s12 h13 o13 g13 => fin o13 ((f9.ext0 e11).grow g13)
  · have f7 : Fresh h h7 ⟨some (b6, 0), 0, 0⟩ := ⟨e7, fun b off z => by cases z; omega⟩
    refine New.mk fun b17 h18 hb17 hs18 e18 k18 => ⟨keep (e7.trans e18) c1, ?_⟩
    rw [hrl] at k18
    have ox : Own 1 iF h18 ⟨some (b17, 0), 1, 1⟩ [(l.length : Int)] := Own.new (l := [(l.length : Int)]) iF_sized k18
    refine AppC.grow iF_sized (by omega) rfl ((Own.new (l := ([] : List Int)) iF_sized k7).ext0 e18) ((C.marks.ext0 (e7.trans e18)).arr iF_sized) (by simp; omega) fun s19 h20 o20 g20 => ?_
    have o20 : Own 1 iF h20 s19 m := o20
    have ox' := ox.ext g20.ext fun ⟨b, off, z, off', w⟩ => by cases z; cases w; omega
    exact AppC.grow iF_sized (by omega) rfl o20 (ox'.arr iF_sized) (by simp only [List.length_singleton]; omega) fun s21 h22 o22 g22 => fin o22 (((f7.ext0 e18).grow g20).grow g22)
  · rw [hrl] at k27
    have ox : Own 1 iF h27 ⟨some (b26, 0), 1, 1⟩ [(l.length : Int)] := Own.new (l := [(l.length : Int)]) iF_sized k27
    have f29 : Fresh h h29 ⟨some (b28, 0), 0, 0⟩ := ⟨e27.trans e29, fun b off z => by cases z; omega⟩
    refine AppC.grow iF_sized (by omega) rfl (Own.new (l := ([] : List Int)) iF_sized k29) ((C.marks.ext0 f29.ext).arr iF_sized) (by simp; omega) fun s30 h31 o31 g31 => ?_
    have o31 : Own 1 iF h31 s30 m := o31
    have ox' := (ox.ext0 e29).ext g31.ext fun ⟨b, off, z, off', w⟩ => by cases z; cases w; omega
    exact AppC.grow iF_sized (by omega) rfl o31 (ox'.arr iF_sized) (by simp only [List.length_singleton]; omega) fun s32 h33 o33 g33 => fin o33 ((f29.grow g31).grow g33)

theorem sub0_a {sz n c : Nat} {s : Slc} {b off : Nat} (z : (s.sub sz 0 n c).a = some (b, off)) : ∃ off', s.a = some (b, off') := by
  unfold Slc.sub at z
  cases hsa : s.a with
  | none => rw [hsa] at z; simp at z
  | some p => exact ⟨off, by rw [hsa] at z; simpa using z⟩

theorem c50 (D : Doc h g F l m) (hm : m.length ≤ 2199023255552) (hok : ∀ n ∈ m, 0 ≤ n ∧ n ≤ (l.length : Int)) {back : Bool} {R : Int → Heap → Prop}
    (k : ∀ h', Doc h' g F (docP back l m).2.1 (docP back l m).2.2 → Ext (fun i => i = g) h h' → R (docP back l m).1 h') :
    Call Go.Proofs.Try.prog 50 [.lf (.ptr (some (g, 0))), .lf (.bool back)] h [.one (.int .i64)] R := by
  obtain ⟨sl, sm, C⟩ := D
  have hml := C.marks.len
  have hmc := C.marks.lec
  have hrl := C.recs.len
  have hrc := C.recs.lec
  refine ok50 (NilC.mk rfl ⟨sm, C.blk.cell rfl, ?_⟩)
  rw [wi64 (by omega) (by omega), hml]
  refine Br.dec (fun c => ?_) fun c => ?_
  · have hn : m = [] := List.length_eq_zero_iff.1 (by omega)
    subst hn
    exact k h ⟨sl, sm, C⟩ (Ext.refl _ _)
  have hne : m ≠ [] := fun z => by rw [z] at c; simp at c
  have hpos : 0 < m.length := by omega
  have hlast : m[m.length - 1]? = some (m.getLast hne) := by
    rw [← List.getLast?_eq_getElem?, List.getLast?_eq_some_getLast hne]
  have hd : docP back l m = (0, if back then l.take (m.getLast hne).toNat else l, m.dropLast) := by
    unfold docP; rw [List.getLast?_eq_some_getLast hne]
  rw [hd] at k
  simp only at k
  obtain ⟨hn0, hn1⟩ := hok _ (List.getLast_mem hne)
  generalize hN : m.getLast hne = N at *
  obtain ⟨n, rfl⟩ := Int.eq_ofNat_of_zero_le hn0
  have em : ((m.length : Int) - 1) = ((m.length - 1 : Nat) : Int) := by omega
  rw [em]
  rw [List.dropLast_eq_take] at k
  refine Br.mk (fun hb => ?_) fun hb => ?_
  · subst hb
    refine NilC.mk rfl ⟨sl, C.blk.cell rfl, NilC.mk rfl ⟨sm, C.blk.cell rfl, (C.marks.arr iF_sized).ix (k := m.length - 1) rfl hlast fun b9 b10 hb9 => ⟨_, hb9, by omega, by omega, NilC.mk rfl (StC.one C.blk (by simp) fun h14 hs14 k14 e14 => NilC.mk rfl ⟨sm, k14.cell rfl, by omega, by omega, NilC.mk rfl (StC.one k14 (by simp) fun h20 hs20 k20 e20 => ?_)⟩)⟩⟩⟩
    refine k h20 ⟨_, _, k20, ?_, ?_, C.gin, fun b hb => by have := C.lt b hb; omega, fun b off z => ?_, fun b off z => ?_⟩ (e14.trans e20)
    · exact ((C.recs.ext e14 fun ⟨b, off, hb, z⟩ => (C.hl b off hb).2 z).ext e20 fun ⟨b, off, hb, z⟩ => (C.hl b off hb).2 z).take lfs_sized (by omega)
    · exact ((C.marks.ext e14 fun ⟨b, off, hb, z⟩ => (C.hm b off hb).2 z).ext e20 fun ⟨b, off, hb, z⟩ => (C.hm b off hb).2 z).take iF_sized (by omega)
    · obtain ⟨off', z'⟩ := sub0_a z; exact C.hl b off' z'
    · obtain ⟨off', z'⟩ := sub0_a z; exact C.hm b off' z'
  · subst hb
    refine NilC.mk rfl ⟨sm, C.blk.cell rfl, by omega, by omega, NilC.mk rfl (StC.one C.blk (by simp) fun h20 hs20 k20 e20 => ?_)⟩
    refine k h20 ⟨_, _, k20, ?_, ?_, C.gin, fun b hb => by have := C.lt b hb; omega, C.hl, fun b off z => ?_⟩ e20
    · exact C.recs.ext e20 fun ⟨b, off, hb, z⟩ => (C.hl b off hb).2 z
    · exact (C.marks.ext e20 fun ⟨b, off, hb, z⟩ => (C.hm b off hb).2 z).take iF_sized (by omega)
    · obtain ⟨off', z'⟩ := sub0_a z; exact C.hm b off' z'
end

/-! ### Both answer alike -/

theorem doc_all {x : Bt} (ok : x.Ok) (l2 : List Rec) : (docA x.recs l2).1 = (allB x l2).1 ∧ (docA x.recs l2).2 = (allB x l2).2.recs ∧ (allB x l2).2.marks = x.marks := by
  unfold docA allB
  rw [ok.m12]
  split
  · exact ⟨rfl, rfl, rfl⟩
  split
  · exact ⟨rfl, rfl, rfl⟩
  · exact ⟨rfl, rfl, rfl⟩

theorem doc_back (x : Bt) : (docP true x.recs x.marks).1 = (backB x).1 ∧ (docP true x.recs x.marks).2.1 = (backB x).2.recs ∧ (docP true x.recs x.marks).2.2 = (backB x).2.marks := by
  unfold docP backB
  cases x.marks.getLast? with
  | none => exact ⟨rfl, rfl, rfl⟩
  | some n => exact ⟨rfl, rfl, rfl⟩

theorem doc_pop (x : Bt) : (docP false x.recs x.marks).1 = (popB x).1 ∧ (docP false x.recs x.marks).2.1 = (popB x).2.recs ∧ (docP false x.recs x.marks).2.2 = (popB x).2.marks := by
  unfold docP popB
  by_cases hn : x.marks = []
  · rw [hn]; exact ⟨rfl, rfl, hn.symm⟩
  · rw [List.getLast?_eq_some_getLast hn, if_neg (by simpa using hn)]
    exact ⟨rfl, rfl, List.dropLast_eq_take ..⟩

theorem all_del {x : Bt} {r : Rec} (h0 : r.kind = 0) : allB x [⟨r.fam, 0, r.key, empty⟩] = allB x [r] := by
  obtain ⟨fam, kind, key, val⟩ := r
  have h0 : kind = 0 := h0
  subst h0
  rfl

theorem Bt.Ok.good {x : Bt} (ok : x.Ok) : Good x.recs := ok.recs

theorem popB_ok {x : Bt} (ok : x.Ok) : (popB x).2.Ok := by
  unfold popB
  split
  · exact ok
  · exact ⟨ok.len, ok.recs, ok.size, fun n hn => ok.marks n (List.mem_of_mem_take hn), ok.sorted.sublist (List.take_sublist _ _)⟩

theorem saveB_ok {x : Bt} (ok : x.Ok) : (Bt.mk x.recs x.size (x.marks ++ [(x.recs.length : Int)])).Ok := by
  refine ⟨ok.len, ok.recs, ok.size, fun n hn => ?_, ?_⟩
  · rcases List.mem_append.1 hn with hn | hn
    · exact ok.marks n hn
    · rw [List.mem_singleton] at hn; subst hn; exact ⟨by omega, Int.le_refl _⟩
  · show List.Pairwise _ (x.marks ++ [(x.recs.length : Int)])
    rw [List.pairwise_append]
    exact ⟨ok.sorted, by simp, fun a ha b hb => by rw [List.mem_singleton] at hb; subst hb; exact (ok.marks a ha).2⟩

theorem back_len (x : Bt) : (backB x).2.marks.length ≤ x.marks.length := by
  unfold backB
  cases x.marks.getLast? with
  | none => exact Nat.le_refl _
  | some n => show x.marks.dropLast.length ≤ _; simp
theorem pop_len (x : Bt) : (popB x).2.marks.length ≤ x.marks.length := by
  unfold popB
  split
  · exact Nat.le_refl _
  · show (x.marks.take _).length ≤ _; simp

end Go.V.Ytclffphegfhocaa
