/- This text proves a part of the laws of seat Ytclffphegfhocaa, under no condition: B4n. -/
import Derived.Test.YtclffphegfhocaaFM
import Derived.Test.YtclffphegfhocaaFK
import Derived.Test.YtclffphegfhocaaEL
set_option linter.unusedVariables false
set_option linter.unusedSimpArgs false
/-! The families of records, rising. -/
namespace Go.V.Ytclffphegfhocaa
open Go Go.V

theorem rise_sortI (l : List Int) : Rise (sortI l) := by
  have tr : ∀ a b c : Int, decide (a ≤ b) = true → decide (b ≤ c) = true → decide (a ≤ c) = true := by simp; omega
  have tot : ∀ a b : Int, (decide (a ≤ b) || decide (b ≤ a)) = true := by simp; omega
  exact (List.pairwise_mergeSort tr tot l).imp fun {x y} h => by simpa using h
theorem mem_sortI {l : List Int} {x : Int} : x ∈ sortI l ↔ x ∈ l := (List.mergeSort_perm l _).mem_iff
theorem len_sortI (l : List Int) : (sortI l).length = l.length := (List.mergeSort_perm l _).length_eq

theorem c51 {h : Heap} {g : Nat} {F : Nat → Prop} {x : Bt} (B : Bat h g F x) (ok : x.Ok) {R : Slc → Heap → Prop}
    (k : ∀ s h' t, Own 1 uF h' s t → Asc t → (∀ y, y ∈ t ↔ y ∈ x.recs.map Rec.fam) → Fresh h h' s → R s h') :
    Call Go.Proofs.Try.prog 51 [.lf (.ptr (some (g, 0)))] h [.one .slc] R := by
  obtain ⟨sl, sm, C⟩ := B
  have hlen := C.recs.len
  have hl := ok.len
  refine ok51 (NilC.mk rfl ⟨sl, C.blk.cell rfl, ⟨fun s i hh d => ∃ q : Nat, i = q ∧ q ≤ x.recs.length ∧ Own 1 uF hh s ((x.recs.take q).map Rec.fam) ∧ Fresh h hh s ∧ d = x.recs.length - q, ⟨_, 0, rfl, by omega, Own.nil 1 uF h, Fresh.nil 0, rfl⟩, ?_⟩⟩)
  rintro s5 _ h7 _ ⟨q, rfl, hq, o, f, rfl⟩
  rw [hlen]
  refine Br.dec (fun c => ?_) fun c => ?_
  · have hql : q < x.recs.length := by omega
    refine ((C.recs.arr lfs_sized).ext0 f.ext).ix rfl (List.getElem?_eq_getElem hql) fun b9 b10 hb => ⟨_, _, _, _, hb, New.mk fun b15 h16 hb15 hs16 e16 _ => Set.mk fun h17 hs17 e17 _ => New.mk fun b18 h19 hb18 hs19 e19 k19 => ?_⟩
    have e719 : Ext0 h7 h19 := (Ext.tmp e16 e17 (by omega)).trans e19
    have ox : Own 1 uF h19 ⟨some (b18, 0), 1, 1⟩ [x.recs[q].fam] := Own.new (l := [x.recs[q].fam]) uF_sized k19
    have o19 := o.ext0 e719
    refine AppC.grow uF_sized (by omega) rfl o19 (ox.arr uF_sized) (by simp; omega) fun s20 h21 o21 g21 => ⟨g21.keep (by omega) fun off z => by have := (o.lt _ _ z).1; omega, x.recs.length - (q + 1), by omega, q + 1, by rw [wi64 (by omega) (by omega)]; omega, by omega, ?_, (f.ext0 e719).grow g21, rfl⟩
    rw [take_succ' hql, List.map_append]
    exact o21
  · obtain rfl : q = x.recs.length := by omega
    rw [List.take_length] at o
    refine c66 o (by simp; omega) fun h23 o23 e23 => ?_
    have f23 : Fresh h h23 s5 := ⟨f.ext.trans' e23 fun i hi ⟨off, z⟩ => by have := f.new _ _ z; omega, f.new⟩
    refine c67 o23 (rise_sortI _) (by rw [len_sortI]; simp; omega) fun s24 h25 t o25 ha hm hin e25 => k s24 h25 t o25 ha (fun y => by rw [hm, mem_sortI]) ⟨f23.ext.trans' e25 fun i hi ⟨off, z⟩ => by have := f.new _ _ z; omega, fun b off z => ?_⟩
    obtain ⟨off', z'⟩ := hin b off z
    exact f.new _ _ z'

theorem ins_asc {t : List Int} {k : Nat} {f : Int} (ht : Asc t) (h1 : ∀ y ∈ t.take k, y < f) (h2 : ∀ y ∈ t.drop k, f < y) : Asc (t.take k ++ [f] ++ t.drop k) := by
  unfold Asc
  rw [List.pairwise_append]
  refine ⟨asc_snoc (ht.sublist (List.take_sublist k t)) h1, ht.sublist (List.drop_sublist k t), fun a ha b hb => ?_⟩
  rcases List.mem_append.1 ha with ha | ha
  · have := h1 a ha; have := h2 b hb; omega
  · rw [List.mem_singleton] at ha; subst ha; exact h2 b hb
theorem ins_mem {t : List Int} {k : Nat} {f : Int} {y : Int} : y ∈ t.take k ++ [f] ++ t.drop k ↔ y ∈ t ∨ y = f := by
  have h : y ∈ t ↔ y ∈ t.take k ∨ y ∈ t.drop k := by
    rw [← List.mem_append, List.take_append_drop]
  rw [h]
  simp only [List.mem_append, List.mem_singleton]
  constructor
  · rintro ((z | z) | z)
    · exact .inl (.inl z)
    · exact .inr z
    · exact .inl (.inr z)
  · rintro ((z | z) | z)
    · exact .inl (.inl z)
    · exact .inr z
    · exact .inl (.inr z)
theorem drop_gt {t : List Int} {k : Nat} {f : Int} (ht : Asc t) (hk : ∀ h : k < t.length, f < t[k]) : ∀ y ∈ t.drop k, f < y := by
  intro y hy
  obtain ⟨i, hi, rfl⟩ := List.mem_iff_getElem.1 hy
  rw [List.length_drop] at hi
  rw [List.getElem_drop]
  have h0 := hk (by omega)
  rcases Nat.eq_zero_or_pos i with e | e
  · subst e; exact h0
  · have := List.pairwise_iff_getElem.1 ht k (k + i) (by omega) (by omega) (by omega)
    omega

theorem c52 {h : Heap} {s : Slc} {l : List Rec} (a : Arr 4 Rec.lfs h s l) (hl : l.length ≤ 4096) {R : Slc → Heap → Prop}
    (k : ∀ s' h' t, Own 1 uF h' s' t → Asc t → (∀ y, y ∈ t ↔ y ∈ l.map Rec.fam) → Fresh h h' s' → t.length ≤ 4096 → R s' h') :
    Call Go.Proofs.Try.prog 52 [.lf (.slc s)] h [.one .slc] R := by
  have hlen := a.len
  refine ok52 (New.mk fun b0 h1 hb0 hs1 e1 k1 => ?_)
  refine ⟨fun s i hh d => ∃ (q : Nat) (t : List Int), i = q ∧ q ≤ l.length ∧ Own 1 uF hh s t ∧ Asc t ∧ (∀ y, y ∈ t ↔ y ∈ (l.take q).map Rec.fam) ∧ t.length ≤ q ∧ Fresh h hh s ∧ d = l.length - q,
    ⟨_, 0, [], rfl, by omega, Own.new (l := ([] : List Int)) uF_sized k1, List.Pairwise.nil, by simp, by simp, ⟨e1, fun b off z => by cases z; omega⟩, rfl⟩, ?_⟩
  rintro s4 _ h6 _ ⟨q, t, rfl, hq, o, ha, hm, hqt, f, rfl⟩
  rw [hlen]
  refine Br.dec (fun c => ?_) fun c => ?_
  · have hql : q < l.length := by omega
    have hx := List.getElem?_eq_getElem hql
    have a6 := a.ext0 f.ext
    have htl := o.len
    have hlec := o.lec
    have hmt : ∀ y, y ∈ (l.take (q + 1)).map Rec.fam ↔ y ∈ t ∨ y = l[q].fam := by
      intro y
      rw [take_succ' hql, List.map_append, List.mem_append, hm]
      simp
    refine ⟨fun i hh => ∃ kk : Nat, i = kk ∧ kk ≤ t.length ∧ h6 = hh ∧ (∀ y ∈ t.take kk, y < l[q].fam) ∧ ∀ hk : kk < t.length, l[q].fam ≤ t[kk], ⟨fun i hh d => ∃ kk : Nat, i = kk ∧ kk ≤ t.length ∧ h6 = hh ∧ (∀ y ∈ t.take kk, y < l[q].fam) ∧ d = t.length - kk, ⟨_, 0, rfl, by omega, rfl, by simp, rfl⟩, ?_⟩, ?_⟩
    · rintro _ _ _ ⟨kk, rfl, hk, rfl, hlo, rfl⟩
      rw [htl]
      refine Br.dec (fun c2 => ?_) fun c2 => ⟨kk, rfl, hk, rfl, hlo, fun z => by omega⟩
      have hkl : kk < t.length := by omega
      refine (o.arr uF_sized).ix rfl (List.getElem?_eq_getElem hkl) fun b14 b15 hb14 => ⟨_, hb14, a6.ix rfl hx fun b17 b18 hb17 => ⟨_, ⟨hb17.1, trivial⟩, Br.dec (fun c3 => ?_) fun c3 => ⟨kk, rfl, hk, rfl, hlo, fun _ => by omega⟩⟩⟩
      refine ⟨t.length - (kk + 1), by omega, kk + 1, by rw [wi64 (by omega) (by omega)]; omega, by omega, rfl, fun y hy => ?_, rfl⟩
      rw [List.take_succ_eq_append_getElem hkl] at hy
      rcases List.mem_append.1 hy with hy | hy
      · exact hlo y hy
      · rw [List.mem_singleton] at hy; subst hy; exact c3
    · rintro _ _ ⟨kk, rfl, hk, rfl, hlo, hhi⟩
      rw [htl]
      refine ⟨fun hh => h6 = hh ∧ ∀ hk : kk < t.length, l[q].fam < t[kk], Br.dec (fun c2 => ?_) fun c2 => ⟨rfl, fun z => by omega⟩, ?_⟩
      · have hkl : kk < t.length := by omega
        refine (o.arr uF_sized).ix rfl (List.getElem?_eq_getElem hkl) fun b24 b25 hb24 => ⟨_, hb24, a6.ix rfl hx fun b27 b28 hb27 => ⟨_, ⟨hb27.1, trivial⟩, Br.eq (fun c3 => ?_) fun c3 => ⟨rfl, fun z => by have := hhi hkl; have c3 : t[kk] ≠ l[q].fam := c3; omega⟩⟩⟩
        refine ⟨l.length - (q + 1), by omega, q + 1, t, by rw [wi64 (by omega) (by omega)]; omega, by omega, o, ha, fun y => ?_, by omega, f, rfl⟩
        rw [hmt]
        constructor
        · exact .inl
        · rintro (z | z)
          · exact z
          · rw [z, ← c3]; exact List.getElem_mem _
      · rintro _ ⟨rfl, hgt⟩
        have hd := drop_gt ha hgt
        have hfin : ∀ {sx : Slc} {hh : Heap}, Own 1 uF hh sx (t.take kk ++ [l[q].fam]) → Fresh h hh sx → Own 1 uF hh s4 t → 
            AppC 29 [Lf.int .u32 0] 1 4 sx (Slc.sub s4 1 (kk : Int).toNat t.length s4.cap) hh fun s43 h44 => ∃ b45, b45 < l.length - q ∧ ∃ (q' : Nat) (t' : List Int), IntKind.wrap .i64 ((q : Int) + 1) = q' ∧ q' ≤ l.length ∧ Own 1 uF h44 s43 t' ∧ Asc t' ∧ (∀ y, y ∈ t' ↔ y ∈ (l.take q').map Rec.fam) ∧ t'.length ≤ q' ∧ Fresh h h44 s43 ∧ b45 = l.length - q' := by
          intro sx hh ox fx ot
          have asx := (ot.arr uF_sized).sub (lo := kk) (hi := t.length) (m := s4.cap) hk (Nat.le_refl _) (by omega)
          rw [List.take_length] at asx
          refine AppC.grow uF_sized (by omega) rfl ox asx (by simp; omega) fun s43 h44 o44 g44 => ⟨l.length - (q + 1), by omega, q + 1, _, by rw [wi64 (by omega) (by omega)]; omega, by omega, o44, ins_asc ha hlo hd, fun y => by rw [ins_mem, hmt], by simp; omega, fx.grow g44, rfl⟩
        have asub : ∀ {hh : Heap}, Own 1 uF hh s4 t → Arr 1 uF hh (Slc.sub s4 1 0 (kk : Int).toNat s4.cap) (t.take kk) := fun ot => (ot.take uF_sized hk).arr uF_sized
        have tl : (t.take kk).length = kk := by simp; omega
        refine ⟨by omega, by omega, a6.ix rfl hx fun b32 b33 hb32 => ⟨_, ⟨hb32.1, trivial⟩, ⟨New.mk fun b35 h36 hb35 hs36 e36 k36 => ⟨cellsAt.ext e36 id ⟨hb32.1, trivial⟩, ?_, ?_⟩, New.mk fun b55 h56 hb55 hs56 e56 k56 => New.mk fun b57 h58 hb57 hs58 e58 k58 => ?_⟩⟩⟩
        · have f36 : Fresh h h36 ⟨some (b35, 0), 0, 0⟩ := ⟨f.ext.trans e36, fun b' off z => by cases z; have := f.ext.size; omega⟩
          refine AppC.grow uF_sized (by omega) rfl (Own.new (l := ([] : List Int)) uF_sized k36) (asub (o.ext0 e36)) (by simp; omega) fun s37 h38 o38 g38 => ?_
          have e38 : Ext0 h6 h38 := e36.trans' g38.ext fun i hi ⟨off, z⟩ => by cases z; omega
          refine ⟨cellsAt.ext e38 id ⟨hb32.1, trivial⟩, New.mk fun b39 h40 hb39 hs40 e40 k40 => ?_⟩
          have o40 : Own 1 uF h40 ⟨some (b39, 0), 1, 1⟩ [l[q].fam] := Own.new (l := [l[q].fam]) uF_sized k40
          have o38' : Own 1 uF h38 s37 (t.take kk) := o38
          refine AppC.grow uF_sized (by omega) rfl (o38'.ext0 e40) (o40.arr uF_sized) (by rw [tl]; simp; omega) fun s41 h42 o42 g42 => ⟨by omega, by omega, hfin o42 (((f36.grow g38).ext0 e40).grow g42) ?_⟩
          have f37 : Fresh h6 h38 s37 := ⟨e38, fun b off z => by
            rcases g38.new with w | ⟨b', w, hw⟩
            · rw [w] at z; cases z; omega
            · rw [w] at z; cases z; omega⟩
          exact o.ext0 (((f37.ext0 e40).grow g42).ext)
        · have f36 : Fresh h h36 ⟨some (b35, 0), 0, 0⟩ := ⟨f.ext.trans e36, fun b' off z => by cases z; have := f.ext.size; omega⟩
          refine New.mk fun b46 h47 hb46 hs47 e47 k47 => ?_
          have o47 : Own 1 uF h47 ⟨some (b46, 0), 1, 1⟩ [l[q].fam] := Own.new (l := [l[q].fam]) uF_sized k47
          have F6 : Fresh h6 h47 ⟨some (b35, 0), 0, 0⟩ := ⟨e36.trans e47, fun b' off z => by cases z; omega⟩
          refine AppC.grow uF_sized (by omega) rfl ((Own.new (l := ([] : List Int)) uF_sized k36).ext0 e47) (asub (o.ext0 F6.ext)) (by simp; omega) fun s48 h49 o49 g49 => ?_
          have o49' : Own 1 uF h49 s48 (t.take kk) := o49
          have o47' := o47.ext g49.ext fun ⟨b, off, z, off', w⟩ => by cases z; cases w; omega
          refine AppC.grow uF_sized (by omega) rfl o49' (o47'.arr uF_sized) (by rw [tl]; simp; omega) fun s50 h51 o51 g51 => ⟨by omega, by omega, hfin o51 (((f36.ext0 e47).grow g49).grow g51) (o.ext0 ((F6.grow g49).grow g51).ext)⟩
        · have o56 : Own 1 uF h56 ⟨some (b55, 0), 1, 1⟩ [l[q].fam] := Own.new (l := [l[q].fam]) uF_sized k56
          have F6 : Fresh h6 h58 ⟨some (b57, 0), 0, 0⟩ := ⟨e56.trans e58, fun b' off z => by cases z; omega⟩
          have FH : Fresh h h58 ⟨some (b57, 0), 0, 0⟩ := ⟨f.ext.trans F6.ext, fun b' off z => by cases z; have := f.ext.size; omega⟩
          refine AppC.grow uF_sized (by omega) rfl (Own.new (l := ([] : List Int)) uF_sized k58) (asub (o.ext0 F6.ext)) (by simp; omega) fun s59 h60 o60 g60 => ?_
          have o60' : Own 1 uF h60 s59 (t.take kk) := o60
          have o56' := (o56.ext0 e58).ext g60.ext fun ⟨b, off, z, off', w⟩ => by cases z; cases w; omega
          refine AppC.grow uF_sized (by omega) rfl o60' (o56'.arr uF_sized) (by rw [tl]; simp; omega) fun s61 h62 o62 g62 => ⟨by omega, by omega, hfin o62 ((FH.grow g60).grow g62) (o.ext0 ((F6.grow g60).grow g62).ext)⟩
  · obtain rfl : q = l.length := by omega
    rw [List.take_length] at hm
    exact k s4 h6 t o ha hm f (by omega)

end Go.V.Ytclffphegfhocaa
