/- This text proves a part of the laws of seat Ytclffphegfhocaa, under no condition: B4o. -/
import Derived.Test.YtclffphegfhocaaFN
import Derived.Test.YtclffphegfhocaaFL
set_option linter.unusedVariables false
set_option linter.unusedSimpArgs false
/-! The document's batch. -/
namespace Go.V.Ytclffphegfhocaa
open Go Go.V

theorem StC_all {h : Heap} {b : Nat} {t : TypeId} {cs cs' : List Lf} (k : Blk h b t cs) (hl : cs'.length = cs.length) {K : Heap → Prop}
    (c : ∀ h', h'.size = h.size → Blk h' b t cs' → Ext (fun i => i = b) h h' → K h') : StC h b 0 cs' K := by
  refine ⟨_, t, (0, 0), k, by simp [hl], .inl (Nat.le_refl _), ?_⟩
  rintro h' rfl
  refine c _ (by simp) ?_ (set_ext h b _)
  have : wr (cs.map Lf.val).toArray 0 (cs'.map Lf.val) = (cs'.map Lf.val).toArray := by
    rw [wr_splice _ _ _ (by simp [hl])]
    simp [hl]
  simp [Blk, this, k.lt]

/-- The document's batch in memory. -/
structure DocC (h : Heap) (g : Nat) (F : Nat → Prop) (l : List Rec) (m : List Int) (sl sm : Slc) : Prop where
  blk : Blk h g 51 [.slc sl, .slc sm]
  recs : Own 4 Rec.lfs h sl l
  marks : Own 1 iF h sm m
  gin : F g
  lt : ∀ b, F b → b < h.size
  hl : ∀ b off, sl.a = some (b, off) → F b ∧ b ≠ g
  hm : ∀ b off, sm.a = some (b, off) → F b ∧ b ≠ g
def Doc (h : Heap) (g : Nat) (F : Nat → Prop) (l : List Rec) (m : List Int) : Prop := ∃ sl sm, DocC h g F l m sl sm

theorem DocC.ext {h h' : Heap} {g : Nat} {F S : Nat → Prop} {l : List Rec} {m : List Int} {sl sm : Slc} (B : DocC h g F l m sl sm) (e : Ext S h h') (hs : ∀ b, F b → ¬ S b) : DocC h' g F l m sl sm :=
  ⟨B.blk.ext e (hs _ B.gin), B.recs.ext e fun ⟨b, off, hb, hS⟩ => hs b (B.hl b off hb).1 hS, B.marks.ext e fun ⟨b, off, hb, hS⟩ => hs b (B.hm b off hb).1 hS, B.gin, fun b hb => Nat.lt_of_lt_of_le (B.lt b hb) e.size, B.hl, B.hm⟩
theorem Doc.ext {h h' : Heap} {g : Nat} {F S : Nat → Prop} {l : List Rec} {m : List Int} (B : Doc h g F l m) (e : Ext S h h') (hs : ∀ b, F b → ¬ S b) : Doc h' g F l m := let ⟨sl, sm, C⟩ := B; ⟨sl, sm, C.ext e hs⟩
theorem Doc.ext0 {h h' : Heap} {g : Nat} {F : Nat → Prop} {l : List Rec} {m : List Int} (B : Doc h g F l m) (e : Ext0 h h') : Doc h' g F l m := B.ext e fun _ _ k => k
theorem Doc.lt {h : Heap} {g : Nat} {F : Nat → Prop} {l : List Rec} {m : List Int} (B : Doc h g F l m) : ∀ b, F b → b < h.size := let ⟨sl, sm, C⟩ := B; C.lt
theorem Doc.g {h : Heap} {g : Nat} {F : Nat → Prop} {l : List Rec} {m : List Int} (B : Doc h g F l m) : F g := let ⟨sl, sm, C⟩ := B; C.gin
theorem Doc.new {h : Heap} {b : Nat} (k : Blk h b 51 [.slc ⟨none, 0, 0⟩, .slc ⟨none, 0, 0⟩]) : Doc h b (fun x => x = b) [] [] :=
  ⟨_, _, k, Own.nil _ _ _, Own.nil _ _ _, rfl, fun x hx => hx ▸ k.lt, fun b off e => absurd e (by simp), fun b off e => absurd e (by simp)⟩

/-- What stands of a batch's records. -/
def Good (l : List Rec) : Prop := ∀ r ∈ l, r.Ok ∧ checkE r = 0 ∧ plainR r = r
theorem Good.recB {l : List Rec} (h : Good l) : ∀ r ∈ l, RecB r := by
  intro r hr
  obtain ⟨h1, h2, h3⟩ := h r hr
  obtain ⟨k1, k2⟩ := check_size h2
  refine ⟨h1, by omega, ?_⟩
  by_cases h0 : r.kind = 0
  · rw [← h3]
    unfold plainR
    rw [if_pos h0]
    show (0 : Nat) ≤ _
    omega
  · have := k2 h0; omega
theorem Good.plain {l : List Rec} (h : Good l) : l.map plainR = l := by
  conv => rhs; rw [← List.map_id l]
  exact List.map_congr_left fun r hr => (h r hr).2.2
theorem Good.bad {l : List Rec} (h : Good l) : bad l = 0 := bad_zero fun r hr => (h r hr).2.1

def docA (l l2 : List Rec) : Int × List Rec :=
  if bad l2 ≠ 0 then (bad l2, l)
  else if (l.length : Int) + l2.length > 4096 ∨ 12 + tot l + tot l2 > 4194304 then (2, l)
  else (0, l ++ l2.map plainR)

theorem plain_step {A : List Rec} {q : Nat} (hq : q < A.length) : ((A.take q).map plainR ++ A.drop q).set q (plainR A[q]) = (A.take (q + 1)).map plainR ++ A.drop (q + 1) := by
  have hl : ((A.take q).map plainR).length = q := by simp; omega
  rw [List.set_append_right _ _ (by omega), hl, Nat.sub_self, drop_cons hq, List.set_cons_zero, take_succ' hq, List.map_append]
  simp
theorem plain_at {A : List Rec} {q : Nat} (hq : q < A.length) : ((A.take q).map plainR ++ A.drop q)[q]? = some A[q] := by
  have hl : ((A.take q).map plainR).length = q := by simp; omega
  rw [List.getElem?_append_right (by omega), hl, Nat.sub_self, drop_cons hq]
  rfl

section
variable {h : Heap} {g : Nat} {F : Nat → Prop} {l : List Rec} {m : List Int}

theorem c47 (D : Doc h g F l m) (good : Good l) (hl : l.length ≤ 4096) {s : Slc} {l2 : List Rec} (a : Arr 4 Rec.lfs h s l2) (hok : ∀ r ∈ l2, RecB r) (hl2 : l2.length ≤ 4096) {R : Int → Heap → Prop}
    (k : ∀ h' F', Doc h' g F' (docA l l2).2 m → Ext (fun i => i = g) h h' → Sub F F' h → R (docA l l2).1 h') :
    Call Go.Proofs.Try.prog 47 [.lf (.ptr (some (g, 0))), .lf (.slc s)] h [.one (.int .i64)] R := by
  have hlen := a.len
  refine ok47 ⟨fun i hh d => ∃ q : Nat, i = q ∧ q ≤ l2.length ∧ bad (l2.take q) = 0 ∧ Ext0 h hh ∧ d = l2.length - q, ⟨_, 0, rfl, by omega, rfl, Ext.refl _ _, rfl⟩, ?_⟩
  rintro _ h3 _ ⟨q, rfl, hq, hbad, e3, rfl⟩
  rw [hlen]
  refine Br.dec (fun c => ?_) fun c => ?_
  · have hql : q < l2.length := by omega
    refine (a.ext0 e3).ix rfl (List.getElem?_eq_getElem hql) fun b5 b6 hb => ⟨_, _, _, _, hb, c20 (hok _ (List.getElem_mem hql)) fun h12 e12 => Br.ne (fun hne => ?_) fun heq => ⟨l2.length - (q + 1), by omega, q + 1, by rw [wi64 (by omega) (by omega)]; omega, by omega, bad_step hql hbad heq, e3.trans e12, rfl⟩⟩
    have hb2 := bad_at hql hbad hne
    have := k h12 F
    unfold docA at this
    rw [if_pos (by rw [hb2]; exact hne), hb2] at this
    exact this (D.ext0 (e3.trans e12)) (e3.trans e12).of0 (Sub.refl _ _)
  · obtain rfl : q = l2.length := by omega
    rw [List.take_length] at hbad
    unfold docA at k
    rw [if_neg (by simp [hbad])] at k
    refine New.mk fun b14 h15 hb14 hs15 e15 k15 => ?_
    obtain ⟨sl, sm, C⟩ := D
    have C15 := C.ext (e3.trans e15) fun _ _ z => z
    refine NilC.mk rfl ⟨sl, C15.blk.cell rfl, AppC.grow lfs_sized (by omega) rfl (Own.new (l := ([] : List Rec)) lfs_sized k15) (C15.recs.arr lfs_sized) (by simp; omega) fun s19 h20 o20 g20 => ?_⟩
    have f15 : Fresh h h15 ⟨some (b14, 0), 0, 0⟩ := ⟨e3.trans e15, fun b off z => by cases z; have := e3.size; omega⟩
    have f20 := f15.grow g20
    have o20 : Own 4 Rec.lfs h20 s19 l := o20
    refine AppC.grow lfs_sized (by omega) rfl o20 (a.ext0 f20.ext) (by omega) fun s21 h22 o22 g22 => ?_
    have f22 := f20.grow g22
    have hall : (l ++ l2).length = l.length + l2.length := List.length_append
    have olen := o22.len
    have hbad2 : bad (l ++ l2) = 0 := bad_zero fun r hr => by
      rcases List.mem_append.1 hr with hr | hr
      · exact (good r hr).2.1
      · exact bad_all hbad r hr
    have hrb : ∀ r ∈ l ++ l2, RecB r := fun r hr => by
      rcases List.mem_append.1 hr with hr | hr
      · exact good.recB r hr
      · exact hok r hr
    have ht := tot_append l l2
    refine ⟨fun c hh => c = decide ((l.length : Int) + l2.length > 4096 ∨ 12 + tot l + tot l2 > 4194304) ∧ Own 4 Rec.lfs hh s21 (l ++ l2) ∧ Fresh h hh s21, ?_, ?_⟩
    · rw [olen, hall]
      refine Br.dec (fun c1 => ⟨(decide_eq_true (.inl (by omega))).symm, o22, f22⟩) fun c1 => ?_
      refine c36 (o22.arr lfs_sized) hrb (by omega) hbad2 fun h25 e25 => ⟨?_, o22.ext0 e25, f22.ext0 e25⟩
      rw [Bool.eq_iff_iff]; simp only [decide_eq_true_eq]; omega
    · rintro _ h27 ⟨rfl, o27, f27⟩
      refine Br.dec (fun c1 => ?_) fun c1 => ?_
      · have := k h27 F
        rw [if_pos c1] at this
        exact this ⟨sl, sm, C.ext f27.ext fun _ _ z => z⟩ f27.ext.of0 (Sub.refl _ _)
      · rw [if_neg c1] at k
        refine ⟨fun i hh d => ∃ q : Nat, i = q ∧ q ≤ (l ++ l2).length ∧ Own 4 Rec.lfs hh s21 (((l ++ l2).take q).map plainR ++ (l ++ l2).drop q) ∧ Fresh h hh s21 ∧ d = (l ++ l2).length - q, ⟨_, 0, rfl, by omega, by simpa using o27, f27, rfl⟩, ?_⟩
        rintro _ h31 _ ⟨q, rfl, hq, o31, f31, rfl⟩
        rw [olen]
        refine Br.dec (fun c2 => ?_) fun c2 => ?_
        · have hql : q < (l ++ l2).length := by omega
          refine (o31.arr lfs_sized).ix rfl (plain_at hql) fun b33 b34 hb => ⟨_, _, _, _, hb, c43 fun h43 e43 => IxC.set lfs_sized (o31.ext0 e43) (k := q) (x := plainR (l ++ l2)[q]) rfl (by simp; omega) rfl fun h46 hs46 o46 e46 => ⟨(l ++ l2).length - (q + 1), by omega, q + 1, by rw [wi64 (by omega) (by omega)]; omega, by omega, ?_, ?_, rfl⟩⟩
          · rw [plain_step hql] at o46; exact o46
          · exact ⟨(f31.ext.trans e43).trans' e46 fun i hi ⟨off, z⟩ => by have := f31.new _ _ z; omega, f31.new⟩
        · obtain rfl : q = (l ++ l2).length := by omega
          rw [List.take_length, List.drop_length, List.append_nil, List.map_append, good.plain] at o31
          have C31 := C.ext f31.ext fun _ _ z => z
          have hnew : ∀ b off, s21.a = some (b, off) → h.size ≤ b := f31.new
          have hgl := C.blk.lt
          refine NilC.mk rfl (StC.one C31.blk (by simp) fun h50 hs50 k50 e50 => ?_)
          refine k h50 (fun b => F b ∨ ∃ off, s21.a = some (b, off)) ⟨s21, sm, k50, ?_, ?_, .inl C.gin, ?_, ?_, ?_⟩ ?_ ?_
          · exact o31.ext e50 fun ⟨b, off, hb, z⟩ => by have := hnew b off hb; have z : b = g := z; omega
          · exact C31.marks.ext e50 fun ⟨b, off, hb, z⟩ => (C.hm b off hb).2 z
          · rintro b (hb | ⟨off, hb⟩)
            · have := C31.lt b hb; omega
            · have := (o31.lt b off hb).1; omega
          · intro b off hb
            have := hnew b off hb
            exact ⟨.inr ⟨off, hb⟩, by omega⟩
          · intro b off hb
            exact ⟨.inl (C.hm b off hb).1, (C.hm b off hb).2⟩
          · exact f31.ext.of0.trans e50
          · rintro b (hb | ⟨off, hb⟩)
            · exact .inl hb
            · exact .inr (hnew b off hb)

theorem c48 {x : Bt} (B : Bat h g F x) {R : Heap → Prop} (k : ∀ h', Bat h' g F ⟨[], 0, []⟩ → Ext (fun i => i = g) h h' → R h') :
    Call Go.Proofs.Try.prog 48 [.lf (.ptr (some (g, 0)))] h [] R := by
  obtain ⟨sl, sm, C⟩ := B
  refine ok48 (NilC.mk rfl (StC_all (cs' := [.slc ⟨none, 0, 0⟩, .int .i64 0, .slc ⟨none, 0, 0⟩]) C.blk rfl fun h2 hs2 k2 e2 => k h2 ⟨_, _, k2, Own.nil _ _ _, Own.nil _ _ _, C.gin, fun b hb => by have := C.lt b hb; omega, fun b off z => (by cases z), fun b off z => (by cases z)⟩ e2))

theorem c53 {x : Bt} (B : Bat h g F x) {R : Int → Heap → Prop} (k : R x.recs.length h) :
    Call Go.Proofs.Try.prog 53 [.lf (.ptr (some (g, 0)))] h [.one (.int .i64)] R := by
  obtain ⟨sl, sm, C⟩ := B
  rw [← C.recs.len] at k
  exact ok53 (NilC.mk rfl ⟨sl, C.blk.cell rfl, k⟩)

theorem c64 {x : Bt} {fam : Int} {key : ByteArray} (B : Bat h g F x) (ok : x.Ok) (h0 : 0 ≤ fam) (h1 : fam ≤ 4294967295) {R : Int → Heap → Prop}
    (k : ∀ h' F', Bat h' g F' (allB x [⟨fam, 0, key, empty⟩]).2 → Ext F h h' → Sub F F' h → R (allB x [⟨fam, 0, key, empty⟩]).1 h') :
    Call Go.Proofs.Try.prog 64 [.lf (.ptr (some (g, 0))), .lf (.int .u32 fam), .lf (.str key)] h [.one (.int .i64)] R :=
  ok64 (c8 (r := ⟨fam, 0, key, empty⟩) B ok ⟨h0, h1, show (-9223372036854775808 : Int) ≤ 0 by decide, show (0 : Int) ≤ 9223372036854775807 by decide⟩ k)

theorem c65 {x : Bt} {fam : Int} {key val : ByteArray} (B : Bat h g F x) (ok : x.Ok) (h0 : 0 ≤ fam) (h1 : fam ≤ 4294967295) {R : Int → Heap → Prop}
    (k : ∀ h' F', Bat h' g F' (allB x [⟨fam, 2, key, val⟩]).2 → Ext F h h' → Sub F F' h → R (allB x [⟨fam, 2, key, val⟩]).1 h') :
    Call Go.Proofs.Try.prog 65 [.lf (.ptr (some (g, 0))), .lf (.int .u32 fam), .lf (.str key), .lf (.str val)] h [.one (.int .i64)] R :=
  ok65 (c8 (r := ⟨fam, 2, key, val⟩) B ok ⟨h0, h1, show (-9223372036854775808 : Int) ≤ 2 by decide, show (2 : Int) ≤ 9223372036854775807 by decide⟩ k)
end

end Go.V.Ytclffphegfhocaa
