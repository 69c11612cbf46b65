/- This text proves a part of the laws of seat Ytclffphegfhocaa, under no condition: B3e. -/
import Derived.Test.YtclffphegfhocaaB3d
set_option linter.unusedVariables false
set_option linter.unusedSimpArgs false
/-! The batch's calls. -/
namespace Go.V.Ytclffphegfhocaa
open Go Go.V

theorem enc_plain (r : Rec) : encR (plainR r) = encR r := by
  unfold plainR encR; split <;> simp_all
theorem plain_plain (r : Rec) : plainR (plainR r) = plainR r := by
  unfold plainR; split <;> simp_all
theorem check_plain {r : Rec} (h : checkE r = 0) : checkE (plainR r) = 0 := by
  unfold plainR; split
  · rename_i h0
    obtain ⟨h1, _⟩ := check_size h
    simp [checkE, h0]; omega
  · exact h

structure Bt.Ok (x : Bt) : Prop where
  len : x.recs.length ≤ 4096
  recs : ∀ r ∈ x.recs, r.Ok ∧ checkE r = 0 ∧ plainR r = r
  size : x.size = 0 ∧ x.recs = [] ∨ x.size = 12 + tot x.recs ∧ x.size ≤ 4194304
  marks : ∀ n ∈ x.marks, 0 ≤ n ∧ n ≤ x.recs.length
  sorted : x.marks.Pairwise (· ≤ ·)

theorem Bt.Ok.s0 {x : Bt} (h : x.Ok) : 0 ≤ x.size := by
  have := tot_nonneg x.recs
  rcases h.size with h | h <;> omega
theorem Bt.Ok.s1 {x : Bt} (h : x.Ok) : x.size ≤ 4194304 := by
  rcases h.size with h | h <;> omega
theorem Bt.Ok.m12 {x : Bt} (h : x.Ok) : m12 x.size = 12 + tot x.recs := by
  have := tot_nonneg x.recs
  unfold Ytclffphegfhocaa.m12
  rcases h.size with ⟨h, h'⟩ | h
  · rw [h, h']; rfl
  · split <;> omega
theorem bad_zero : ∀ {l : List Rec}, (∀ r ∈ l, checkE r = 0) → bad l = 0
  | [], _ => rfl
  | r :: l, h => by
    simp only [bad, h r (List.mem_cons_self ..), ne_eq, not_true, if_false]
    exact bad_zero fun x hx => h x (List.mem_cons_of_mem _ hx)
theorem bad_all : ∀ {l : List Rec}, bad l = 0 → ∀ r ∈ l, checkE r = 0
  | [], _ => by simp
  | r :: l, h => by
    simp only [bad] at h
    split at h
    · rename_i hne; exact absurd h hne
    · rename_i he
      intro x hx
      rcases List.mem_cons.1 hx with rfl | hx
      · simpa using he
      · exact bad_all h x hx
theorem tot_plain : ∀ l : List Rec, tot (l.map plainR) = tot l
  | [] => rfl
  | r :: l => by simp only [List.map_cons, tot, enc_plain, tot_plain l]

theorem allB_ok {x : Bt} {l : List Rec} (h : x.Ok) (hl : ∀ r ∈ l, r.Ok) : (allB x l).2.Ok := by
  unfold allB
  split
  · exact h
  · rename_i hb
    split
    · exact h
    · rename_i hn
      have hb' : bad l = 0 := by simpa using hb
      rw [h.m12] at hn ⊢
      refine ⟨?_, ?_, .inr ⟨?_, ?_⟩, ?_, h.sorted⟩
      · simp; omega
      · intro r hr
        rcases List.mem_append.1 hr with hr | hr
        · exact h.recs r hr
        · obtain ⟨y, hy, rfl⟩ := List.mem_map.1 hr
          exact ⟨plainR_ok (hl y hy), check_plain (bad_all hb' y hy), plain_plain y⟩
      · simp only [tot_append, tot_plain]; omega
      · show 12 + tot x.recs + tot l ≤ 4194304; omega
      · intro n hn
        have := h.marks n hn
        refine ⟨this.1, ?_⟩
        simp only [List.length_append]; omega
theorem allB_pre (x : Bt) (l : List Rec) : ∃ m, (allB x l).2.recs = x.recs ++ m ∧ (allB x l).2.marks = x.marks := by
  unfold allB
  split
  · exact ⟨[], by simp⟩
  · split
    · exact ⟨[], by simp⟩
    · exact ⟨_, rfl, rfl⟩

/-- Add. -/
theorem c8 {h : Heap} {g : Nat} {F : Nat → Prop} {x : Bt} {r : Rec} (B : Bat h g F x) (ok : x.Ok) (hr : r.Ok) {R : Int → Heap → Prop}
    (k : ∀ h' F', Bat h' g F' (allB x [r]).2 → Ext F h h' → Sub F F' h → R (allB x [r]).1 h') :
    Call Go.Proofs.Try.prog 8 [.lf (.ptr (some (g, 0))), .agg r.lfs] h [.one (.int .i64)] R := by
  have hlt := B.lt
  refine ok8 (New.mk fun b0 h1 hb0 hs1 e1 kb0 => New.mk fun b2 h3 hb2 hs3 e3 kb2 => ?_)
  have e := e1.trans e3
  refine c26 (B.ext0 e) ok.s0 ok.s1 ok.len ((Own.new (l := [r]) lfs_sized kb2).arr lfs_sized) ?_ (by simp) (by simpa using hr) fun h4 F' B' e' s' => ⟨e'.keep (by omega) fun hx => ?_, k _ _ B' (e.of0.trans e') fun b hb => (s' b hb).imp id fun y => Nat.le_trans e.size y⟩
  · rintro ⟨b, off, hb, hx⟩; have := hlt b hx; simp at hb; omega
  · have := hlt b0 hx; omega

theorem c29 {h : Heap} {g : Nat} {F : Nat → Prop} {x : Bt} {fam : Int} {key val : ByteArray} (B : Bat h g F x) (ok : x.Ok) (h0 : 0 ≤ fam) (h1 : fam ≤ 4294967295) {R : Int → Heap → Prop}
    (k : ∀ h' F', Bat h' g F' (allB x [⟨fam, 1, key, val⟩]).2 → Ext F h h' → Sub F F' h → R (allB x [⟨fam, 1, key, val⟩]).1 h') :
    Call Go.Proofs.Try.prog 29 [.lf (.ptr (some (g, 0))), .lf (.int .u32 fam), .lf (.str key), .lf (.str val)] h [.one (.int .i64)] R :=
  ok29 (c8 (r := ⟨fam, 1, key, val⟩) B ok ⟨h0, h1, show (-9223372036854775808 : Int) ≤ 1 by decide, show (1 : Int) ≤ 9223372036854775807 by decide⟩ k)

/-- Records. -/
theorem c9 {h : Heap} {g : Nat} {F : Nat → Prop} {x : Bt} (B : Bat h g F x) (ok : x.Ok) {R : Slc → Heap → Prop}
    (k : ∀ s h', Own 4 Rec.lfs h' s x.recs → Fresh h h' s → R s h') :
    Call Go.Proofs.Try.prog 9 [.lf (.ptr (some (g, 0)))] h [.one .slc] R := by
  obtain ⟨sl, sm, C⟩ := B
  have := ok.len
  exact ok9 (NilC.mk rfl ⟨sl, C.blk.cell rfl, c27 (C.recs.arr lfs_sized) (by omega) k⟩)

/-- Size. -/
theorem c10 {h : Heap} {g : Nat} {F : Nat → Prop} {x : Bt} (B : Bat h g F x) (ok : x.Ok) {R : Int → Heap → Prop}
    (k : R (12 + tot x.recs) h) : Call Go.Proofs.Try.prog 10 [.lf (.ptr (some (g, 0)))] h [.one (.int .i64)] R := by
  obtain ⟨sl, sm, C⟩ := B
  rw [← ok.m12] at k
  exact ok10 (NilC.mk rfl ⟨x.size, C.blk.cell rfl, k⟩)

/-- Append. -/
theorem c12 {h : Heap} {g g' : Nat} {F F' : Nat → Prop} {x y : Bt} (B : Bat h g F x) (ok : x.Ok) (B' : Bat h g' F' y) (ok' : y.Ok) {R : Int → Heap → Prop}
    (k : ∀ h' F', Bat h' g F' (allB x y.recs).2 → Ext F h h' → Sub F F' h → R (allB x y.recs).1 h') :
    Call Go.Proofs.Try.prog 12 [.lf (.ptr (some (g, 0))), .lf (.ptr (some (g', 0)))] h [.one (.int .i64)] R := by
  obtain ⟨sl, sm, C⟩ := B'
  have := ok'.len
  have hlt := B.lt
  refine ok12 (Br.f rfl (NilC.mk rfl ⟨sl, C.blk.cell rfl, c27 (C.recs.arr lfs_sized) (by omega) fun s3 h4 o3 f3 => ?_⟩))
  refine c26 (B.ext0 f3.ext) ok.s0 ok.s1 ok.len (o3.arr lfs_sized) ?_ ok'.len (fun r hr => (ok'.recs r hr).1) fun h5 F5 B5 e5 s5 => k _ _ B5 (f3.ext.of0.trans e5) fun b hb => (s5 b hb).imp id fun y => Nat.le_trans f3.ext.size y
  rintro ⟨b, off, hb, hx⟩
  have := hlt b hx
  have := f3.new b off hb
  omega

/-- Save. -/
theorem c15 {h : Heap} {g : Nat} {F : Nat → Prop} {x : Bt} (B : Bat h g F x) (hm : x.marks.length ≤ 1099511627776) {R : Heap → Prop}
    (k : ∀ h' F', Bat h' g F' ⟨x.recs, x.size, x.marks ++ [(x.recs.length : Int)]⟩ → Ext F h h' → Sub F F' h → R h') :
    Call Go.Proofs.Try.prog 15 [.lf (.ptr (some (g, 0)))] h [] R := by
  obtain ⟨sl, sm, C⟩ := B
  refine ok15 (NilC.mk rfl ⟨sm, C.blk.cell rfl, NilC.mk rfl ⟨sl, C.blk.cell rfl, New.mk fun b6 h7 hb6 hs7 e7 k7 => ⟨(C.blk.ext e7).cell rfl, ?_⟩⟩⟩)
  have C1 := C.ext0 e7
  rw [C.recs.len] at k7
  refine AppC.grow iF_sized (by decide) rfl C1.marks ((Own.new (l := [(x.recs.length : Int)]) iF_sized k7).arr iF_sized) (by simp only [List.length_singleton]; omega) fun s8 h9 o9 g9 => ?_
  have hne : ∀ off, sm.a ≠ some (g, off) := fun off hx => (C1.hm _ _ hx).2.1 rfl
  have hg := C1.blk.lt
  refine NilC.mk rfl (StC.one (C1.blk.ext g9.ext fun ⟨off, hx⟩ => hne _ hx) (by simp) fun h10 hs10 k10 e10 => ?_)
  have hnew : ∀ b off, s8.a = some (b, off) → b ≠ g ∧ ∀ off', sl.a ≠ some (b, off') := fun b off hb => by
    rcases g9.new with h1 | ⟨b', h1, h4⟩
    · exact (C1.hm b off (h1 ▸ hb)).2
    · rw [h1] at hb; cases hb
      exact ⟨by omega, fun off' hx => by have := C1.lt b (C1.hl b off' hx).1; omega⟩
  refine k h10 (fun b => F b ∨ ∃ off, s8.a = some (b, off)) ⟨sl, s8, k10, ?_, ?_, .inl C.gin, ?_, fun b off hb => ⟨.inl (C.hl b off hb).1, (C.hl b off hb).2⟩, fun b off hb => ⟨.inr ⟨off, hb⟩, hnew b off hb⟩⟩ ?_ ?_
  · exact (C1.recs.ext g9.ext fun ⟨b, off, hb, off', hx⟩ => (C1.hm b off' hx).2.2 off hb).ext e10 fun ⟨b, off, hb, hx⟩ => (C1.hl b off hb).2 hx
  · exact o9.ext e10 fun ⟨b, off, hb, hx⟩ => (hnew b off hb).1 hx
  · rintro b (hb | ⟨off, hb⟩)
    · have := C1.lt b hb; have := g9.ext.size; omega
    · have := (o9.lt b off hb).1; omega
  · exact (e7.of0.trans (g9.ext.mono fun i ⟨off, hx⟩ => (C.hm i off hx).1)).trans (e10.mono fun i hx => hx ▸ C.gin)
  · rintro b (hb | ⟨off, hb⟩)
    · exact .inl hb
    · rcases g9.new with h1 | ⟨b', h1, h4⟩
      · exact .inl (C1.hm b off (h1 ▸ hb)).1
      · rw [h1] at hb; cases hb; exact .inr (by omega)

/-- Pop. -/
def popB (x : Bt) : Int × Bt := if x.marks.length = 0 then (6, x) else (0, ⟨x.recs, x.size, x.marks.take (x.marks.length - 1)⟩)
theorem c31 {h : Heap} {g : Nat} {F : Nat → Prop} {x : Bt} (B : Bat h g F x) (hm : x.marks.length ≤ 1099511627776) {R : Int → Heap → Prop}
    (k : ∀ h', Bat h' g F (popB x).2 → Ext F h h' → R (popB x).1 h') :
    Call Go.Proofs.Try.prog 31 [.lf (.ptr (some (g, 0)))] h [.one (.int .i64)] R := by
  obtain ⟨sl, sm, C⟩ := B
  have hlen := C.marks.len
  have hlec := C.marks.lec
  refine ok31 (NilC.mk rfl ⟨sm, C.blk.cell rfl, Br.eq (fun h0 => ?_) fun h0 => ?_⟩)
  · have := k h (by rw [popB, if_pos (by omega)]; exact ⟨sl, sm, C⟩) (Ext.refl _ _)
    rwa [popB, if_pos (by omega)] at this
  · have h0' : ¬ x.marks.length = 0 := by omega
    rw [popB, if_neg h0'] at k
    refine NilC.mk rfl ⟨sm, C.blk.cell rfl, NilC.mk rfl ⟨sm, C.blk.cell rfl, ?_⟩⟩
    rw [wi64 (by omega) (by omega)]
    refine ⟨by omega, by omega, NilC.mk rfl (StC.one C.blk (by simp) fun h9 hs9 k9 e9 => k h9 ⟨sl, _, k9, ?_, ?_, C.gin, fun b hb => by rw [hs9]; exact C.lt b hb, C.hl, ?_⟩ (e9.mono fun i hx => hx ▸ C.gin))⟩
    · exact C.recs.ext e9 fun ⟨b, off, hb, hx⟩ => (C.hl b off hb).2 hx
    · rw [hlen, show ((x.marks.length : Int) - 1).toNat = x.marks.length - 1 by omega]
      exact (C.marks.ext e9 fun ⟨b, off, hb, hx⟩ => (C.hm b off hb).2.1 hx).take iF_sized (by omega)
    · intro b off hb
      have : sm.a = some (b, off) := by
        unfold Slc.sub at hb
        cases hsa : sm.a with
        | none => rw [hsa] at hb; simp at hb
        | some p => rw [hsa] at hb; simpa using hb
      exact C.hm b off this

end Go.V.Ytclffphegfhocaa
