/- This text proves a part of the laws of seat Yteojmnnobmpdiaa, under no condition: X22v X22w X22x X22y. -/
import Derived.Test.YteojmnnobmpdiaaST
import Derived.Test.YteojmnnobmpdiaaSL
set_option linter.unusedVariables false
set_option linter.unusedSimpArgs false
/-! The document's files that are needed. -/
namespace Go.V.Yteojmnnobmpdiaa
open Go Go.V Go.V.Snap

theorem rF_sized : Sized 1 rF := fun _ => rfl

/-- The document's files in memory. -/
structure DF (h : Heap) (d : Nat) (sl sh : Slc) (ρ : List ((Slc × List Int) × Bool)) : Prop where
  blk : Blk h d 76 [.slc sl, .slc sh]
  rows : Own 1 rF h sl (ρ.map (·.1))
  held : Own 1 yF h sh (ρ.map (·.2))
  arr : ∀ x ∈ ρ, Arr 1 uF h x.1.1 x.1.2 ∧ ∀ b off, x.1.1.a = some (b, off) → b ≠ d ∧ ¬ inS sl b ∧ ¬ inS sh b ∧ b < h.size
  n1 : ¬ inS sl d
  n2 : ¬ inS sh d
  n3 : ∀ b, inS sl b → ¬ inS sh b
  sz : ρ.length ≤ 4398046511104
  few : (ment (texts ρ)).length ≤ 1073741824
  each : ∀ x ∈ ρ, x.1.2.length ≤ 1073741824

/-- Its blocks. -/
def FB (d : Nat) (sl sh : Slc) (ρ : List ((Slc × List Int) × Bool)) (b : Nat) : Prop := b = d ∨ inS sl b ∨ inS sh b ∨ ∃ x ∈ ρ, inS x.1.1 b

theorem DF.ext {S : Nat → Prop} {h h' : Heap} {d : Nat} {sl sh : Slc} {ρ : List ((Slc × List Int) × Bool)} (L : DF h d sl sh ρ) (e : Ext S h h') (hs : ∀ b, FB d sl sh ρ b → ¬ S b) : DF h' d sl sh ρ :=
  ⟨L.blk.ext e (hs d (.inl rfl)), L.rows.ext e fun ⟨b, off, h1, h2⟩ => hs b (.inr (.inl ⟨off, h1⟩)) h2, L.held.ext e fun ⟨b, off, h1, h2⟩ => hs b (.inr (.inr (.inl ⟨off, h1⟩))) h2,
    fun x hx => ⟨(L.arr x hx).1.ext e fun ⟨b, off, h1, h2⟩ => hs b (.inr (.inr (.inr ⟨x, hx, off, h1⟩))) h2, fun b off hb => by
      obtain ⟨h1, h2, h3, h4⟩ := (L.arr x hx).2 b off hb
      exact ⟨h1, h2, h3, Nat.lt_of_lt_of_le h4 e.size⟩⟩, L.n1, L.n2, L.n3, L.sz, L.few, L.each⟩
theorem DF.ext0 {h h' : Heap} {d : Nat} {sl sh : Slc} {ρ : List ((Slc × List Int) × Bool)} (L : DF h d sl sh ρ) (e : Ext0 h h') : DF h' d sl sh ρ := L.ext e fun _ _ x => x
theorem DF.len1 {h : Heap} {d : Nat} {sl sh : Slc} {ρ : List ((Slc × List Int) × Bool)} (L : DF h d sl sh ρ) : sl.len = ρ.length := by have := L.rows.len; simpa using this
theorem DF.len2 {h : Heap} {d : Nat} {sl sh : Slc} {ρ : List ((Slc × List Int) × Bool)} (L : DF h d sl sh ρ) : sh.len = ρ.length := by have := L.held.len; simpa using this
theorem DF.get {ρ : List ((Slc × List Int) × Bool)} {p : Nat} (h : p < ρ.length) : (ρ.map (·.1))[p]? = some ρ[p].1 ∧ (ρ.map (·.2))[p]? = some ρ[p].2 := by simp [h]

theorem ment_take {ρ : List ((Slc × List Int) × Bool)} {p : Nat} (h : p < ρ.length) : ment (texts (ρ.take (p + 1))) = ment (texts (ρ.take p)) ++ (if ρ[p].2 = true then ρ[p].1.2 else []) := by
  have e : ρ.take (p + 1) = ρ.take p ++ [ρ[p]] := by rw [List.take_add_one, show ρ[p]? = some ρ[p] by simp [h]]; rfl
  rw [e]
  generalize ρ[p] = y
  obtain ⟨⟨s, L⟩, b⟩ := y
  cases b <;> simp [texts, ment]

theorem ment_take_le (ρ : List ((Slc × List Int) × Bool)) (p : Nat) : (ment (texts (ρ.take p))).length ≤ (ment (texts ρ)).length := by
  have e : ment (texts ρ) = ment (texts (ρ.take p)) ++ ment (texts (ρ.drop p)) := by
    unfold ment texts
    rw [← List.flatMap_append, ← List.filter_append, ← List.map_append, List.take_append_drop]
  rw [e, List.length_append]
  omega

section
variable {h : Heap} {d : Nat} {sl sh : Slc} {ρ : List ((Slc × List Int) × Bool)} (D : DF h d sl sh ρ)
include D

theorem c44 {f : Int} {R : Int → Heap → Prop} (k : R (cnt (texts ρ) f : Int) h) : Call Go.Proofs.Try.prog 44 [.lf (.ptr (some (d, 0))), .lf (.int .u64 f)] h [.one (.int .i64)] R := by
  have hsz := D.sz
  have hfew := D.few
  refine ok44 ⟨fun n i hh m => ∃ p : Nat, i = p ∧ p ≤ ρ.length ∧ n = (cnt (texts (ρ.take p)) f : Int) ∧ h = hh ∧ m = ρ.length - p, ⟨_, 0, rfl, by omega, by simp [texts, cnt, ment], rfl, rfl⟩, ?_⟩
  rintro _ _ _ _ ⟨p, rfl, hp, rfl, rfl, rfl⟩
  refine NilC.mk rfl ⟨sl, D.blk.cell rfl, ?_⟩
  rw [D.len1]
  refine Br.dec (fun hlt => ?_) fun hge => ?_
  · have hpl : p < ρ.length := by omega
    have hm := ment_take hpl
    have hle := ment_take_le ρ (p + 1)
    have hxm : ρ[p] ∈ ρ := List.getElem_mem hpl
    obtain ⟨ax, _⟩ := D.arr _ hxm
    have hxl := D.each _ hxm
    obtain ⟨g1, g2⟩ := DF.get hpl
    generalize ρ[p] = y at hm ax hxl g1 g2
    obtain ⟨⟨s, L⟩, b⟩ := y
    simp only at hm ax hxl g1 g2
    have next : ∀ c : Nat, c = cnt (texts (ρ.take (p + 1))) f → ∃ b28, b28 < ρ.length - p ∧ ∃ p' : Nat, IntKind.wrap .i64 ((p : Int) + 1) = p' ∧ p' ≤ ρ.length ∧ (c : Int) = (cnt (texts (ρ.take p')) f : Int) ∧ h = h ∧ b28 = ρ.length - p' :=
      fun c hc => ⟨ρ.length - (p + 1), by omega, p + 1, by rw [wi64 (by omega) (by omega)]; omega, by omega, by rw [hc], rfl, rfl⟩
    have hcl : cnt (texts (ρ.take p)) f ≤ 1073741824 := Nat.le_trans (cnt_le _ _) (Nat.le_trans (ment_take_le ρ p) hfew)
    refine ⟨fun n i hh m => ∃ q : Nat, i = q ∧ q ≤ L.length ∧ (q = 0 ∨ b = true) ∧ n = ((cnt (texts (ρ.take p)) f + (L.take q).count f : Nat) : Int) ∧ h = hh ∧ m = L.length - q, ⟨_, 0, rfl, by omega, .inl rfl, by simp, rfl, rfl⟩, ?_⟩
    rintro _ _ _ _ ⟨q, rfl, hq, hqb, rfl, rfl, rfl⟩
    have hlen : s.len = L.length := ax.len
    refine ⟨fun hh => h = hh ∧ q < L.length ∧ b = true, NilC.mk rfl ⟨sl, D.blk.cell rfl, (D.rows.arr rF_sized).ix rfl g1 fun b1 off hb => ⟨s, hb, ?_⟩⟩, ?_⟩
    · rw [hlen]
      refine Br.dec (fun hlt2 => NilC.mk rfl ⟨sh, D.blk.cell rfl, (D.held.arr yF_sized).ix rfl g2 fun b2 off hb => ⟨b, hb, Br.mk (fun c => ⟨rfl, by omega, c⟩) fun c => ?_⟩⟩) fun hge2 => ?_
      · have hq0 : q = 0 := hqb.resolve_right (by rw [c]; simp)
        subst hq0
        refine next _ ?_
        unfold cnt
        rw [hm, c]
        simp
      · have hqe : q = L.length := by omega
        subst hqe
        rw [List.take_length]
        refine next _ ?_
        rcases hqb with h0 | hb
        · have : L = [] := List.length_eq_zero_iff.1 h0
          subst this
          unfold cnt
          rw [hm]
          simp
        · unfold cnt
          rw [hm, if_pos hb, List.count_append]
    · rintro _ ⟨rfl, hql, hb⟩
      have hct := count_take hql f
      have hc2 : (L.take q).count f ≤ L.length := Nat.le_trans List.count_le_length (by simp; omega)
      refine NilC.mk rfl ⟨sl, D.blk.cell rfl, (D.rows.arr rF_sized).ix rfl g1 fun b1 off hb' => ⟨s, hb', ax.ix rfl (getE hql) fun b2 off hb2 => ⟨_, hb2, Br.eq (fun c => ?_) fun c => ?_⟩⟩⟩
      · rw [if_pos c] at hct
        exact ⟨L.length - (q + 1), by omega, q + 1, by rw [wi64 (by omega) (by omega)]; omega, by omega, .inr hb, by rw [wi64 (by omega) (by omega), hct]; push_cast; omega, rfl, rfl⟩
      · rw [if_neg c] at hct
        exact ⟨L.length - (q + 1), by omega, q + 1, by rw [wi64 (by omega) (by omega)]; omega, by omega, .inr hb, by rw [hct]; rfl, rfl, rfl⟩
  · have : p = ρ.length := by omega
    subst this
    rw [List.take_length]
    exact k

end
end Go.V.Yteojmnnobmpdiaa
set_option linter.unusedVariables false
set_option linter.unusedSimpArgs false
/-! The document's Needed, Drop. -/
namespace Go.V.Yteojmnnobmpdiaa
open Go Go.V Go.V.Snap

def needD (l : List Int) : List Int := l.foldl withI []
theorem needD_spec (l : List Int) : SS (needD l) ∧ ∀ x, x ∈ needD l ↔ x ∈ l := by
  obtain ⟨h1, h2⟩ := foldl_withI l [] List.Pairwise.nil
  exact ⟨h1, fun x => by rw [needD, h2]; simp⟩
theorem needD_len (l : List Int) : (needD l).length ≤ l.length := by have := withI_fold_len l []; unfold needD; simp at this; omega
theorem needD_snoc (l : List Int) (x : Int) : needD (l ++ [x]) = withI (needD l) x := by simp [needD]

section
variable {h : Heap} {d : Nat} {sl sh : Slc} {ρ : List ((Slc × List Int) × Bool)} (D : DF h d sl sh ρ)
include D

theorem c42 {R : Slc → Heap → Prop} (k : ∀ s' h', Own 1 uF h' s' (needD (ment (texts ρ))) → Fresh h h' s' → R s' h') : Call Go.Proofs.Try.prog 42 [.lf (.ptr (some (d, 0)))] h [.one .slc] R := by
  have hsz := D.sz
  have hfew := D.few
  refine ok42 ⟨fun t i hh m => ∃ p : Nat, i = p ∧ p ≤ ρ.length ∧ Own 1 uF hh t (needD (ment (texts (ρ.take p)))) ∧ Fresh h hh t ∧ m = ρ.length - p, ⟨_, 0, rfl, by omega, by simpa [texts, ment, needD] using Own.nil 1 uF h, Fresh.nil _, rfl⟩, ?_⟩
  rintro t _ h4 _ ⟨p, rfl, hp, o4, f4, rfl⟩
  have D4 := D.ext0 f4.ext
  refine NilC.mk rfl ⟨sl, D4.blk.cell rfl, ?_⟩
  rw [D.len1]
  refine Br.dec (fun hlt => ?_) fun hge => ?_
  · have hpl : p < ρ.length := by omega
    have hm := ment_take hpl
    have hle := ment_take_le ρ p
    have hxm : ρ[p] ∈ ρ := List.getElem_mem hpl
    obtain ⟨ax, _⟩ := D4.arr _ hxm
    have hxl := D.each _ hxm
    obtain ⟨g1, g2⟩ := DF.get hpl
    generalize ρ[p] = y at hm ax hxl g1 g2
    obtain ⟨⟨s, L⟩, b⟩ := y
    simp only at hm ax hxl g1 g2
    have next : ∀ (t' : Slc) (hh : Heap) (l : List Int), l = ment (texts (ρ.take (p + 1))) → Own 1 uF hh t' (needD l) → Fresh h hh t' → ∃ b28, b28 < ρ.length - p ∧ ∃ p' : Nat, IntKind.wrap .i64 ((p : Int) + 1) = p' ∧ p' ≤ ρ.length ∧ Own 1 uF hh t' (needD (ment (texts (ρ.take p')))) ∧ Fresh h hh t' ∧ b28 = ρ.length - p' :=
      fun t' hh l hl o f => ⟨ρ.length - (p + 1), by omega, p + 1, by rw [wi64 (by omega) (by omega)]; omega, by omega, hl ▸ o, f, rfl⟩
    refine ⟨fun t' i hh m => ∃ q : Nat, i = q ∧ q ≤ L.length ∧ (q = 0 ∨ b = true) ∧ Own 1 uF hh t' (needD (ment (texts (ρ.take p)) ++ L.take q)) ∧ Fresh h hh t' ∧ m = L.length - q, ⟨_, 0, rfl, by omega, .inl rfl, by simpa using o4, f4, rfl⟩, ?_⟩
    rintro t' _ h13 _ ⟨q, rfl, hq, hqb, o13, f13, rfl⟩
    have D13 := D.ext0 f13.ext
    have ax13 := (D13.arr ((s, L), b) (List.mem_of_getElem? (by
      have := g1
      have := g2
      rw [List.getElem?_map] at g1 g2
      cases hh : ρ[p]? with
      | none => rw [hh] at g1; cases g1
      | some w => rw [hh] at g1 g2; obtain ⟨w1, w2⟩ := w; simp at g1 g2; subst g1; subst g2; rfl))).1
    have ax13 : Arr 1 uF h13 s L := ax13
    have hlen : s.len = L.length := ax.len
    refine ⟨fun hh => h13 = hh ∧ q < L.length ∧ b = true, NilC.mk rfl ⟨sl, D13.blk.cell rfl, (D13.rows.arr rF_sized).ix rfl g1 fun b1 off hb => ⟨s, hb, ?_⟩⟩, ?_⟩
    · rw [hlen]
      refine Br.dec (fun hlt2 => NilC.mk rfl ⟨sh, D13.blk.cell rfl, (D13.held.arr yF_sized).ix rfl g2 fun b2 off hb => ⟨b, hb, Br.mk (fun c => ⟨rfl, by omega, c⟩) fun c => ?_⟩⟩) fun hge2 => ?_
      · have hq0 : q = 0 := hqb.resolve_right (by rw [c]; simp)
        subst hq0
        exact next t' h13 _ (by rw [hm, c]; simp) o13 f13
      · have hqe : q = L.length := by omega
        subst hqe
        refine next t' h13 _ ?_ o13 f13
        rw [List.take_length]
        rcases hqb with h0 | hb
        · have : L = [] := List.length_eq_zero_iff.1 h0
          subst this
          rw [hm]; simp
        · rw [hm, if_pos hb]
    · rintro _ ⟨rfl, hql, hb⟩
      refine NilC.mk rfl ⟨sl, D13.blk.cell rfl, (D13.rows.arr rF_sized).ix rfl g1 fun b1 off hb' => ⟨s, hb', ax13.ix rfl (getE hql) fun b2 off hb2 => ⟨_, hb2, ?_⟩⟩⟩
      have hnl := needD_len (ment (texts (ρ.take p)) ++ L.take q)
      rw [List.length_append, List.length_take] at hnl
      refine c94 o13 (by omega) fun s40 h41 o41 e41 n41 => ⟨L.length - (q + 1), by omega, q + 1, by rw [wi64 (by omega) (by omega)]; omega, by omega, .inr hb, ?_, ⟨f13.ext.trans e41, fun b off hb => ?_⟩, rfl⟩
      · rw [List.take_add_one, getE hql, ← List.append_assoc]
        show Own 1 uF h41 s40 (needD (ment (texts (ρ.take p)) ++ L.take q ++ [L[q]]))
        rw [needD_snoc]
        exact o41
      · rcases n41 with n | ⟨b', n, hb'⟩
        · exact f13.new b off (n ▸ hb)
        · rw [n] at hb; cases hb; have := f13.ext.size; omega
  · have : p = ρ.length := by omega
    subst this
    rw [List.take_length] at o4
    exact k t h4 o4 f4

end
end Go.V.Yteojmnnobmpdiaa
set_option linter.unusedVariables false
set_option linter.unusedSimpArgs false
/-! The document's Drop. -/
namespace Go.V.Yteojmnnobmpdiaa
open Go Go.V Go.V.Snap

theorem letGo_rows (ρ : List ((Slc × List Int) × Bool)) (x : Int) : (letGo ρ x).map (·.1) = ρ.map (·.1) := by
  unfold letGo
  cases hx : hgot ρ x with
  | none => rfl
  | some y =>
    obtain ⟨h1, h2, h3⟩ := hgot_some hx
    show (ρ.set (x - 1).toNat (y, false)).map (·.1) = _
    apply List.ext_getElem?
    intro j
    simp only [List.getElem?_map, List.getElem?_set]
    by_cases e : (x - 1).toNat = j
    · rw [if_pos e, if_pos (e ▸ h2), ← e, h3]; rfl
    · rw [if_neg e]

theorem letGo_few (ρ : List ((Slc × List Int) × Bool)) (x : Int) : (ment (texts (letGo ρ x))).length ≤ (ment (texts ρ)).length := by
  unfold letGo
  cases hx : hgot ρ x with
  | none => exact Nat.le_refl _
  | some y =>
    obtain ⟨h1, h2, h3⟩ := hgot_some hx
    have := (ment_set (texts_get h3)).length_eq
    rw [List.length_append] at this
    show (ment (texts (ρ.set (x - 1).toNat (y, false)))).length ≤ _
    rw [texts_set]; omega

theorem c39 {h : Heap} {d : Nat} {sl sh : Slc} {ρ : List ((Slc × List Int) × Bool)} (D : DF h d sl sh ρ) {x : Int} (hx9 : x ≤ 9223372036854775807) {R : Slc → Int → Heap → Prop}
    (k0 : hgot ρ x = none → R ⟨none, 0, 0⟩ 220 h)
    (k : ∀ s L s' h' G, hgot ρ x = some (s, L) → DF h' d sl sh (letGo ρ x) → Ext (inS sh) h h' → Own 1 uF h' s' G → SS G → (∀ f, f ∈ G ↔ f ∈ L ∧ cnt (texts (letGo ρ x)) f = 0) → G.length ≤ 1073741824 →
      (∀ b off, s'.a = some (b, off) → h.size ≤ b) → R s' 0 h') :
    Call Go.Proofs.Try.prog 39 [.lf (.ptr (some (d, 0))), .lf (.int .i64 x)] h [.one .slc, .one (.int .i64)] R := by
  have hsz := D.sz
  have hfew := D.few
  refine ok39 ⟨fun c hh => h = hh ∧ c = (hgot ρ x).isNone, Br.dec (fun c => ⟨rfl, ?_⟩) fun c => NilC.mk rfl ⟨sl, D.blk.cell rfl, ?_⟩, ?_⟩
  · unfold hgot; rw [if_neg (by omega)]; rfl
  · rw [D.len1]
    refine Br.dec (fun c2 => ⟨rfl, ?_⟩) fun c2 => NilC.mk rfl ⟨sh, D.blk.cell rfl, ?_⟩
    · unfold hgot; rw [if_pos (by omega), List.getElem?_eq_none (by omega)]; rfl
    · have hpl : (x - 1).toNat < ρ.length := by omega
      refine (D.held.arr yF_sized).ix (k := (x - 1).toNat) (by rw [wi64 (by omega) (by omega)]; omega) (DF.get hpl).2 fun b off hb => ⟨_, hb, rfl, ?_⟩
      unfold hgot
      rw [if_pos (by omega)]
      have hg : ρ[(x - 1).toNat]? = some ρ[(x - 1).toNat] := by simp [hpl]
      generalize ρ[(x - 1).toNat] = y at hg ⊢
      rw [hg]
      obtain ⟨y1, b⟩ := y
      cases b <;> rfl
  · rintro c _ ⟨rfl, rfl⟩
    cases hx : hgot ρ x with
    | none => exact Br.t rfl (k0 hx)
    | some y =>
      obtain ⟨s, L⟩ := y
      obtain ⟨hx1, hx2, hx3⟩ := hgot_some hx
      have hxm := List.mem_of_getElem? hx3
      have hLl : L.length ≤ 1073741824 := D.each _ hxm
      have hlg : letGo ρ x = ρ.set (x - 1).toNat ((s, L), false) := by unfold letGo; rw [hx]
      refine Br.f rfl (NilC.mk rfl ⟨sh, D.blk.cell rfl, ?_⟩)
      refine IxC.set yF_sized D.held (k := (x - 1).toNat) (by rw [wi64 (by omega) (by omega)]; omega) (by simpa using hx2) (x := false) rfl fun h17 hs17 o17 e17 => ?_
      have e17 : Ext (inS sh) h h17 := e17
      have D17 : DF h17 d sl sh (letGo ρ x) := by
        refine ⟨D.blk.ext e17 D.n2, ?_, ?_, fun z hz => ?_, D.n1, D.n2, D.n3, by rw [hlg, List.length_set]; exact D.sz, Nat.le_trans (letGo_few ρ x) hfew, fun z hz => ?_⟩
        · rw [letGo_rows]
          exact D.rows.ext e17 fun ⟨b, off, h1, h2⟩ => D.n3 b ⟨off, h1⟩ h2
        · rw [hlg, List.map_set]; exact o17
        · have hz' : ∃ z' ∈ ρ, z'.1 = z.1 := by
            rw [hlg] at hz
            rcases List.mem_or_eq_of_mem_set hz with hh | rfl
            · exact ⟨z, hh, rfl⟩
            · exact ⟨_, hxm, rfl⟩
          obtain ⟨z', hz1, hz2⟩ := hz'
          obtain ⟨h1, h2⟩ := D.arr z' hz1
          rw [hz2] at h1 h2
          refine ⟨h1.ext e17 fun ⟨b, off, g1, g2⟩ => (h2 b off g1).2.2.1 g2, fun b off hb => ?_⟩
          obtain ⟨g1, g2, g3, g4⟩ := h2 b off hb
          exact ⟨g1, g2, g3, Nat.lt_of_lt_of_le g4 e17.size⟩
        · rw [hlg] at hz
          rcases List.mem_or_eq_of_mem_set hz with hh | rfl
          · exact D.each z hh
          · exact hLl
      have hin : ((s, L), false) ∈ letGo ρ x := by
        rw [hlg]
        exact List.mem_of_getElem? (i := (x - 1).toNat) (by rw [List.getElem?_set, if_pos rfl, if_pos hx2])
      have hrow : ((letGo ρ x).map (·.1))[(x - 1).toNat]? = some (s, L) := by
        rw [letGo_rows, List.getElem?_map, hx3]; rfl
      generalize hρ : letGo ρ x = ρ' at D17 hin hrow k
      refine ⟨fun t i hh m => ∃ q : Nat, i = q ∧ q ≤ L.length ∧ Own 1 uF hh t (needD ((L.take q).filter fun f => cnt (texts ρ') f == 0)) ∧ Fresh h17 hh t ∧ m = L.length - q,
        ⟨_, 0, rfl, by omega, by simpa [needD] using Own.nil 1 uF h17, Fresh.nil _, rfl⟩, ?_⟩
      rintro t _ h22 _ ⟨q, rfl, hq, o22, f22, rfl⟩
      have D22 := D17.ext0 f22.ext
      have ax : Arr 1 uF h22 s L := (D22.arr _ hin).1
      have hlen : s.len = L.length := ax.len
      have ixk : IntKind.wrap .i64 (x - 1) = (((x - 1).toNat : Nat) : Int) := by rw [wi64 (by omega) (by omega)]; omega
      refine NilC.mk rfl ⟨sl, D22.blk.cell rfl, (D22.rows.arr rF_sized).ix ixk hrow fun b1 off hb => ⟨s, hb, ?_⟩⟩
      rw [hlen]
      have hnl := needD_len ((L.take q).filter fun f => cnt (texts ρ') f == 0)
      have hfl : ((L.take q).filter fun f => cnt (texts ρ') f == 0).length ≤ q := Nat.le_trans (List.length_filter_le _ _) (by simp; omega)
      refine Br.dec (fun hlt => ?_) fun hge => ?_
      · have hql : q < L.length := by omega
        have htk : L.take (q + 1) = L.take q ++ [L[q]] := by rw [List.take_add_one, getE hql]; rfl
        refine NilC.mk rfl ⟨sl, D22.blk.cell rfl, (D22.rows.arr rF_sized).ix ixk hrow fun b2 off hb2 => ⟨s, hb2, ax.ix rfl (getE hql) fun b3 off hb3 => ⟨_, hb3, c44 D22 (Br.eq (fun c => ?_) fun c => ?_)⟩⟩⟩
        · have hc : cnt (texts ρ') L[q] = 0 := by omega
          refine NilC.mk rfl ⟨sl, D22.blk.cell rfl, (D22.rows.arr rF_sized).ix ixk hrow fun b2 off hb2 => ⟨s, hb2, ax.ix rfl (getE hql) fun b3 off hb3 => ⟨_, hb3, ?_⟩⟩⟩
          refine c94 o22 (by omega) fun s50 h51 o51 e51 n51 => ⟨L.length - (q + 1), by omega, q + 1, by rw [wi64 (by omega) (by omega)]; omega, by omega, ?_, ⟨f22.ext.trans e51, fun b off hb => ?_⟩, rfl⟩
          · rw [htk, List.filter_append]
            have : ([L[q]].filter fun f => cnt (texts ρ') f == 0) = [L[q]] := by simp [hc]
            rw [this, needD_snoc]
            exact o51
          · rcases n51 with n | ⟨b', n, hb'⟩
            · exact f22.new b off (n ▸ hb)
            · rw [n] at hb; cases hb; have := f22.ext.size; omega
        · have hc : ¬ cnt (texts ρ') L[q] = 0 := by omega
          refine ⟨L.length - (q + 1), by omega, q + 1, by rw [wi64 (by omega) (by omega)]; omega, by omega, ?_, f22, rfl⟩
          rw [htk, List.filter_append]
          have : ([L[q]].filter fun f => cnt (texts ρ') f == 0) = [] := by simp [hc]
          rw [this, List.append_nil]
          exact o22
      · have hqe : q = L.length := by omega
        subst hqe
        rw [List.take_length] at o22 hnl hfl
        obtain ⟨n1, n2⟩ := needD_spec (L.filter fun f => cnt (texts ρ') f == 0)
        refine k s L t h22 _ hx D22 (e17.then0 f22.ext) o22 n1 (fun f => ?_) (by omega) fun b off hb => ?_
        · rw [n2, List.mem_filter]; simp
        · have := f22.new _ _ hb; have := e17.size; omega

end Go.V.Yteojmnnobmpdiaa
set_option linter.unusedVariables false
set_option linter.unusedSimpArgs false
/-! The document's Add. -/
namespace Go.V.Yteojmnnobmpdiaa
open Go Go.V Go.V.Snap

/-- The blocks that it writes. -/
def FW (d : Nat) (sl sh : Slc) (b : Nat) : Prop := b = d ∨ inS sl b ∨ inS sh b

theorem c37 {h : Heap} {d : Nat} {sl sh : Slc} {ρ : List ((Slc × List Int) × Bool)} (D : DF h d sl sh ρ) (hl : ρ.length < 4398046511104) {s : Slc} {L : List Int} (a : Arr 1 uF h s L) (hf : (ment (texts ρ)).length + L.length ≤ 1073741824) {R : Int → Heap → Prop}
    (k : ∀ s' sl' sh' h', DF h' d sl' sh' (ρ ++ [((s', L), true)]) → Ext (FW d sl sh) h h' → (∀ b, FB d sl' sh' (ρ ++ [((s', L), true)]) b → FB d sl sh ρ b ∨ h.size ≤ b) → R ((ρ.length : Int) + 1) h') :
    Call Go.Proofs.Try.prog 37 [.lf (.ptr (some (d, 0))), .lf (.slc s)] h [.one (.int .i64)] R := by
  have hd := D.blk.lt
  have sln : ∀ b, inS sl b → b < h.size := fun b ⟨off, hb⟩ => (D.rows.lt _ _ hb).1
  have shn : ∀ b, inS sh b → b < h.size := fun b ⟨off, hb⟩ => (D.held.lt _ _ hb).1
  have hLl : L.length ≤ 1073741824 := by omega
  -- the end
  have fin : ∀ s8 s10 s14 h15, Own 1 uF h15 s8 L → (∀ b, inS s8 b → h.size ≤ b ∧ ¬ inS s10 b ∧ ¬ inS s14 b) → Own 1 rF h15 s10 (ρ.map (·.1) ++ [(s8, L)]) → Own 1 yF h15 s14 (ρ.map (·.2) ++ [true]) → Blk h15 d 76 [.slc sl, .slc sh] → Ext (FW d sl sh) h h15 →
      (s10.a = sl.a ∨ ∃ b, s10.a = some (b, 0) ∧ h.size ≤ b) → (s14.a = sh.a ∨ ∃ b, s14.a = some (b, 0) ∧ h.size ≤ b) → (∀ b, inS s10 b → ¬ inS s14 b) →
      NilC (some (d, 0)) fun b18 b19 => StC h15 b18 (b19 + 0) [.slc s10] fun h20 => NilC (some (d, 0)) fun b21 b22 => StC h20 b21 (b22 + 1) [.slc s14] fun h23 => NilC (some (d, 0)) fun b24 b25 => ∃ s26 : Slc, cellsAt h23 b24 (b25 + 0) [.slc s26] ∧ R (s26.len : Int) h23 := by
    intro s8 s10 s14 h15 o8 n8 o1 o2 kd e15 n1 n2 n3
    have old : ∀ {s s' : Slc} {b : Nat}, (s.a = s'.a ∨ ∃ b, s.a = some (b, 0) ∧ h.size ≤ b) → inS s b → inS s' b ∨ h.size ≤ b := by
      rintro s s' b (n | ⟨b', n, hb'⟩) ⟨off, hb⟩
      · exact .inl ⟨off, n ▸ hb⟩
      · rw [n] at hb; cases hb; exact .inr hb'
    have m1 : ¬ inS s10 d := fun hh => (old n1 hh).elim D.n1 fun x => by omega
    have m2 : ¬ inS s14 d := fun hh => (old n2 hh).elim D.n2 fun x => by omega
    refine NilC.mk rfl (StC.one kd (x := .slc s10) (by simp) fun h18 hs18 k18 e18 => NilC.mk rfl (StC.one k18 (x := .slc s14) (by simp) fun h21 hs21 k21 e21 => NilC.mk rfl ⟨s10, k21.cell rfl, ?_⟩))
    have hlen : (s10.len : Int) = (ρ.length : Int) + 1 := by have := o1.len; simp at this; omega
    rw [hlen]
    have eA : Ext (FW d sl sh) h h21 := (e15.trans (e18.mono fun i x => .inl x)).trans (e21.mono fun i x => .inl x)
    have two : ∀ {α : Type} {f : α → List Lf} {t : Slc} {l : List α}, Own 1 f h15 t l → ¬ inS t d → Own 1 f h21 t l := fun o hn => (o.ext e18 fun ⟨b, off, h1, h2⟩ => hn ⟨off, (show b = d from h2) ▸ h1⟩).ext e21 fun ⟨b, off, h1, h2⟩ => hn ⟨off, (show b = d from h2) ▸ h1⟩
    refine k s8 s10 s14 h21 ⟨by simpa using k21, ?_, ?_, fun x hx => ?_, m1, m2, n3, by simp; omega, by rw [texts_snoc, ment_snoc, List.length_append]; exact hf, fun x hx => ?_⟩ eA ?_
    · simpa using two o1 m1
    · simpa using two o2 m2
    · rcases List.mem_append.1 hx with hx | hx
      · obtain ⟨h1, h2⟩ := D.arr x hx
        refine ⟨h1.ext eA fun ⟨b, off, g1, g2⟩ => ?_, fun b off hb => ?_⟩
        · obtain ⟨q1, q2, q3, q4⟩ := h2 b off g1
          exact g2.elim q1 fun z => z.elim q2 q3
        · obtain ⟨q1, q2, q3, q4⟩ := h2 b off hb
          have := eA.size
          exact ⟨q1, fun z => (old n1 z).elim q2 fun w => by omega, fun z => (old n2 z).elim q3 fun w => by omega, by omega⟩
      · simp at hx
        subst hx
        have hnd : ¬ inS s8 d := fun z => by have := (n8 d z).1; omega
        refine ⟨(two o8 hnd).arr uF_sized, fun b off hb => ?_⟩
        have hb' : inS s8 b := ⟨off, hb⟩
        obtain ⟨q1, q2, q3⟩ := n8 b hb'
        exact ⟨fun z => hnd (z ▸ hb'), q2, q3, ((two o8 hnd).lt _ _ hb).1⟩
    · rcases List.mem_append.1 hx with hx | hx
      · exact D.each x hx
      · simp at hx; subst hx; exact hLl
    · rintro b (rfl | hb | hb | ⟨x, hx, hb⟩)
      · exact .inl (.inl rfl)
      · exact (old n1 hb).imp (fun z => .inr (.inl z)) id
      · exact (old n2 hb).imp (fun z => .inr (.inr (.inl z))) id
      · rcases List.mem_append.1 hx with hx | hx
        · exact .inl (.inr (.inr (.inr ⟨x, hx, hb⟩)))
        · simp at hx; subst hx; exact .inr (n8 b hb).1
  -- the copy
  have cpy : ∀ hX b, Ext0 h hX → h.size ≤ b → Blk hX b 22 [] → ∀ K : Slc → Heap → Prop, (∀ s8 hY, Own 1 uF hY s8 L → Ext0 h hY → (∀ b, inS s8 b → h.size ≤ b) → Ext (fun i => i = b) hX hY → K s8 hY) → AppC 22 [.int .u64 0] 1 8 ⟨some (b, 0), 0, 0⟩ s hX K := by
    intro hX b eX hb kb K hK
    have o : Own 1 uF hX ⟨some (b, 0), 0, 0⟩ ([] : List Int) := Own.new (l := ([] : List Int)) (sz := 1) (f := uF) uF_sized (by simpa using kb)
    refine AppC.grow uF_sized (by omega) rfl o (a.ext0 eX) (by simp; omega) fun s8 hY o8 g8 => hK s8 hY (by simpa using o8) (eX.trans' g8.ext fun i hi ⟨off, z⟩ => by cases z; omega) ?_ (g8.ext.mono fun i ⟨off, z⟩ => by cases z; rfl)
    rintro b' ⟨off, hb'⟩
    rcases g8.new with n | ⟨b'', n, hb''⟩
    · rw [n] at hb'; cases hb'; exact hb
    · rw [n] at hb'; cases hb'; have := eX.size; omega
  -- the row
  have row : ∀ s8 hX b, Ext0 h hX → Own 1 uF hX s8 L → (∀ b, inS s8 b → h.size ≤ b) → Blk hX b 77 [.slc s8] → ∀ K : Slc → Heap → Prop,
      (∀ s10 hY, Own 1 rF hY s10 (ρ.map (·.1) ++ [(s8, L)]) → Own 1 uF hY s8 L → (∀ b, inS s8 b → ¬ inS s10 b) → Blk hY d 76 [.slc sl, .slc sh] → Own 1 yF hY sh (ρ.map (·.2)) → Ext (FW d sl sh) h hY → (s10.a = sl.a ∨ ∃ b, s10.a = some (b, 0) ∧ h.size ≤ b) → Ext (inS sl) hX hY → K s10 hY) →
      AppC 77 [.slc ⟨none, 0, 0⟩] 1 24 sl ⟨some (b, 0), 1, 1⟩ hX K := by
    intro s8 hX b eX o8 n8 kb K hK
    refine AppC.grow rF_sized (by omega) rfl (D.rows.ext0 eX) ((Own.new (l := [(s8, L)]) (sz := 1) (f := rF) rF_sized (by simpa [rF] using kb)).arr rF_sized) (by simp; omega) fun s10 hY o10 g10 => ?_
    have nw : s10.a = sl.a ∨ ∃ b, s10.a = some (b, 0) ∧ h.size ≤ b := g10.new.imp id fun ⟨b, x, y⟩ => ⟨b, x, Nat.le_trans eX.size y⟩
    refine hK s10 hY o10 (o8.ext g10.ext fun ⟨b', off, h1, h2⟩ => by have := n8 b' ⟨off, h1⟩; have := sln b' h2; omega) ?_ ((D.blk.ext eX).ext g10.ext D.n1) ((D.held.ext0 eX).ext g10.ext fun ⟨b', off, h1, h2⟩ => D.n3 b' h2 ⟨off, h1⟩) (eX.of0.trans (g10.ext.mono fun i x => .inr (.inl x))) nw g10.ext
    rintro b' hb8 ⟨off, hb⟩
    rcases g10.new with n | ⟨b'', n, hb''⟩
    · have := sln b' ⟨off, n ▸ hb⟩; have := n8 b' hb8; omega
    · rw [n] at hb; cases hb
      obtain ⟨off8, h8⟩ := hb8
      have := (o8.lt _ _ h8).1; omega
  -- the mark, and the end
  have mark : ∀ s8 s10 hX b, Own 1 rF hX s10 (ρ.map (·.1) ++ [(s8, L)]) → Own 1 uF hX s8 L → (∀ b, inS s8 b → h.size ≤ b) → (∀ b, inS s8 b → ¬ inS s10 b) → Blk hX d 76 [.slc sl, .slc sh] → Own 1 yF hX sh (ρ.map (·.2)) → Ext (FW d sl sh) h hX → (s10.a = sl.a ∨ ∃ b, s10.a = some (b, 0) ∧ h.size ≤ b) → Blk hX b 4 [.bool true] →
      AppC 4 [.bool false] 1 1 sh ⟨some (b, 0), 1, 1⟩ hX fun s14 h15 => NilC (some (d, 0)) fun b18 b19 => StC h15 b18 (b19 + 0) [.slc s10] fun h20 => NilC (some (d, 0)) fun b21 b22 => StC h20 b21 (b22 + 1) [.slc s14] fun h23 => NilC (some (d, 0)) fun b24 b25 => ∃ s26 : Slc, cellsAt h23 b24 (b25 + 0) [.slc s26] ∧ R (s26.len : Int) h23 := by
    intro s8 s10 hX b o10 o8 n8 n80 kd oh eX nw kb
    refine AppC.grow yF_sized (by omega) rfl oh ((Own.new (l := [true]) (sz := 1) (f := yF) yF_sized (by simpa [yF] using kb)).arr yF_sized) (by simp; omega) fun s14 h15 o14 g14 => ?_
    have sep : ∀ b, inS s10 b → ¬ inS sh b := by
      rintro b' ⟨off, hb⟩ h2
      rcases nw with n | ⟨b'', n, hb''⟩
      · exact D.n3 b' ⟨off, n ▸ hb⟩ h2
      · rw [n] at hb; cases hb; have := shn _ h2; omega
    have fresh : ∀ {α : Type} {f : α → List Lf} {t : Slc} {l : List α}, Own 1 f hX t l → (∀ b, inS t b → ¬ inS sh b) → ∀ b, inS t b → ¬ inS s14 b := by
      rintro α f t l ot ht b' ⟨off, hb⟩ ⟨off', hb'⟩
      rcases g14.new with n | ⟨b'', n, hb''⟩
      · exact ht b' ⟨off, hb⟩ ⟨off', n ▸ hb'⟩
      · rw [n] at hb'; cases hb'; have := (ot.lt _ _ hb).1; omega
    have s8h : ∀ b, inS s8 b → ¬ inS sh b := fun b' z w => by have := n8 b' z; have := shn b' w; omega
    exact fin s8 s10 s14 h15 (o8.ext g14.ext fun ⟨b', off, h1, h2⟩ => s8h b' ⟨off, h1⟩ h2) (fun b' z => ⟨n8 b' z, n80 b' z, fresh o8 s8h b' z⟩) (o10.ext g14.ext fun ⟨b', off, h1, h2⟩ => sep b' ⟨off, h1⟩ h2) o14 (kd.ext g14.ext D.n2) (eX.trans (g14.ext.mono fun i x => .inr (.inr x))) nw
      (g14.new.imp id fun ⟨b, x, y⟩ => ⟨b, x, Nat.le_trans eX.size y⟩) (fresh o10 sep)
  have c0 : ∀ {hX : Heap}, Ext0 h hX → cellsAt hX d 0 [.slc sl] ∧ cellsAt hX d 1 [.slc sh] := fun e => ⟨(D.blk.ext e).cell rfl, (D.blk.ext e).cell rfl⟩
  refine ok37 (NilC.mk rfl ⟨sl, D.blk.cell rfl, NilC.mk rfl ⟨sh, D.blk.cell rfl, ?_, ?_⟩⟩)
  · refine New.mk fun b6 h7 hb6 hs7 e7 k7 => ⟨(c0 e7).2, (c0 e7).1, ?_, ?_⟩
    · refine cpy h7 b6 e7 (by omega) k7 _ fun s8 h9 o8 e9 n8 _ => ⟨(c0 e9).2, (c0 e9).1, ?_, ?_⟩
      · refine New.mk fun b10 h11 hb10 hs11 e11 k11 => ⟨(c0 (e9.trans e11)).2, (c0 (e9.trans e11)).1, ?_, ?_⟩
        · refine row s8 h11 b10 (e9.trans e11) (o8.ext0 e11) n8 k11 _ fun s12 h13 o12 o8' n80 kd oh eX nw _ => ⟨kd.cell rfl, New.mk fun b14 h15 hb14 hs15 e15 k15 => ⟨(kd.ext e15).cell rfl, ?_⟩⟩
          exact mark s8 s12 h15 b14 (o12.ext0 e15) (o8'.ext0 e15) n8 n80 (kd.ext e15) (oh.ext0 e15) (eX.then0 e15) nw k15
        · refine New.mk fun b27 h28 hb27 hs28 e28 k28 => ⟨(c0 ((e9.trans e11).trans e28)).2, (c0 ((e9.trans e11).trans e28)).1, ?_⟩
          refine row s8 h28 b10 ((e9.trans e11).trans e28) ((o8.ext0 e11).ext0 e28) n8 (k11.ext e28) _ fun s29 h30 o29 o8' n80 kd oh eX nw ex => ⟨kd.cell rfl, ?_⟩
          exact mark s8 s29 h30 b27 o29 o8' n8 n80 kd oh eX nw (k28.ext ex fun z => by have := sln _ z; have := e9.size; have := e11.size; omega)
      · refine New.mk fun b42 h43 hb42 hs43 e43 k43 => ⟨(c0 (e9.trans e43)).2, (c0 (e9.trans e43)).1, New.mk fun b44 h45 hb44 hs45 e45 k45 => ⟨(c0 ((e9.trans e43).trans e45)).2, (c0 ((e9.trans e43).trans e45)).1, ?_⟩⟩
        refine row s8 h45 b44 ((e9.trans e43).trans e45) ((o8.ext0 e43).ext0 e45) n8 k45 _ fun s46 h47 o46 o8' n80 kd oh eX nw ex => ⟨kd.cell rfl, ?_⟩
        exact mark s8 s46 h47 b42 o46 o8' n8 n80 kd oh eX nw ((k43.ext e45).ext ex fun z => by have := sln _ z; have := e9.size; omega)
    · refine New.mk fun b59 h60 hb59 hs60 e60 k60 => ⟨(c0 (e7.trans e60)).2, (c0 (e7.trans e60)).1, ?_⟩
      refine cpy h60 b6 (e7.trans e60) (by omega) (k7.ext e60) _ fun s61 h62 o61 e62 n61 ex => ⟨(c0 e62).2, (c0 e62).1, New.mk fun b63 h64 hb63 hs64 e64 k64 => ⟨(c0 (e62.trans e64)).2, (c0 (e62.trans e64)).1, ?_⟩⟩
      refine row s61 h64 b63 (e62.trans e64) (o61.ext0 e64) n61 k64 _ fun s65 h66 o65 o8' n80 kd oh eX nw ex2 => ⟨kd.cell rfl, ?_⟩
      exact mark s61 s65 h66 b59 o65 o8' n61 n80 kd oh eX nw (((k60.ext ex fun z => by have : b59 = b6 := z; omega).ext e64).ext ex2 fun z => by have := sln _ z; have := e7.size; omega)
  · refine New.mk fun b78 h79 hb78 hs79 e79 k79 => ⟨(c0 e79).2, (c0 e79).1, New.mk fun b80 h81 hb80 hs81 e81 k81 => ⟨(c0 (e79.trans e81)).2, (c0 (e79.trans e81)).1, ?_⟩⟩
    refine cpy h81 b80 (e79.trans e81) (by omega) k81 _ fun s82 h83 o82 e83 n82 ex => ⟨(c0 e83).2, (c0 e83).1, New.mk fun b84 h85 hb84 hs85 e85 k85 => ⟨(c0 (e83.trans e85)).2, (c0 (e83.trans e85)).1, ?_⟩⟩
    refine row s82 h85 b84 (e83.trans e85) (o82.ext0 e85) n82 k85 _ fun s86 h87 o86 o8' n80 kd oh eX nw ex2 => ⟨kd.cell rfl, ?_⟩
    exact mark s82 s86 h87 b78 o86 o8' n82 n80 kd oh eX nw ((((k79.ext e81).ext ex fun z => by have : b78 = b80 := z; omega).ext e85).ext ex2 fun z => by have := sln _ z; omega)

end Go.V.Yteojmnnobmpdiaa
