/- This text proves a part of the laws of seat YtdeihieblljfcaaDoor, under no condition: S2g. -/
import Derived.Test.YtdeihieblljfcaaDoorSN
set_option linter.unusedVariables false
set_option linter.unusedSimpArgs false
/-! A line's words, by the library. -/
namespace Go.V.YtdeihieblljfcaaDoor
open Go Go.V Go.Lib Go.Proofs

theorem xor_neg {i : Int} (h0 : 0 ≤ i) (h1 : i ≤ 9223372036854775807) : bitop IntKind.i64 BinOp.xor (if Bool.true = Bool.true then (-1 : Int) else IntKind.max IntKind.i64) i < 0 := by
  rw [if_pos rfl]
  unfold bitop
  have hb : BitVec.ofInt (IntKind.bits .i64) (-1) ^^^ BitVec.ofInt (IntKind.bits .i64) i = ~~~ (BitVec.ofInt (IntKind.bits .i64) i) := by
    show BitVec.ofInt 64 (-1) ^^^ BitVec.ofInt 64 i = ~~~ (BitVec.ofInt 64 i)
    rw [show BitVec.ofInt 64 (-1) = BitVec.allOnes 64 by decide, BitVec.allOnes_xor]
  show IntKind.wrap .i64 ((BitVec.ofInt (IntKind.bits .i64) (-1) ^^^ BitVec.ofInt (IntKind.bits .i64) i).toNat : Int) < 0
  rw [hb]
  show IntKind.wrap .i64 ((~~~ (BitVec.ofInt 64 i)).toNat : Int) < 0
  obtain ⟨n, rfl⟩ := Int.eq_ofNat_of_zero_le h0
  have hn : (BitVec.ofInt 64 (n : Int)).toNat = n := by
    rw [BitVec.ofInt_natCast, BitVec.toNat_ofNat]
    exact Nat.mod_eq_of_lt (by omega)
  rw [BitVec.toNat_not, hn, IntKind.wrap_i64]
  omega

theorem c45 {l : Tx} (hl : l.length ≤ 131072) {h : Heap} {R : Slc → Heap → Prop} (k : ∀ s h', Arr 1 sF h' s (words l) → Fresh h h' s → s.len ≤ s.cap → R s h') :
    Call Tryd.prog 45 [.lf (.str (tx l)), .lf (.raw (.func (.func 46) #[] #[]))] h [.one .slc] R := by
  refine ok45 (MkC.zero (α := Nat × Nat) (f := spF) rfl (n := 32) rfl rfl (by omega) (by omega) fun s0 h1 o0 f0 hs1 ha0 => ?_)
  intro b2 h3 hb2 hh3
  have e3 : Ext0 h1 h3 := hh3 ▸ push_ext h1 _
  have hit : h3[b2]? = some (.stringIter (tx l) 0) := by subst hh3; subst hb2; simp
  have hb2s : b2 < h3.size := size_pos_of_getElem? hit
  have hb2h : h.size < b2 := by omega
  refine ⟨fun s i hh b => ∃ (S : List (Nat × Nat)) (q p : Nat), Own 2 spF hh s S ∧ Fresh h hh s ∧ hh[b2]? = some (.stringIter (tx l) p) ∧ (∀ off, s.a ≠ some (b2, off)) ∧ p ≤ l.length ∧ ((i < 0 ∧ q = p) ∨ (i = q ∧ q < p)) ∧
      S.map (fun a => seg l a.1 a.2) ++ wordsA (seg l q p) (l.drop p) = words l ∧ S.length ≤ p ∧ (∀ a ∈ S, a.1 ≤ a.2 ∧ a.2 ≤ l.length) ∧ b = l.length - p,
    ⟨_, [], 0, 0, o0.ext0 e3, f0.ext0 e3, hit, fun off x => by rw [ha0] at x; cases x; omega, by omega, .inl ⟨by omega, rfl⟩, by rw [seg_self]; rfl, by simp, by simp, rfl⟩, ?_⟩
  rintro s i hh _ ⟨S, q, p, o, fr, hb, hsb, hp, hi, hw, hS, hSa, rfl⟩
  have hbsz : b2 < hh.size := size_pos_of_getElem? hb
  refine ⟨tx l, p, hb, fun hge => ?_, fun hlt h38 hh38 => ?_⟩
  · -- at the end
    rw [tx_size] at hge
    obtain rfl : p = l.length := by omega
    rw [wordsA_end (Nat.le_refl _)] at hw
    refine ⟨fun s' hh' => ∃ S', Own 2 spF hh' s' S' ∧ Fresh h hh' s' ∧ S'.map (fun a => seg l a.1 a.2) = words l ∧ S'.length ≤ l.length + 1 ∧ (∀ a ∈ S', a.1 ≤ a.2 ∧ a.2 ≤ l.length), Br.dec (fun h0 => ?_) fun h0 => ?_, ?_⟩
    · rcases hi with ⟨hi, _⟩ | ⟨rfl, hq⟩
      · omega
      rw [if_neg (fun x => by have := (seg_nil (Nat.le_refl _) (by omega)).1 x; omega)] at hw
      refine New.mk fun b12 h13 hb12 hs13 e13 k13 => ?_
      rw [tx_size] at k13
      have o13 : Own 2 spF h13 ⟨some (b12, 0), 1, 1⟩ [(q, l.length)] := Own.new spF_sized (l := [(q, l.length)]) k13
      refine AppC.grow spF_sized (by decide) rfl (o.ext0 e13) (o13.arr spF_sized) (by simp; omega) fun s14 h15 o15 g15 => ⟨S ++ [(q, l.length)], o15, (fr.ext0 e13).grow g15, ?_, ?_, ?_⟩
      · rw [List.map_append]; exact hw
      · simp; omega
      · intro a ha
        rcases List.mem_append.1 ha with ha | ha
        · exact hSa a ha
        · rw [List.mem_singleton] at ha; subst ha; exact ⟨by omega, Nat.le_refl _⟩
    · rcases hi with ⟨hi, rfl⟩ | ⟨rfl, hq⟩
      · rw [seg_self, if_pos rfl, List.append_nil] at hw
        exact ⟨S, o, fr, hw, by omega, hSa⟩
      · omega
    rintro s16 h17 ⟨S', o16, f16, hw', hS', hSa'⟩
    have hl16 := o16.len
    refine MkC.own sF_sized (z := []) rfl (n := S'.length) (by omega) (by omega) (by omega) (by omega) fun s18 h19 o18 ha18 e19 => ?_
    have hlt16 : ∀ off, s16.a ≠ some (h17.size, off) := fun off x => by have := (o16.lt _ _ x).1; omega
    have f18 : Fresh h h19 s18 := ⟨f16.ext.trans e19, fun b off hx => by rw [ha18] at hx; cases hx; exact f16.ext.size⟩
    refine ⟨fun i hh b => ∃ j : Nat, i = j ∧ j ≤ S'.length ∧ Own 1 sF hh s18 ((S'.map fun (a : Nat × Nat) => seg l a.1 a.2).take j ++ List.replicate (S'.length - j) []) ∧ Own 2 spF hh s16 S' ∧ Fresh h hh s18 ∧ h17.size < hh.size ∧ b = S'.length - j,
      ⟨_, 0, rfl, by omega, by simpa using o18, o16.ext0 e19, f18, by have := (o18.lt _ _ ha18).1; omega, rfl⟩, ?_⟩
    rintro _ h23 _ ⟨j, rfl, hj, oj, o6, fj, hsz, rfl⟩
    refine Br.dec (fun hlt => ?_) fun hge => ?_
    · have hjl : j < S'.length := by omega
      refine (o6.arr spF_sized).ix rfl (List.getElem?_eq_getElem hjl) fun b off hb => ?_
      have hm := hSa' _ (List.getElem_mem hjl)
      refine ⟨_, _, hb, New.mk fun b29 h30 hb29 hs30 e30 k30 => Set.mk fun h31 hs31 e31 k31 => ?_⟩
      have e31' : Ext0 h23 h31 := e30.trans' e31 fun i hi x => by subst x; omega
      refine ⟨by omega, by rw [tx_size]; omega, by omega, by omega, ?_⟩
      rw [show (S'[j].1 : Int).toNat = S'[j].1 from rfl, show (S'[j].2 : Int).toNat = S'[j].2 from rfl, tx_extract]
      have oj' := oj.ext0 e31'
      have hlen : ((S'.map fun (a : Nat × Nat) => seg l a.1 a.2).take j ++ List.replicate (S'.length - j) []).length = S'.length := by simp; omega
      refine IxC.set sF_sized oj' rfl (by rw [hlen]; exact hjl) (x := seg l S'[j].1 S'[j].2) rfl fun h34 hs34 o34 e34 => ⟨e34.keep (by omega) (by rintro ⟨off, x⟩; rw [ha18] at x; cases x; omega), S'.length - (j + 1), by omega, j + 1, by rw [wi64 (by omega) (by omega)]; omega, by omega, ?_, (o6.ext0 e31').ext e34 ?_, ?_, by omega, rfl⟩
      · have : ((S'.map fun (a : Nat × Nat) => seg l a.1 a.2).take j ++ List.replicate (S'.length - j) []).set j (seg l S'[j].1 S'[j].2) = (S'.map fun (a : Nat × Nat) => seg l a.1 a.2).take (j + 1) ++ List.replicate (S'.length - (j + 1)) [] := by
          have h1 : j < (S'.map fun (a : Nat × Nat) => seg l a.1 a.2).length := by simpa using hjl
          rw [List.take_succ_eq_append_getElem h1, List.getElem_map, List.set_append]
          have h2 : ((S'.map fun (a : Nat × Nat) => seg l a.1 a.2).take j).length = j := by rw [List.length_take]; omega
          rw [if_neg (by omega), h2, Nat.sub_self]
          rw [show S'.length - j = S'.length - (j + 1) + 1 by omega, List.replicate_succ, List.set_cons_zero, List.append_assoc]
          rfl
        rw [this] at o34
        exact o34
      · rintro ⟨b', off', x, off, y⟩
        rw [ha18] at y
        cases y
        exact hlt16 _ x
      · exact ⟨(fj.ext.trans e31').trans' e34 fun i hi ⟨off, x⟩ => by rw [ha18] at x; cases x; have := f16.ext.size; omega, fj.new⟩
    · obtain rfl : j = S'.length := by omega
      rw [Nat.sub_self, List.replicate_zero, List.append_nil, List.take_of_length_le (by simp), hw'] at oj
      exact k s18 h23 (oj.arr sF_sized) fj oj.lec
  · rw [tx_size] at hlt
    obtain ⟨d1, d2, d3, d4⟩ := dec_spec hlt
    have e38 : Ext (fun x => x = b2) hh h38 := hh38 ▸ set_ext hh b2 _
    have hb38 : h38[b2]? = some (.stringIter (tx l) (p + decW (tx l) p)) := by subst hh38; simp [hbsz]
    have o38 : Own 2 spF h38 s S := o.ext e38 fun ⟨b, off, x, y⟩ => by subst y; exact hsb off x
    have f38 : Fresh h h38 s := ⟨fr.ext.trans' e38 fun i hi x => by subst x; omega, fr.new⟩
    refine v46 (Br.eq (fun hr => ?_) fun hr => ?_)
    · have hc : l[p] = 32 := Classical.byContradiction fun x => (d4 x).1 hr
      have hw1 := (d3 hc).2
      rw [hw1] at hb38 d1
      refine Br.dec (fun h0 => ?_) fun h0 => ?_
      · rcases hi with ⟨hi, _⟩ | ⟨rfl, hq⟩
        · omega
        rw [wordsA_sp hlt hc, if_neg (fun x => by have := (seg_nil (by omega) (by omega)).1 x; omega)] at hw
        refine New.mk fun b41 h42 hb41 hs42 e42 k42 => ?_
        have o42 : Own 2 spF h42 ⟨some (b41, 0), 1, 1⟩ [(q, p)] := Own.new spF_sized (l := [(q, p)]) k42
        refine AppC.grow spF_sized (by decide) rfl (o38.ext0 e42) (o42.arr spF_sized) (by simp; omega) fun s43 h44 o44 g44 => ⟨l.length - (p + 1), by omega, S ++ [(q, p)], p + 1, p + 1, o44, (f38.ext0 e42).grow g44, ?_, ?_, by omega, .inl ⟨xor_neg (by omega) (by omega), rfl⟩, ?_, ?_, ?_, rfl⟩
        · have hb42 : h42[b2]? = _ := (e42.same b2 (size_pos_of_getElem? hb38) id).trans hb38
          exact (g44.ext.same b2 (size_pos_of_getElem? hb42) fun ⟨off, x⟩ => hsb off x).trans hb42
        · intro off x
          rcases g44.new with y | ⟨b, y, z⟩
          · rw [y] at x; exact hsb off x
          · rw [y] at x; cases x; have := size_pos_of_getElem? hb38; have := e42.size; omega
        · rw [seg_self, List.map_append, List.append_assoc]; exact hw
        · simp; omega
        · intro a ha
          rcases List.mem_append.1 ha with ha | ha
          · exact hSa a ha
          · rw [List.mem_singleton] at ha; subst ha; exact ⟨by omega, by omega⟩
      · rcases hi with ⟨hi, rfl⟩ | ⟨rfl, hq⟩
        · rw [wordsA_sp hlt hc, seg_self, if_pos rfl] at hw
          exact ⟨l.length - (q + 1), by omega, S, q + 1, q + 1, o38, f38, hb38, hsb, by omega, .inl ⟨hi, rfl⟩, by rw [seg_self]; exact hw, by omega, hSa, rfl⟩
        · omega
    · have hc : l[p] ≠ 32 := fun x => hr (d3 x).1
      have hst := fun (hq : q ≤ p) => wordsA_steps (l := l) (q := q) hq (decW (tx l) p) d1 fun j hj h1 h2 => (d4 hc).2 j hj h1 h2
      refine Br.dec (fun h0 => ?_) fun h0 => ?_
      · rcases hi with ⟨hi, rfl⟩ | ⟨rfl, hq⟩
        · rw [hst (Nat.le_refl _)] at hw
          exact ⟨l.length - (q + decW (tx l) q), by omega, S, q, q + decW (tx l) q, o38, f38, hb38, hsb, by omega, .inr ⟨rfl, by omega⟩, hw, by omega, hSa, rfl⟩
        · omega
      · rcases hi with ⟨hi, rfl⟩ | ⟨rfl, hq⟩
        · omega
        · rw [hst (by omega)] at hw
          exact ⟨l.length - (p + decW (tx l) p), by omega, S, q, p + decW (tx l) p, o38, f38, hb38, hsb, by omega, .inr ⟨rfl, by omega⟩, hw, by omega, hSa, rfl⟩

end Go.V.YtdeihieblljfcaaDoor
