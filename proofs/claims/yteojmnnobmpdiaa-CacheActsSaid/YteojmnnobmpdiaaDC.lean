/- This text proves a part of the laws of seat Yteojmnnobmpdiaa, under no condition: D11e D11f D11g. -/
import Derived.Test.YteojmnnobmpdiaaDB
import Derived.Test.YteojmnnobmpdiaaCE
set_option linter.unusedVariables false
set_option linter.unusedSimpArgs false
/-! The document's cache: New, Put. -/
namespace Go.V.Yteojmnnobmpdiaa
open Go Go.V

/-- The document's cache in memory, behind at most m calls; F: its blocks. -/
def DW (F : Nat → Prop) (h : Heap) (m c : Nat) (σ : CS) : Prop := ∃ lab V, DR h lab c V σ ∧ Inv m σ ∧ ∀ y, lab y ≠ none ↔ F y

theorem DW.inv {F : Nat → Prop} {h : Heap} {m c : Nat} {σ : CS} (w : DW F h m c σ) : Inv m σ := let ⟨_, _, _, I, _⟩ := w; I
theorem DW.n {F : Nat → Prop} {h : Heap} {m c : Nat} {σ : CS} (w : DW F h m c σ) : 1 ≤ σ.sh.length ∧ σ.sh.length ≤ 64 ∧ 0 ≤ σ.room ∧ σ.room ≤ big := let ⟨_, _, D, _, _⟩ := w; ⟨D.n0, D.n1, D.r0, D.r1⟩
theorem DW.ext {F S : Nat → Prop} {h h' : Heap} {m c : Nat} {σ : CS} (w : DW F h m c σ) (e : Ext S h h') (hs : ∀ y, F y → ¬ S y) : DW F h' m c σ := by
  obtain ⟨lab, V, D, I, hF⟩ := w
  exact ⟨lab, V, D.ext e fun x l hl => hs x ((hF x).1 (by rw [hl]; simp)), I, hF⟩
theorem DW.ext0 {F : Nat → Prop} {h h' : Heap} {m c : Nat} {σ : CS} (w : DW F h m c σ) (e : Ext0 h h') : DW F h' m c σ := w.ext e fun _ _ k => k
theorem DW.mono {F : Nat → Prop} {h : Heap} {m m' c : Nat} {σ : CS} (w : DW F h m c σ) (hm : m ≤ m') : DW F h m' c σ := by
  obtain ⟨lab, V, D, I, hF⟩ := w
  exact ⟨lab, V, D, I.mono hm, hF⟩
theorem DW.lt {F : Nat → Prop} {h : Heap} {m c : Nat} {σ : CS} (w : DW F h m c σ) : ∀ y, F y → y < h.size := by
  obtain ⟨lab, V, D, I, hF⟩ := w
  exact fun y hy => D.lt y ((hF y).2 hy)
theorem DW.sh {F : Nat → Prop} {h : Heap} {m c : Nat} {σ : CS} (w : DW F h m c σ) (key : ByteArray) : ∃ s, σ.sh[shardOf σ.sh.length key]? = some s := ⟨_, List.getElem?_eq_getElem (shardOf_lt w.n.1 key)⟩

/-- What a step leaves, told short. -/
theorem DW.step {F : Nat → Prop} {h h' : Heap} {m' c : Nat} {σ' : CS} {lab lab' : Nat → Option DL} {V' : DV} (hF : ∀ y, lab y ≠ none ↔ F y) (D : DR h' lab' c V' σ') (I : Inv m' σ') (g : Grw lab lab' h) (e : Ext (fun y => lab y ≠ none) h h') :
    DW (fun y => lab' y ≠ none) h' m' c σ' ∧ Stp F h (fun y => lab' y ≠ none) h' :=
  ⟨⟨lab', V', D, I, fun _ => Iff.rfl⟩, ⟨e.mono fun y hy => (hF y).1 hy, fun y hy => (g.new y hy).imp (hF y).1 id⟩⟩

/-- append(append([]*Item{}, l...), x), in any order. -/
theorem app2 {h : Heap} {rl : Slc} {l : List Nat} {x : Nat} (a : Arr 1 pF h rl l) (hl : l.length ≤ 4398046511104) {A B C : Heap → Prop} (hA : ∀ h', Ext0 h h' → A h') (hB : ∀ h', Ext0 h h' → B h') (hC : ∀ h', Ext0 h h' → C h') {T : Slc → Heap → Prop}
    (k : ∀ s h', Own 1 pF h' s (l ++ [x]) → Fresh h h' s → T s h') :
    (New 134 [] h fun b h1 => A h1 ∧ B h1 ∧ C h1 ∧ ((AppC 134 [.ptr none] 1 8 ⟨some (b, 0), 0, 0⟩ rl h1 fun s h2 => C h2 ∧ New 134 [.ptr (some (x, 0))] h2 fun b' h3 => C h3 ∧ AppC 134 [.ptr none] 1 8 s ⟨some (b', 0), 1, 1⟩ h3 fun s' h4 => C h4 ∧ T s' h4) ∧
      New 134 [.ptr (some (x, 0))] h1 fun b' h2 => A h2 ∧ B h2 ∧ C h2 ∧ AppC 134 [.ptr none] 1 8 ⟨some (b, 0), 0, 0⟩ rl h2 fun s h3 => C h3 ∧ AppC 134 [.ptr none] 1 8 s ⟨some (b', 0), 1, 1⟩ h3 fun s' h4 => C h4 ∧ T s' h4)) ∧
    New 134 [.ptr (some (x, 0))] h fun b' h1 => A h1 ∧ B h1 ∧ C h1 ∧ New 134 [] h1 fun b h2 => A h2 ∧ B h2 ∧ C h2 ∧ AppC 134 [.ptr none] 1 8 ⟨some (b, 0), 0, 0⟩ rl h2 fun s h3 => C h3 ∧ AppC 134 [.ptr none] 1 8 s ⟨some (b', 0), 1, 1⟩ h3 fun s' h4 => C h4 ∧ T s' h4 := by
  refine ⟨New.mk fun b h1 hb hs1 e1 k1 => ⟨hA _ e1, hB _ e1, hC _ e1, ?_, ?_⟩, New.mk fun b' h1 hb hs1 e1 k1 => ⟨hA _ e1, hB _ e1, hC _ e1, ?_⟩⟩
  · have o1 : Own 1 pF h1 ⟨some (b, 0), 0, 0⟩ ([] : List Nat) := Own.new (l := []) pF_sized k1
    have f1 : Fresh h h1 ⟨some (b, 0), 0, 0⟩ := ⟨e1, fun _ _ hh => by cases hh; omega⟩
    refine AppC.grow pF_sized (by decide) rfl o1 (a.ext0 e1) (by simp; omega) fun s h2 o2 g2 => ?_
    have f2 := f1.grow g2
    refine ⟨hC _ f2.ext, New.mk fun b' h3 hb3 hs3 e3 k3 => ⟨hC _ (f2.ext.trans e3), ?_⟩⟩
    refine AppC.grow pF_sized (by decide) rfl (o2.ext0 e3) ((Own.new (l := [x]) pF_sized k3).arr pF_sized) (by simp; omega) fun s' h4 o4 g4 => ?_
    have f4 := (f2.ext0 e3).grow g4
    exact ⟨hC _ f4.ext, k s' h4 (by simpa using o4) f4⟩
  · refine New.mk fun b' h2 hb2 hs2 e2 k2 => ⟨hA _ (e1.trans e2), hB _ (e1.trans e2), hC _ (e1.trans e2), ?_⟩
    have o1 : Own 1 pF h1 ⟨some (b, 0), 0, 0⟩ ([] : List Nat) := Own.new (l := []) pF_sized k1
    have f2 : Fresh h h2 ⟨some (b, 0), 0, 0⟩ := ⟨e1.trans e2, fun _ _ hh => by cases hh; omega⟩
    refine AppC.grow pF_sized (by decide) rfl (o1.ext0 e2) (a.ext0 (e1.trans e2)) (by simp; omega) fun s h3 o3 g3 => ?_
    have f3 := f2.grow g3
    have hbb : ∀ o, (⟨some (b, 0), 0, 0⟩ : Slc).a ≠ some (b', o) := fun o hh => by cases hh; omega
    have k3 : Blk h3 b' 134 ([x].flatMap pF) := Blk.ext (cs := [x].flatMap pF) k2 g3.ext fun ⟨o, hh⟩ => hbb o hh
    refine ⟨hC _ f3.ext, AppC.grow pF_sized (by decide) rfl o3 ((Own.new (l := [x]) pF_sized k3).arr pF_sized) (by simp; omega) fun s' h4 o4 g4 => ?_⟩
    have f4 := f3.grow g4
    exact ⟨hC _ f4.ext, k s' h4 (by simpa using o4) f4⟩
  · refine New.mk fun b h2 hb2 hs2 e2 k2 => ⟨hA _ (e1.trans e2), hB _ (e1.trans e2), hC _ (e1.trans e2), ?_⟩
    have o2 : Own 1 pF h2 ⟨some (b, 0), 0, 0⟩ ([] : List Nat) := Own.new (l := []) pF_sized k2
    have f2 : Fresh h h2 ⟨some (b, 0), 0, 0⟩ := ⟨e1.trans e2, fun _ _ hh => by cases hh; omega⟩
    refine AppC.grow pF_sized (by decide) rfl o2 (a.ext0 (e1.trans e2)) (by simp; omega) fun s h3 o3 g3 => ?_
    have f3 := f2.grow g3
    have hbb : ∀ o, (⟨some (b, 0), 0, 0⟩ : Slc).a ≠ some (b', o) := fun o hh => by cases hh; omega
    have k1' : Blk h1 b' 134 ([x].flatMap pF) := k1
    have k3 : Blk h3 b' 134 ([x].flatMap pF) := (k1'.ext e2).ext g3.ext fun ⟨o, hh⟩ => hbb o hh
    refine ⟨hC _ f3.ext, AppC.grow pF_sized (by decide) rfl o3 ((Own.new (l := [x]) pF_sized k3).arr pF_sized) (by simp; omega) fun s' h4 o4 g4 => ?_⟩
    have f4 := f3.grow g4
    exact ⟨hC _ f4.ext, k s' h4 (by simpa using o4) f4⟩

/-- A new entry. -/
theorem DR.newIt {h h' : Heap} {lab : Nat → Option DL} {c : Nat} {V : DV} {σ : CS} {b : Nat} {X : It} (D : DR h lab c V σ) (e : Ext0 h h') (hb : b = h.size) (k : Blk h' b 133 X.lfs) :
    DR h' (fun y => if y = b then some .it else lab y) c V (σ.setIt b X) ∧ Grw lab (fun y => if y = b then some .it else lab y) h := by
  have hl : ∀ y l, lab y = some l → (fun y => if y = b then some DL.it else lab y) y = some l := fun y l hy => by
    have := D.lt y (by rw [hy]; simp)
    show (if y = b then some DL.it else lab y) = some l
    rw [if_neg (by omega)]; exact hy
  refine ⟨⟨D.blk.ext e, D.lo.ext0 e, D.wo.ext0 e, D.po.ext0 e, D.ll, D.wl, fun i s x h1 h2 => ⟨(D.ls i s x h1 h2).1.ext0 e, fun q o hq => hl _ _ ((D.ls i s x h1 h2).2 q o hq)⟩, fun i s x h1 h2 => ⟨(D.ws i s x h1 h2).1.ext0 e, fun q o hq => hl _ _ ((D.ws i s x h1 h2).2 q o hq)⟩,
    fun p Y hp => ?_, D.pin, D.last, hl _ _ D.lc, fun q o hq => hl _ _ (D.llr q o hq), fun q o hq => hl _ _ (D.lwr q o hq), fun q o hq => hl _ _ (D.lpn q o hq), fun y hy => ?_, D.r0, D.r1, D.n0, D.n1⟩, hl, fun y hy => ?_⟩
  · simp only [CS.setIt] at hp
    split at hp
    · rename_i hpb
      cases hp
      exact ⟨hpb ▸ k, by simp [hpb]⟩
    · exact ⟨(D.its p Y hp).1.ext e, hl _ _ (D.its p Y hp).2⟩
  · have hy : (if y = b then some DL.it else lab y) ≠ none := hy
    split at hy
    · rename_i hyb; rw [hyb]; exact k.lt
    · exact Nat.lt_of_lt_of_le (D.lt y hy) e.size
  · have hy : (if y = b then some DL.it else lab y) ≠ none := hy
    split at hy
    · right; omega
    · exact .inl hy

theorem putM_eq' {σ : CS} {key : ByteArray} {ch : Int} {s : Sh} (hs : σ.sh[shardOf σ.sh.length key]? = some s) : makesS (shardOf σ.sh.length key) ch (share σ) s.waits.length σ = putM σ key ch := by unfold putM; rw [shAt_of hs]

/-- Put, in the document. -/
theorem d76 {F : Nat → Prop} {h : Heap} {m c : Nat} {σ : CS} (w : DW F h m c σ) (hm : m ≤ 4398046511100) {key : ByteArray} {v ch : Int} (hv0 : 0 ≤ v) (hv1 : v ≤ big) (hc0 : 0 ≤ ch) (hc1 : ch ≤ big) (hk : key.size ≤ 9223372036854775807)
    {R : Int → Int → Heap → Prop}
    (k0 : key.size > 1024 → R 0 2 h)
    (k1 : key.size ≤ 1024 → putFull σ key ch → ∀ F' h', DW F' h' m c (putM σ key ch) → Stp F h F' h' → R 0 110 h')
    (k2 : key.size ≤ 1024 → ¬ putFull σ key ch → ∀ F' h' p, σ.it p = none → DW F' h' (m + 1) c (putA σ key v ch p) → Stp F h F' h' → R (σ.last + 1) 0 h') :
    Call Go.Proofs.Try.prog 76 [.lf (.ptr (some (c, 0))), .lf (.str key), .lf (.int .u64 v), .lf (.int .u64 ch)] h [.one (.int .i64), .one (.int .i64)] R := by
  obtain ⟨s, hs⟩ := w.sh key
  have hn := w.n
  obtain ⟨lab, V, D, I, hF⟩ := w
  refine ok76 (Br.dec (fun hb => k0 (by omega)) fun hb => ?_)
  have hks : key.size ≤ 1024 := by omega
  refine c26 D hk (c109 D I (by omega) hs hc0 hc1 fun h2 lab2 V2 D2 g2 e2 => ?_)
  rw [putM_eq' hs] at D2
  have IM := putM_inv I key ch
  have sm := putM_same σ key ch
  have hlt : shardOf σ.sh.length key < (putM σ key ch).sh.length := by rw [sm.len]; exact shardOf_lt hn.1 key
  obtain ⟨s4, hs4⟩ : ∃ s', (putM σ key ch).sh[shardOf σ.sh.length key]? = some s' := ⟨_, List.getElem?_eq_getElem hlt⟩
  have hsh4 := shAt_of hs4
  have hur := used_range IM s4
  have hcond : (plusS (usedS (putM σ key ch).it s4) ch > share σ) = (plusS (usedS (putM σ key ch).it ((putM σ key ch).shAt (shardOf σ.sh.length key))) ch > share σ) := by rw [hsh4]
  refine ⟨fun cc h' => h2 = h' ∧ (cc = true ↔ putFull σ key ch), ?_, ?_⟩
  · have hn0 := D2.n0
    have hn1 := D2.n1
    have hww : IntKind.wrap .u64 (((putM σ key ch).sh.length : Nat) : Int) = ((putM σ key ch).sh.length : Int) := wu64 (by omega) (by omega)
    refine NilC.mk rfl ⟨(putM σ key ch).strict, D2.blk.cell rfl, Br.mk (fun hst => ?_) fun hst => ⟨rfl, ?_⟩⟩
    · refine NilC.mk rfl ⟨_, D2.blk.cell rfl, NilC.mk rfl ⟨_, D2.blk.cell rfl, (by rw [hww]; omega), ?_⟩⟩
      refine c111 D2 IM (by omega) hs4 ⟨D2.blk.cell rfl, D2.blk.cell rfl, c110 hur.1 hur.2 hc0 hc1 ⟨D2.blk.cell rfl, D2.blk.cell rfl, rfl, ?_⟩⟩
      have hshare : IntKind.wrap .u64 (Int.tdiv (putM σ key ch).room (IntKind.wrap .u64 (((putM σ key ch).sh.length : Nat) : Int))) = share σ := by
        rw [hww, Int.tdiv_eq_ediv_of_nonneg D2.r0]
        have h1 : 0 ≤ (putM σ key ch).room / ((putM σ key ch).sh.length : Int) := Int.ediv_nonneg D2.r0 (by omega)
        have h2 : (putM σ key ch).room / ((putM σ key ch).sh.length : Int) ≤ (putM σ key ch).room := Int.ediv_le_self _ D2.r0
        have h3 : (putM σ key ch).room ≤ 18446744073709551615 := D2.r1
        rw [wu64 h1 (by omega)]
        unfold share; rw [sm.room, sm.len]
      rw [hshare]
      have : σ.strict = true := by rw [← sm.strict]; exact hst
      unfold putFull
      rw [← hcond]
      simp [this]
    · unfold putFull
      have : σ.strict = false := by rw [← sm.strict]; exact hst
      simp [this]
  rintro cc _ ⟨rfl, hcc⟩
  refine Br.mk (fun ht => ?_) fun hf => ?_
  · obtain ⟨w2, st2⟩ := DW.step hF D2 IM g2 e2
    exact k1 hks (hcc.1 ht) _ h2 w2 st2
  have hno : ¬ putFull σ key ch := fun hh => by rw [hcc.2 hh] at hf; cases hf
  have IT := IM.take (key := key) hs4
  have smT := takeS_same (putM σ key ch) (shardOf σ.sh.length key) key
  refine ⟨fun h' => ∃ lab' V', DR h' lab' c V' (takeS (putM σ key ch) (shardOf σ.sh.length key) key) ∧ Grw lab lab' h ∧ Ext (fun y => lab y ≠ none) h h', ?_, ?_⟩
  · refine c112 D2 IM (by omega) hk ?_
    rw [sm.len, hsh4]
    unfold takeS
    rw [hsh4]
    cases hl : lookK key s4.ins with
    | none => exact Br.f rfl ⟨lab2, V2, D2, g2, e2⟩
    | some q =>
      have hq := lookK_some hl
      obtain ⟨_, X, hX, _⟩ := (IM.sh _ s4 hs4).ins _ hq
      have hX' : (putM σ key ch).it q = some X := hX
      simp only [hX']
      exact Br.t rfl (c113 D2 IM (by omega) hs4 hq hX' fun h22 lab22 V22 D22 g22 e22 => ⟨lab22, V22, D22, g2.trans g22 e2.size, e2.trans' e22 fun y hy hl => (g2.new y hl).elim id fun hh => by omega⟩)
  rintro h23 ⟨lab3, V3, D3, g3, e3⟩
  have hlt3 : shardOf σ.sh.length key < (takeS (putM σ key ch) (shardOf σ.sh.length key) key).sh.length := by rw [smT.len]; exact hlt
  generalize hτ : takeS (putM σ key ch) (shardOf σ.sh.length key) key = τ at *
  generalize hii : shardOf σ.sh.length key = i at *
  obtain ⟨t, ht⟩ : ∃ t, τ.sh[i]? = some t := ⟨_, List.getElem?_eq_getElem hlt3⟩
  refine New.mk fun p h25 hp hs25 e25 k25 => ?_
  obtain ⟨D25, g25⟩ := D3.newIt (X := ⟨key, v, ch, true, 0⟩) e25 hp k25
  generalize hlab4 : (fun y => if y = p then some DL.it else lab3 y) = lab4 at *
  have htp : (τ.setIt p ⟨key, v, ch, true, 0⟩).sh[i]? = some t := ht
  obtain ⟨rl, rw', hrl, hrw, al, rol, aw, row⟩ := D25.row htp
  have htl := IT.len i t ht
  have hnone : ∀ {ρ : CS}, (∀ Y, ρ.it p ≠ some Y) → ρ.it p = none := fun {ρ} hh => by
    cases h : ρ.it p with
    | none => rfl
    | some Y => exact absurd h (hh Y)
  have hpσ : σ.it p = none := hnone fun Y hY => by
    have := D.lt p (by rw [(D.its p Y hY).2]; simp)
    have := e3.size
    omega
  have hpτ : τ.it p = none := hnone fun Y hY => by
    have := D3.lt p (by rw [(D3.its p Y hY).2]; simp)
    omega
  refine NilC.mk rfl ⟨V3.sl, D25.blk.cell rfl, NilC.mk rfl ⟨V3.sl, D25.blk.cell rfl, (D25.lo.arr slF_sized).ix (k := i) rfl hrl fun b32 b33 hc => ⟨rl, hc, ?_⟩⟩⟩
  refine app2 al (by omega) (fun h' e => cellsAt.ext e (fun k => k) hc) (fun h' e => (D25.ext0 e).blk.cell rfl) (fun h' e => (D25.ext0 e).blk.cell rfl) fun s41 h42 o41 f41 => ?_
  have D42 := D25.ext0 f41.ext
  obtain ⟨g5, lt5, n5⟩ := labA_spec (lab := lab4) (l := .ro) D25.lt f41 fun b o hb => (o41.lt b o hb).1
  generalize hl5 : labA lab4 s41.a .ro = lab5 at *
  have D42' := D42.lab g5.old lt5
  refine IxC.set slF_sized D42'.lo (k := i) rfl (by rw [D42'.ll]; exact hlt3) (x := s41) rfl fun h45 hs45 o45 e45 => ?_
  have noL : ∀ y, (∃ o, V3.sl.a = some (y, o)) → lab5 y ≠ some .ro := fun y ⟨o, ho⟩ hy => by rw [D42'.llr y o ho] at hy; cases hy
  have D45 := D42'.setL htp e45 o45 (Arr.of_own o41 n5 e45 noL) n5
  have hX45 : ((τ.setIt p ⟨key, v, ch, true, 0⟩).setSh i { t with all := t.all ++ [p] }).it p = some ⟨key, v, ch, true, 0⟩ := by simp [CS.setSh, CS.setIt]
  have hpl : V3.P.length ≤ m := by
    have h1 := D3.last
    have h2 := IT.l1
    omega
  refine c114 D45 hX45 (show (-4611686018427387904 : Int) ≤ 0 by decide) (show (0 : Int) ≤ 4611686018427387904 by decide) (by show V3.P.length ≤ _; omega) fun h47 lab6 V6 D6 g6 e6 => ?_
  have hfin : DR h47 lab6 c V6 (addS τ i key v ch p) := by
    refine D6.cong (fun j u hu => ?_) (by simp [addS, pinD, CS.setSh, CS.setIt]) rfl rfl (fun q => ?_) rfl rfl
    · have hu' : (τ.sh.set i ⟨(τ.shAt i).ins ++ [(key, p)], (τ.shAt i).all ++ [p], (τ.shAt i).waits⟩)[j]? = some u := hu
      have hg : (pinD ((τ.setIt p ⟨key, v, ch, true, 0⟩).setSh i { t with all := t.all ++ [p] }) p ⟨key, v, ch, true, 0⟩).sh = τ.sh.set i { t with all := t.all ++ [p] } := rfl
      rw [hg]
      rw [List.getElem?_set] at hu' ⊢
      by_cases hij : i = j
      · subst hij
        rw [if_pos rfl, if_pos hlt3] at hu'
        cases hu'
        exact ⟨{ t with all := t.all ++ [p] }, by rw [if_pos rfl, if_pos hlt3], by rw [shAt_of ht], by rw [shAt_of ht]⟩
      · rw [if_neg hij] at hu' ⊢
        exact ⟨u, hu', rfl, rfl⟩
    · simp only [addS, pinD, CS.setSh, CS.setIt]
      split <;> rfl
  have hplast : ((τ.setIt p ⟨key, v, ch, true, 0⟩).setSh i { t with all := t.all ++ [p] }).last + 1 = σ.last + 1 := by
    show τ.last + 1 = _
    rw [smT.last, sm.last]
  rw [hplast]
  have hputA : putA σ key v ch p = addS τ i key v ch p := by unfold putA; rw [hii, hτ]
  have hins := takeS_ins (key := key) IM hs4
  rw [hτ, shAt_of ht] at hins
  have IA := IT.add (v := v) (ch := ch) (p := p) ht hpτ hins (by rw [smT.len, sm.len]; exact hii) hks hv0 hv1 hc0 hc1
  have e2345 : Ext (fun y => lab3 y ≠ none) h23 h45 := ((e25.trans f41.ext).of0).trans' e45 fun y hy ⟨o, ho⟩ => by rw [D3.llr y o ho]; simp
  have e23 : Ext (fun y => lab y ≠ none) h h45 := e3.trans' e2345 fun y hy hl => (g3.new y hl).elim id fun hh => by omega
  have g35 : Grw lab lab5 h := (g3.trans g25 e3.size).trans ⟨g5.old, g5.new⟩ (Nat.le_trans e3.size e25.size)
  obtain ⟨w6, st6⟩ := DW.step (lab := lab) (lab' := lab6) hF hfin IA (g35.trans g6 (Nat.le_trans (Nat.le_trans e3.size e25.size) (by have := f41.ext.size; have := e45.size; omega))) (e23.trans' e6 fun y hy hl => (g35.new y hl).elim id fun hh => by omega)
  exact k2 hks hno _ h47 p hpσ (by rw [hputA]; exact w6) st6

end Go.V.Yteojmnnobmpdiaa
set_option linter.unusedVariables false
set_option linter.unusedSimpArgs false
/-! The document's cache: New, Get, Value, Drop, Room. -/
namespace Go.V.Yteojmnnobmpdiaa
open Go Go.V

def nilS : Slc := ⟨none, 0, 0⟩

theorem mkD {h h' : Heap} {n : Nat} {room : Int} {strict : Bool} {sl sw : Slc} {c : Nat} (hn : 1 ≤ n) (hn2 : n ≤ 64) (r0 : 0 ≤ room) (r1 : room ≤ big) (kc : Blk h' c 129 [.int .i64 (n : Nat), .int .u64 room, .bool strict, .slc sl, .slc sw, .slc nilS])
    (lo : Own 1 slF h' sl (List.replicate n nilS)) (wo : Own 1 slF h' sw (List.replicate n nilS)) {bl bw : Nat} (hl : sl.a = some (bl, 0)) (hw : sw.a = some (bw, 0)) (hlw : bl ≠ bw) (hlc : bl ≠ c) (hwc : bw ≠ c) (fl : h.size ≤ bl) (fw : h.size ≤ bw) (fc : h.size ≤ c) :
    ∃ F, DW F h' 0 c (newS n room strict) ∧ ∀ y, F y → h.size ≤ y := by
  let lab : Nat → Option DL := fun y => if y = c then some .c else if y = bl then some .lr else if y = bw then some .wr else none
  have hrep : ∀ (i : Nat) (s : Sh) (x : Slc), (newS n room strict).sh[i]? = some s → (List.replicate n nilS)[i]? = some x → s = emptySh ∧ x = nilS := fun i s x h1 h2 => by
    simp only [newS, List.getElem?_replicate] at h1 h2
    split at h1
    · rename_i hlt
      rw [if_pos hlt] at h2
      cases h1; cases h2; exact ⟨rfl, rfl⟩
    · cases h1
  have hD : DR h' lab c ⟨sl, sw, nilS, List.replicate n nilS, List.replicate n nilS, []⟩ (newS n room strict) := by
    refine ⟨by simpa [newS] using kc, lo, wo, Own.nil _ _ _, by simp [newS], by simp [newS], fun i s x h1 h2 => ?_, fun i s x h1 h2 => ?_, fun p x hp => by simp [newS] at hp, fun m x => by simp [newS], by simp [newS], by simp [lab], fun b o hb => ?_, fun b o hb => ?_, fun b o hb => by simp [nilS] at hb, fun y hy => ?_, r0, r1, by simpa [newS] using hn, by simpa [newS] using hn2⟩
    · obtain ⟨rfl, rfl⟩ := hrep i s x h1 h2
      exact ⟨Arr.nil _ _ _ _, fun b o hb => by simp [nilS] at hb⟩
    · obtain ⟨rfl, rfl⟩ := hrep i s x h1 h2
      exact ⟨Arr.nil _ _ _ _, fun b o hb => by simp [nilS] at hb⟩
    · have hb' : sl.a = some (b, o) := hb
      rw [hl] at hb'; cases hb'
      simp [lab, hlc]
    · have hb' : sw.a = some (b, o) := hb
      rw [hw] at hb'; cases hb'
      simp [lab, hwc, Ne.symm hlw]
    · simp only [lab] at hy
      split at hy
      · rename_i e; rw [e]; exact kc.lt
      · split at hy
        · rename_i e; rw [e]; exact (lo.lt bl 0 hl).1
        · split at hy
          · rename_i e; rw [e]; exact (wo.lt bw 0 hw).1
          · exact absurd rfl hy
  refine ⟨fun y => lab y ≠ none, ⟨lab, _, hD, Inv.new .., fun _ => Iff.rfl⟩, fun y hy => ?_⟩
  simp only [lab] at hy
  split at hy
  · omega
  · split at hy
    · omega
    · split at hy
      · omega
      · exact absurd rfl hy

/-- New, in the document. -/
theorem d24 {h : Heap} {n room : Int} {strict : Bool} (r0 : 0 ≤ room) (r1 : room ≤ big) (hn0 : -9223372036854775808 ≤ n) (hn1 : n ≤ 9223372036854775807) {R : Option (Nat × Nat) → Int → Heap → Prop}
    (k0 : n < 1 ∨ n > 64 → R none 1 h)
    (k1 : 1 ≤ n → n ≤ 64 → ∀ F h' c, DW F h' 0 c (newS n.toNat room strict) → Ext0 h h' → (∀ y, F y → h.size ≤ y) → R (some (c, 0)) 0 h') :
    Call Go.Proofs.Try.prog 24 [.lf (.int .i64 n), .lf (.int .u64 room), .lf (.bool strict)] h [.one .ptr, .one (.int .i64)] R := by
  refine ok24 (Br.dec (fun hh => k0 (.inl hh)) fun h1 => Br.dec (fun hh => k0 (.inr hh)) fun h2 => ?_)
  obtain ⟨q, rfl⟩ := Int.eq_ofNat_of_zero_le (show 0 ≤ n by omega)
  refine ⟨MkC.own (f := slF) slF_sized (z := nilS) rfl (n := q) rfl rfl (by omega) (by omega) fun s0 h1 o0 a0 e0 => MkC.own (f := slF) slF_sized (z := nilS) rfl (n := q) rfl rfl (by omega) (by omega) fun s2 h3 o2 a2 e2 => New.mk fun b4 h5 hb4 hs5 e5 k5 => ?_,
    MkC.own (f := slF) slF_sized (z := nilS) rfl (n := q) rfl rfl (by omega) (by omega) fun s0 h1 o0 a0 e0 => MkC.own (f := slF) slF_sized (z := nilS) rfl (n := q) rfl rfl (by omega) (by omega) fun s2 h3 o2 a2 e2 => New.mk fun b4 h5 hb4 hs5 e5 k5 => ?_⟩
  · have h0l := (o0.lt _ _ a0).1
    have h2l := (o2.lt _ _ a2).1
    have := e0.size
    have := e2.size
    obtain ⟨F, w, hF⟩ := mkD (h := h) (n := q) (by omega) (by omega) r0 r1 k5 ((o0.ext0 e2).ext0 e5) (o2.ext0 e5) a0 a2 (by omega) (by omega) (by omega) (by omega) (by omega) (by omega)
    exact k1 (by omega) (by omega) F h5 b4 w ((e0.trans e2).trans e5) hF
  · have h0l := (o0.lt _ _ a0).1
    have h2l := (o2.lt _ _ a2).1
    have := e0.size
    have := e2.size
    obtain ⟨F, w, hF⟩ := mkD (h := h) (n := q) (by omega) (by omega) r0 r1 k5 (o2.ext0 e5) ((o0.ext0 e2).ext0 e5) a2 a0 (by omega) (by omega) (by omega) (by omega) (by omega) (by omega)
    exact k1 (by omega) (by omega) F h5 b4 w ((e0.trans e2).trans e5) hF

theorem DR.pl {h : Heap} {lab : Nat → Option DL} {c : Nat} {V : DV} {σ : CS} {m : Nat} (D : DR h lab c V σ) (I : Inv m σ) : V.P.length ≤ m := by
  have h1 := D.last
  have h2 := I.l1
  omega

/-- Get, in the document. -/
theorem d77 {F : Nat → Prop} {h : Heap} {m c : Nat} {σ : CS} (w : DW F h m c σ) (hm : m ≤ 4398046511100) {key : ByteArray} (hk : key.size ≤ 9223372036854775807) {R : Int → Int → Bool → Heap → Prop}
    (k0 : lookK key (σ.shAt (shardOf σ.sh.length key)).ins = none → R 0 0 false h)
    (k1 : ∀ q X, lookK key (σ.shAt (shardOf σ.sh.length key)).ins = some q → σ.it q = some X → ∀ F' h', DW F' h' (m + 1) c (repin σ (shardOf σ.sh.length key) (σ.shAt (shardOf σ.sh.length key)) q X) → Stp F h F' h' → R (σ.last + 1) X.v true h') :
    Call Go.Proofs.Try.prog 77 [.lf (.ptr (some (c, 0))), .lf (.str key)] h [.one (.int .i64), .one (.int .u64), .one .bool] R := by
  obtain ⟨s, hs⟩ := w.sh key
  obtain ⟨lab, V, D, I, hF⟩ := w
  have S := I.sh _ s hs
  refine ok77 (c112 D I (by omega) hk ?_)
  cases hl : lookK key (σ.shAt (shardOf σ.sh.length key)).ins with
  | none => exact Br.t rfl (k0 hl)
  | some q =>
    have hl' := hl
    rw [shAt_of hs] at hl'
    have hq := lookK_some hl'
    obtain ⟨hqm, X, hX, _⟩ := S.ins _ hq
    have hX' : σ.it q = some X := hX
    have hwl := S.wlen
    have hal := I.len _ s hs
    refine Br.f rfl (c26 D hk ?_)
    generalize hii : shardOf σ.sh.length key = i at *
    obtain ⟨rl, rw', hrl, hrw, al, rol, aw, row⟩ := D.row hs
    have hi := sh_lt hs
    refine NilC.mk rfl ⟨V.sw, D.blk.cell rfl, NilC.mk rfl ⟨V.sw, D.blk.cell rfl, (D.wo.arr slF_sized).ix (k := i) rfl hrw fun b10 b11 hc => ⟨rw', hc, ?_⟩⟩⟩
    have plain : ∀ {p : Nat}, (∃ Y, σ.it p = some Y) → plainAt h p := fun {p} ⟨Y, hY⟩ => Blk.plain (D.its p Y hY).1
    refine c115 aw (by omega) (fun p hp => plain (by obtain ⟨_, Y, hY, _⟩ := (S.w p).1 hp; exact ⟨Y, hY⟩)) (plain ⟨X, hX'⟩) fun s13 h14 o13 f13 => ?_
    have D14 := D.ext0 f13.ext
    obtain ⟨g1, lt1, n1⟩ := labA_spec (lab := lab) (l := .ro) D.lt f13 fun b o hb => (o13.lt b o hb).1
    generalize hl1 : labA lab s13.a .ro = lab1 at *
    have D14' := D14.lab g1.old lt1
    refine ⟨D14.blk.cell rfl, IxC.set slF_sized D14'.wo (k := i) rfl (by rw [D14'.wl]; exact hi) (x := s13) rfl fun h17 hs17 o17 e17 => ?_⟩
    have noW : ∀ y, (∃ o, V.sw.a = some (y, o)) → lab1 y ≠ some .ro := fun y ⟨o, ho⟩ hy => by rw [g1.old _ _ (D.lwr y o ho)] at hy; cases hy
    have D17 := D14'.setW hs e17 o17 (Arr.of_own o13 n1 e17 noW) n1
    have hX17 : (σ.setSh i { s with waits := s.waits.filter fun p => !decide (p = q) }).it q = some X := hX'
    have hit17 := D17.its q X hX17
    have hpp := I.pins (by omega) hX'
    have hpl := D.pl I
    refine NilC.mk rfl ⟨X.v, hit17.1.cell rfl, c114 D17 hX17 (by omega) (by omega) (by show V.P.length ≤ _; omega) fun h22 lab2 V2 D22 g2 e22 => ?_⟩
    have hfin : DR h22 lab2 c V2 (repin σ i s q X) := D22.cong (fun j t ht => ⟨t, ht, rfl, rfl⟩) rfl rfl rfl (fun p => rfl) rfl rfl
    have IG := I.get hs hq hX'
    have hX22 : (repin σ i s q X).it q = some { X with pins := X.pins + 1 } := by simp [repin]
    have e17' : Ext (fun y => lab y ≠ none) h h17 := f13.ext.of0.trans' e17 fun y hy ⟨o, ho⟩ => by rw [D.lwr y o ho]; simp
    obtain ⟨w6, st6⟩ := DW.step (lab := lab) (lab' := lab2) hF hfin IG (g1.trans g2 (by have := f13.ext.size; omega)) (e17'.trans' e22 fun y hy hl => (g1.new y hl).elim id fun hh => by omega)
    refine ⟨(hfin.its q _ hX22).1.cell rfl, k1 q X hl hX' _ h22 ?_ st6⟩
    rw [shAt_of hs]; exact w6

/-- Value, in the document. -/
theorem d79 {F : Nat → Prop} {h : Heap} {m c : Nat} {σ : CS} (w : DW F h m c σ) {n : Int} (hn0 : -9223372036854775808 ≤ n) (hn1 : n ≤ 9223372036854775807) {R : Int → Int → Heap → Prop}
    (k0 : (∀ y ∈ σ.pins, y.1 ≠ n) → R 0 111 h) (k1 : ∀ x X, (n, x) ∈ σ.pins → σ.it x = some X → R X.v 0 h) :
    Call Go.Proofs.Try.prog 79 [.lf (.ptr (some (c, 0))), .lf (.int .i64 n)] h [.one (.int .u64), .one (.int .i64)] R := by
  obtain ⟨lab, V, D, I, hF⟩ := w
  refine ok79 (c116 D hn0 hn1 (fun hno => Br.t rfl (k0 hno)) fun x hx _ _ => ?_)
  obtain ⟨_, _, X, hX, _⟩ := I.pin _ hx
  have hX' : σ.it x = some X := hX
  exact Br.f rfl (NilC.mk rfl ⟨X.v, (D.its x X hX').1.cell rfl, k1 x X hx hX'⟩)

/-- Drop, in the document. -/
theorem d80 {F : Nat → Prop} {h : Heap} {m c : Nat} {σ : CS} (w : DW F h m c σ) (hm : m ≤ 4398046511100) {key : ByteArray} (hk : key.size ≤ 9223372036854775807) {R : Bool → Heap → Prop}
    (k : ∀ F' h', DW F' h' m c (dropS σ key).2 → Stp F h F' h' → R (dropS σ key).1 h') :
    Call Go.Proofs.Try.prog 80 [.lf (.ptr (some (c, 0))), .lf (.str key)] h [.one .bool] R := by
  have w0 := w
  have hn := w.n
  obtain ⟨s, hs⟩ := w.sh key
  obtain ⟨lab, V, D, I, hF⟩ := w
  have S := I.sh _ s hs
  have ID := I.drop hn.1 key
  refine ok80 (c112 D I (by omega) hk ?_)
  unfold dropS at k ID
  simp only [shAt_of hs] at k ID ⊢
  cases hl : lookK key s.ins with
  | none => rw [hl] at k; exact Br.t rfl (k F h w0 (Stp.refl _ _))
  | some q =>
    have hq := lookK_some hl
    obtain ⟨hqm, X, hX, _⟩ := S.ins _ hq
    have hX' : σ.it q = some X := hX
    rw [hl] at k ID
    simp only [hX'] at k ID
    refine Br.f rfl (c26 D hk (c113 D I (by omega) hs hq hX' fun h4 lab4 V4 D4 g4 e4 => ?_))
    obtain ⟨w6, st6⟩ := DW.step hF D4 ID g4 e4
    exact k _ h4 w6 st6

/-- Room, in the document. -/
theorem d81 {F : Nat → Prop} {h : Heap} {m c : Nat} {σ : CS} (w : DW F h m c σ) (hm : m ≤ 4398046511100) {r : Int} (r0 : 0 ≤ r) (r1 : r ≤ big) {R : Heap → Prop}
    (k : ∀ F' h', DW F' h' m c (roomS σ r) → Stp F h F' h' → R h') :
    Call Go.Proofs.Try.prog 81 [.lf (.ptr (some (c, 0))), .lf (.int .u64 r)] h [] R := by
  obtain ⟨lab, V, D, I, hF⟩ := w
  have hn1 := D.n1
  refine ok81 (NilC.mk rfl (StC.one D.blk (by simp) fun h2 hs2 k2 e2 => ?_))
  have e2' : Ext (fun y => lab y = some .c) h h2 := e2.mono fun y hy => by rw [show y = c from hy]; exact D.lc
  have noc : ∀ y l, lab y = some l → l ≠ .c → ¬ lab y = some .c := fun y l hy hn he => by rw [hy] at he; cases he; exact hn rfl
  have D2 : DR h2 lab c V { σ with room := r } :=
    ⟨k2, D.lo.ext e2' fun ⟨b, o, hb, hS⟩ => noc _ _ (D.llr b o hb) (by simp) hS, D.wo.ext e2' fun ⟨b, o, hb, hS⟩ => noc _ _ (D.lwr b o hb) (by simp) hS, D.po.ext e2' fun ⟨b, o, hb, hS⟩ => noc _ _ (D.lpn b o hb) (by simp) hS, D.ll, D.wl,
      fun i s y h1 h2 => ⟨(D.ls i s y h1 h2).1.ext e2' fun ⟨b, o, hb, hS⟩ => noc _ _ ((D.ls i s y h1 h2).2 b o hb) (by simp) hS, (D.ls i s y h1 h2).2⟩, fun i s y h1 h2 => ⟨(D.ws i s y h1 h2).1.ext e2' fun ⟨b, o, hb, hS⟩ => noc _ _ ((D.ws i s y h1 h2).2 b o hb) (by simp) hS, (D.ws i s y h1 h2).2⟩,
      fun p Y hp => ⟨(D.its p Y hp).1.ext e2' (noc _ _ (D.its p Y hp).2 (by simp)), (D.its p Y hp).2⟩, D.pin, D.last, D.lc, D.llr, D.lwr, D.lpn, fun b hb => Nat.lt_of_lt_of_le (D.lt b hb) e2.size, r0, r1, D.n0, D.n1⟩
  have I2 : Inv m { σ with room := r } := ⟨I.sh, I.cn, I.pin, I.pinN, I.pl, I.keys, I.l0, I.l1, I.len, I.ok⟩
  refine ⟨fun i h' d => ∃ (q : Nat) (τ : CS) (lab' : Nat → Option DL) (V' : DV), i = q ∧ q ≤ σ.sh.length ∧ d = σ.sh.length - q ∧ DR h' lab' c V' τ ∧ Inv m τ ∧ Same { σ with room := r } τ ∧ τ = (List.range q).foldl (fun τ i => makesS i 0 (share τ) (τ.shAt i).waits.length τ) { σ with room := r } ∧ Grw lab lab' h ∧ Ext (fun y => lab y ≠ none) h h',
    ⟨_, 0, _, lab, V, rfl, by omega, rfl, D2, I2, Same.refl _, rfl, Grw.refl _ _, e2'.mono fun y hy => by rw [hy]; simp⟩, ?_⟩
  rintro _ h6 _ ⟨q, τ, lab', V', rfl, hq, rfl, Dτ, Iτ, sτ, hτ, g, e⟩
  have hlen : τ.sh.length = σ.sh.length := sτ.len
  refine NilC.mk rfl ⟨_, Dτ.blk.cell rfl, Br.dec (fun hi => ?_) fun hi => ?_⟩
  · have hi' : q < τ.sh.length := by omega
    have hs : τ.sh[q]? = some τ.sh[q] := List.getElem?_eq_getElem hi'
    refine c109 Dτ Iτ (by omega) hs (by decide) (by decide) fun h11 lab2 V2 D11 g11 e11 => ⟨σ.sh.length - (q + 1), by omega, q + 1, makesS q 0 (share τ) (τ.shAt q).waits.length τ, lab2, V2, ?_, by omega, rfl, ?_, Inv.makes _ _ _ _ Iτ, sτ.trans (makesS_same ..), ?_, g.trans g11 e.size, e.trans' e11 fun y hy hl => (g.new y hl).elim id fun hh => by omega⟩
    · rw [wi64 (by omega) (by omega)]; rfl
    · rw [shAt_of hs]; exact D11
    · rw [List.range_succ, List.foldl_append, ← hτ]; rfl
  · have : q = σ.sh.length := by omega
    subst this
    have hroom : roomS σ r = τ := by unfold roomS; rw [hτ]
    obtain ⟨w6, st6⟩ := DW.step hF Dτ Iτ g e
    exact k _ h6 (by rw [hroom]; exact w6) st6

end Go.V.Yteojmnnobmpdiaa
set_option linter.unusedVariables false
set_option linter.unusedSimpArgs false
/-! The document's cache: Free, Sums. -/
namespace Go.V.Yteojmnnobmpdiaa
open Go Go.V

theorem pins_cut {P : List (Option Nat)} {pins : List (Int × Nat)} {n : Int} (hn : (pins.map (·.1)).Nodup) (h1 : 1 ≤ n) (hlt : (n - 1).toNat < P.length) (hp : ∀ m y, (m, y) ∈ pins ↔ 1 ≤ m ∧ P[(m - 1).toNat]? = some (some y)) (m : Int) (y : Nat) :
    (m, y) ∈ adel (.int .i64) n pins ↔ 1 ≤ m ∧ (P.set (n - 1).toNat none)[(m - 1).toNat]? = some (some y) := by
  rw [adel_mem (kt := .int .i64) (e := (m, y)) trivial hn, hp m y, List.getElem?_set]
  constructor
  · rintro ⟨⟨h2, h3⟩, h4⟩
    have h4 : m ≠ n := h4
    have : ¬ (n - 1).toNat = (m - 1).toNat := by omega
    rw [if_neg this]; exact ⟨h2, h3⟩
  · rintro ⟨h2, h3⟩
    split at h3
    · simp at h3
    · rename_i hne
      exact ⟨⟨h2, h3⟩, fun h => hne (by rw [show m = n from h])⟩

/-- Free, in the document. -/
theorem d78 {F : Nat → Prop} {h : Heap} {m c : Nat} {σ : CS} (w : DW F h m c σ) (hm : m ≤ 4398046511100) {n : Int} (hn0 : -9223372036854775808 ≤ n) (hn1 : n ≤ 9223372036854775807) {R : Int → Heap → Prop}
    (k0 : (∀ y ∈ σ.pins, y.1 ≠ n) → R 111 h)
    (k1 : ∀ x X, (n, x) ∈ σ.pins → σ.it x = some X → ∀ F' h', DW F' h' m c (freeT σ n x X) → Stp F h F' h' → R 0 h') :
    Call Go.Proofs.Try.prog 78 [.lf (.ptr (some (c, 0))), .lf (.int .i64 n)] h [.one (.int .i64)] R := by
  obtain ⟨lab, V, D, I, hF⟩ := w
  have hpl := D.pl I
  refine ok78 (c116 D hn0 hn1 (fun hno => Br.t rfl (k0 hno)) fun x hx h1 hidx => Br.f rfl ?_)
  obtain ⟨_, _, X, hX0, _⟩ := I.pin _ hx
  have hX : σ.it x = some X := hX0
  obtain ⟨s, hs, hxm, eX, hp1⟩ := I.at hx hX
  have hpp := I.pins (by omega) hX
  have IF := I.free hx hX
  have fin : ∀ {lab' V' h'}, DR h' lab' c V' (freeT σ n x X) → Grw lab lab' h → Ext (fun y => lab y ≠ none) h h' → R 0 h' := fun D' g e => by
    obtain ⟨w6, st6⟩ := DW.step hF D' IF g e
    exact k1 x X hx hX _ _ w6 st6
  refine New.mk fun b2 h3 hb2 hs3 e3 k3 => NilC.mk rfl ⟨V.sp, (D.ext0 e3).blk.cell rfl, ?_⟩
  have o3 : Own 1 opF h3 ⟨some (b2, 0), 0, 0⟩ ([] : List (Option Nat)) := Own.new (l := []) opF_sized k3
  have f3 : Fresh h h3 ⟨some (b2, 0), 0, 0⟩ := ⟨e3, fun _ _ hh => by cases hh; omega⟩
  refine AppC.grow opF_sized (by decide) rfl o3 ((D.ext0 e3).po.arr opF_sized) (by simp; omega) fun s7 h8 o8 g8 => ?_
  have f8 := f3.grow g8
  rw [List.nil_append] at o8
  rw [wi64 (by omega) (by omega)]
  refine IxC.set opF_sized o8 (k := (n - 1).toNat) (by omega) hidx (x := none) rfl fun h11 hs11 o11 e11 => ?_
  have f11 : Fresh h h11 s7 := f8.grow ⟨e11, .inl rfl⟩
  obtain ⟨g1, lt1, n1⟩ := labA_spec (lab := lab) (l := .pn) D.lt f11 fun b o hb => (o11.lt b o hb).1
  generalize hl1 : labA lab s7.a .pn = lab1 at *
  have D11 := (D.ext0 f11.ext).lab g1.old lt1
  have hc7 : ∀ o, s7.a ≠ some (c, o) := fun o ho => by have h2 := n1 c o ho; rw [g1.old _ _ D.lc] at h2; cases h2
  refine NilC.mk rfl (StC.one D11.blk (by simp) fun h14 hs14 k14 e14 => ?_)
  have e14' : Ext (fun y => lab1 y = some .c) h11 h14 := e14.mono fun y hy => by rw [show y = c from hy]; exact D11.lc
  have noc : ∀ y l, lab1 y = some l → l ≠ .c → ¬ lab1 y = some .c := fun y l hy hn he => by rw [hy] at he; cases he; exact hn rfl
  have D14 : DR h14 lab1 c { V with sp := s7, P := V.P.set (n - 1).toNat none } { σ with pins := adel (.int .i64) n σ.pins } :=
    ⟨k14, D11.lo.ext e14' fun ⟨b, o, hb, hS⟩ => noc _ _ (D11.llr b o hb) (by simp) hS, D11.wo.ext e14' fun ⟨b, o, hb, hS⟩ => noc _ _ (D11.lwr b o hb) (by simp) hS, o11.ext e14 fun ⟨b, o, hb, hS⟩ => hc7 o (by rw [← show b = c from hS]; exact hb), D11.ll, D11.wl,
      fun i s y h1 h2 => ⟨(D11.ls i s y h1 h2).1.ext e14' fun ⟨b, o, hb, hS⟩ => noc _ _ ((D11.ls i s y h1 h2).2 b o hb) (by simp) hS, (D11.ls i s y h1 h2).2⟩, fun i s y h1 h2 => ⟨(D11.ws i s y h1 h2).1.ext e14' fun ⟨b, o, hb, hS⟩ => noc _ _ ((D11.ws i s y h1 h2).2 b o hb) (by simp) hS, (D11.ws i s y h1 h2).2⟩,
      fun p Y hp => ⟨(D11.its p Y hp).1.ext e14' (noc _ _ (D11.its p Y hp).2 (by simp)), (D11.its p Y hp).2⟩, fun m y => pins_cut I.pinN h1 hidx D.pin m y, by show σ.last = _; rw [D.last]; simp, D11.lc, D11.llr, D11.lwr, n1, fun b hb => Nat.lt_of_lt_of_le (D11.lt b hb) e14.size, D.r0, D.r1, D.n0, D.n1⟩
  have hit14 := D14.its x X hX
  refine NilC.mk rfl ⟨X.pins, hit14.1.cell rfl, NilC.mk rfl ?_⟩
  rw [wi64 (by omega) (by omega)]
  refine StC.one hit14.1 (by simp [It.lfs]) fun h20 hs20 k20 e20 => ?_
  have D20 : DR h20 lab1 c { V with sp := s7, P := V.P.set (n - 1).toNat none } (unpin σ n x X) := D14.setIt (X := { X with pins := X.pins - 1 }) e20 hit14.2 k20
  have hx20 : (unpin σ n x X).it x = some { X with pins := X.pins - 1 } := by simp [unpin, CS.setIt]
  have hit20 := D20.its x _ hx20
  have e020 : Ext (fun y => lab y ≠ none) h h20 := by
    have hlx : lab x ≠ none := by rw [(D.its x X hX).2]; simp
    have h1 : Ext (fun y => lab y ≠ none) h11 h20 := (e14.mono fun y hy => by rw [show y = c from hy, D.lc]; simp).trans (e20.mono fun y hy => by rw [show y = x from hy]; exact hlx)
    exact f11.ext.of0.trans h1
  have hS := I.sh _ s hs
  have hal := I.len _ s hs
  have hwl := hS.wlen
  have has : ∀ {p : Nat}, (∃ Y, σ.it p = some Y) → ∃ Y, (unpin σ n x X).it p = some Y := fun {p} ⟨Y, hY⟩ => by
    rw [unpin_it]
    split
    · exact ⟨_, rfl⟩
    · exact ⟨Y, hY⟩
  rw [freeT_eq (m := m) hs] at fin
  refine NilC.mk rfl ⟨X.pins - 1, hit20.1.cell rfl, Br.dec (fun hgt => ?_) fun hle => ?_⟩
  · rw [if_pos hgt] at fin
    exact fin D20 g1 e020
  rw [if_neg hle] at fin
  have hkey := I.keys x X hX
  refine NilC.mk rfl ⟨X.key, hit20.1.cell rfl, c26 D20 (by omega) (NilC.mk rfl ⟨X.inn, hit20.1.cell rfl, Br.not (fun hin => ?_) fun hin => ?_⟩)⟩
  · rw [if_neg (by simp [hin])] at fin
    refine c117 D20 (s := s) hs hx20 hS.nd (fun p hp => has (hS.ex p hp)) (fun p hp => has (by obtain ⟨_, Y, hY, _⟩ := (hS.w p).1 hp; exact ⟨Y, hY⟩)) (by omega) (by omega) fun h32 lab2 V2 D32 g32 e32 => ?_
    exact fin (DR.toGone (show (unpin σ n x X).sh[shardOf σ.sh.length X.key]? = some s from hs) hx20 D32) (g1.trans g32 (by have := e020.size; omega)) (e020.trans' e32 fun y hy hl => (g1.new y hl).elim id fun hh => by omega)
  · rw [if_pos hin] at fin
    have hsU : (unpin σ n x X).sh[shardOf σ.sh.length X.key]? = some s := hs
    have IW := I.wait hx hX hs hle hin
    generalize hii : shardOf σ.sh.length X.key = i at *
    have hii' : shardOf (unpin σ n x X).sh.length X.key = i := hii
    rw [hii']
    have hi := sh_lt hs
    obtain ⟨rl, rw', hrl, hrw, al, rol, aw, row⟩ := D20.row hsU
    refine NilC.mk rfl ⟨V.sw, D20.blk.cell rfl, NilC.mk rfl ⟨V.sw, D20.blk.cell rfl, (D20.wo.arr slF_sized).ix (k := i) rfl hrw fun b39 b40 hc => ⟨rw', hc, ?_⟩⟩⟩
    refine app2 aw (by omega) (fun h' e => cellsAt.ext e (fun k => k) hc) (fun h' e => (D20.ext0 e).blk.cell rfl) (fun h' e => (D20.ext0 e).blk.cell rfl) fun s48 h49 o49 f49 => ?_
    have D49 := D20.ext0 f49.ext
    obtain ⟨g5, lt5, n5⟩ := labA_spec (lab := lab1) (l := .ro) D20.lt f49 fun b o hb => (o49.lt b o hb).1
    generalize hl5 : labA lab1 s48.a .ro = lab5 at *
    have D49' := D49.lab g5.old lt5
    refine IxC.set slF_sized D49'.wo (k := i) rfl (by rw [D49'.wl]; exact hi) (x := s48) rfl fun h52 hs52 o52 e52 => ?_
    have noW : ∀ y, (∃ o, V.sw.a = some (y, o)) → lab5 y ≠ some .ro := fun y ⟨o, ho⟩ hy => by rw [D49'.lwr y o ho] at hy; cases hy
    have D52 : DR h52 lab5 c { V with sp := s7, P := V.P.set (n - 1).toNat none, Ws := V.Ws.set i s48 } (waitS σ n x X s) := by
      have := D49'.setW hsU e52 o52 (Arr.of_own o49 n5 e52 noW) n5
      unfold waitS; rw [hii]; exact this
    have hsW : (waitS σ n x X s).sh[i]? = some { s with waits := s.waits ++ [x] } := by
      unfold waitS; rw [hii]; simp [CS.setSh, unpin, CS.setIt, hi]
    have hshare : share (waitS σ n x X s) = share σ := by simp [share, waitS, CS.setSh, unpin, CS.setIt]
    have e52' : Ext (fun y => lab y ≠ none) h h52 := (e020.then0 f49.ext).trans (e52.mono fun y ⟨o, ho⟩ => by rw [D.lwr y o ho]; simp)
    have g15 : Grw lab lab5 h := g1.trans ⟨g5.old, g5.new⟩ e020.size
    refine c109 D52 IW (by omega) hsW (by decide) (by decide) fun h53 lab6 V6 D53 g53 e53 => ?_
    rw [hshare, show (s.waits ++ [x]).length = s.waits.length + 1 by simp] at D53
    exact fin D53 (g15.trans g53 e52'.size) (e52'.trans' e53 fun y hy hl => (g15.new y hl).elim id fun hh => by omega)

end Go.V.Yteojmnnobmpdiaa
