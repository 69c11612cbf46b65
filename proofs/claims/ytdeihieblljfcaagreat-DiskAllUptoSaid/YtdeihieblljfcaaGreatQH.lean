/- This text proves a part of the laws of seat YtdeihieblljfcaaGreat, under no condition: F6a F6b F6c. -/
import Derived.Test.YtdeihieblljfcaaGreatQD
set_option linter.unusedVariables false
set_option linter.unusedSimpArgs false
/-! A disk is copied. -/
namespace Go.V.YtdeihieblljfcaaGreat
open Go Go.V

abbrev Cp := List (Nat × Nat)
def cpL (T : Cp) : List (Option (Nat × Nat) × Nat) := T.map fun p => (some (p.1, 0), p.2)
def ThereM (h : Heap) (tb : Nat) (T : Cp) : Prop := MapR h tb .ptr (.one .ptr) pF (cpL T)

structure Cl (h0 h : Heap) (lab lab1 : Labs) (f D f1 D1 : Nat) (σ τ : Dk) (T : Cp) (tc tb : Nat) : Prop where
  R : DR h lab f D σ
  R1 : DR h lab1 f1 D1 τ
  tm : ThereM h tb T
  tcb : Blk h tc 136 [.map (some tb)]
  l1 : lab tc = none
  l2 : lab tb = none
  l3 : lab1 tc = none
  l4 : lab1 tb = none
  ne : tc ≠ tb
  dat : ∀ b, lab b = some .dat → lab1 b = some .dat
  new : ∀ b, lab1 b ≠ none → (lab b = some .dat ∧ lab1 b = some .dat) ∨ h0.size ≤ b
  T1 : ∀ p ∈ T, ∃ c, σ.fl p.1 = some c ∧ τ.fl p.2 = some c
  Tn : (T.map (·.1)).Nodup
  Tm : (T.map (·.2)).Nodup
  tf : ∀ y c, τ.fl y = some c → ∃ x, (x, y) ∈ T
structure Gr (tb : Nat) (h h' : Heap) (lab1 lab1' : Labs) (τ : Dk) (g : Nat → Option Fl) (T T' : Cp) : Prop where
  e : Ext (fun b => b = tb) h h'
  lab : ∀ b, b < h.size → lab1' b = lab1 b
  fl : ∀ x c, τ.fl x = some c → g x = some c
  T : ∀ p ∈ T, p ∈ T'
def NC (T : Cp) (m m' : List (Tx × Nat)) : Prop := ∃ ps : List (Tx × Nat × Nat), m.Perm (ps.map fun q => (q.1, q.2.1)) ∧ m' = ps.map (fun q => (q.1, q.2.2)) ∧ ∀ q ∈ ps, q.2 ∈ T
theorem NC.mono {T T' : Cp} {m m' : List (Tx × Nat)} (N : NC T m m') (h : ∀ p ∈ T, p ∈ T') : NC T' m m' :=
  let ⟨ps, a, b, c⟩ := N; ⟨ps, a, b, fun q hq => h _ (c q hq)⟩

section
variable {h0 h h' : Heap} {lab lab1 : Labs} {f D f1 D1 : Nat} {σ τ : Dk} {T : Cp} {tc tb : Nat}
theorem Cl.ext {S : Nat → Prop} (C : Cl h0 h lab lab1 f D f1 D1 σ τ T tc tb) (e : Ext S h h') (hs : ∀ b, S b → lab b = none ∧ lab1 b = none ∧ b ≠ tc ∧ b ≠ tb) : Cl h0 h' lab lab1 f D f1 D1 σ τ T tc tb :=
  ⟨C.R.ext e fun b x => (hs b x).1, C.R1.ext e fun b x => (hs b x).2.1, MapR.ext C.tm e fun x => (hs _ x).2.2.2 rfl, C.tcb.ext e fun x => (hs _ x).2.2.1 rfl, C.l1, C.l2, C.l3, C.l4, C.ne, C.dat, C.new, C.T1, C.Tn, C.Tm, C.tf⟩
theorem Cl.ext0 (C : Cl h0 h lab lab1 f D f1 D1 σ τ T tc tb) (e : Ext0 h h') : Cl h0 h' lab lab1 f D f1 D1 σ τ T tc tb := C.ext e fun _ x => x.elim
theorem Cl.keys (C : Cl h0 h lab lab1 f D f1 D1 σ τ T tc tb) {y : Nat} {c : Fl} (hc : σ.fl y = some c) : KeysOk h .ptr (some (y, 0)) (cpL T) := fun e he => by
  obtain ⟨p, hp, rfl⟩ := List.mem_map.1 he
  obtain ⟨c', h1, _⟩ := C.T1 p hp
  exact .inr ⟨filePlain C.R hc, filePlain C.R h1⟩
theorem Cl.hit (C : Cl h0 h lab lab1 f D f1 D1 σ τ T tc tb) {y y' : Nat} (hy : (y, y') ∈ T) : LookR h .ptr (.one .ptr) [.ptr none] (some tb) (some (y, 0)) [.ptr (some (y', 0))] true := by
  obtain ⟨c, h1, _⟩ := C.T1 _ hy
  exact MapR.hit C.tm trivial (k := some (y, 0)) (v := y') (List.mem_map.2 ⟨_, hy, rfl⟩) (C.keys h1) _ rfl
theorem Gr.trans {h'' : Heap} {lab2 lab3 : Labs} {g g' : Nat → Option Fl} {T' T'' : Cp} (a : Gr tb h h' lab1 lab2 τ g T T') (b : Gr tb h' h'' lab2 lab3 { τ with fl := g } g' T' T'') : Gr tb h h'' lab1 lab3 τ g' T T'' :=
  ⟨a.e.trans b.e, fun i hi => (b.lab i (Nat.lt_of_lt_of_le hi a.e.size)).trans (a.lab i hi), fun x c hx => b.fl x c (a.fl x c hx), fun p hp => b.T p (a.T p hp)⟩
end

theorem mapN_put {h : Heap} {b : Nat} {L : List (Tx × Nat)} (M : MapN h b L) {n : Tx} {y : Nat} (hn : n ∉ L.map (·.1)) {K : Heap → Prop} (c : ∀ h', h'.size = h.size → MapN h' b (L ++ [(n, y)]) → Ext (fun i => i = b) h h' → K h') :
    UpdC .str (.one .ptr) h (some b) (tx n) [.ptr (some (y, 0))] K := by
  refine MapR.put M trivial (k := tx n) (v := y) trivial rfl fun h' hs N e => c h' hs ?_ e
  unfold MapN
  rw [aput_new (kt := .str) trivial] at N
  · rw [List.map_append]; exact N
  · intro x hx
    obtain ⟨p, hp, rfl⟩ := List.mem_map.1 hx
    intro e
    exact hn (List.mem_map.2 ⟨p, hp, tx_inj e⟩)
theorem upd_le {lab : Labs} {b : Nat} {L : Lab} (h : lab b = none) : lab.Le (upd lab b L) := fun i M hi => by
  rw [upd_ne]; exact hi
  rintro rfl; rw [h] at hi; cases hi

theorem c65 {h : Heap} {s : Slc} {os : List (Nat × Slc)} (o : Own 2 oF h s os) (hl : os.length ≤ 2199023255552) {R : Slc → Heap → Prop} (k : ∀ s' h', Own 2 oF h' s' os → Fresh h h' s' → R s' h') :
    Call Go.Proofs.Tryz.prog 65 [.lf (.slc s)] h [.one .slc] R := by
  have a := o.arr oF_sized
  refine ok65 (Br.mk (fun hn => ?_) fun hn => New.mk fun b0 h1 hb0 hs1 e1 k1 => ?_)
  · have hl0 : os = [] := Classical.byContradiction fun w => by
      obtain ⟨b, off, hb⟩ := a.ne w
      rw [hb] at hn; cases hn
    subst hl0
    exact k _ h (Own.nil 2 oF h) (Fresh.nil 0)
  · have o1 : Own 2 oF h1 ⟨some (b0, 0), 0, 0⟩ [] := Own.new oF_sized (l := []) k1
    refine AppC.grow oF_sized (by decide) rfl o1 (a.ext0 e1) (by simp; omega) fun s2 h3 o3 g3 => ?_
    have f1 : Fresh h h1 ⟨some (b0, 0), 0, 0⟩ := ⟨e1, fun b off x => by cases x; omega⟩
    exact k s2 h3 (by simpa using o3) (f1.grow g3)

theorem c64 {h0 h : Heap} {lab lab1 : Labs} {f D f1 D1 : Nat} {σ τ : Dk} {T : Cp} {tc tb : Nat} (C : Cl h0 h lab lab1 f D f1 D1 σ τ T tc tb) (h00 : h0.size ≤ h.size) {n : Nat} (F : Few σ n) (hn : n ≤ 2199023255552) (W : Wf σ) {r : Nat} {m : List (Tx × Nat)} (hm : σ.mp r = some m) {R : Option Nat → Heap → Prop}
    (k : ∀ r' m' h' lab' g T', Cl h0 h' lab lab' f D f1 D1 σ { τ with fl := g } T' tc tb → MapN h' r' m' → h.size ≤ r' → r' < h'.size → lab' r' = none → NC T' m m' → Gr tb h h' lab1 lab' τ g T T' → R (some r') h') :
    CallV Go.Proofs.Tryz.prog (.func (.func 64) #[] #[.pointer (some ⟨tc, 0, none⟩)]) [.lf (.map (some r))] h [.one .map] R := by
  obtain ⟨M, lr⟩ := C.R.mps r m hm
  have ltc := C.tcb.lt
  have ltb := MapR.lt C.tm
  refine .inl ⟨64, [], [.lf (.ptr (some (tc, 0)))], _, _, rfl, Go.Proofs.Tryz.func64, rfl, ok64 (NewM.mk fun b0 h1 hb0 hs1 e1 k1 => ?_)⟩
  refine Iter.start (MapR.ext M e1) fun it h2 hit hs2 e2 I2 => ?_
  have e12 := e1.trans e2
  have frb : lab b0 = none := C.R.free (by omega)
  have fri : lab it = none := C.R.free (by omega)
  have lrn : r < h.size := C.R.lt r (by rw [lr]; simp)
  refine ⟨fun hh d => ∃ (ps : List (Tx × Nat × Nat)) (lab' : Labs) (g : Nat → Option Fl) (T' : Cp), Cl h0 hh lab lab' f D f1 D1 σ { τ with fl := g } T' tc tb ∧ MapN hh b0 (ps.map fun q => (q.1, q.2.2)) ∧ Iter hh it r .str (.one .ptr) pF (m.map fun p => (tx p.1, p.2)) (ps.map fun q => (tx q.1, q.2.1)) ∧ (∀ q ∈ ps, q.2 ∈ T') ∧ lab' b0 = none ∧ lab' it = none ∧ Gr tb h hh lab1 lab' τ g T T' ∧ d = m.length - ps.length,
    ⟨_, [], lab1, τ.fl, T, C.ext0 e12, MapR.ext (MapR.new k1) e2, I2, fun q hq => (by cases hq), C.R1.free (by omega), C.R1.free (by omega), ⟨e12.of0, fun _ _ => rfl, fun _ _ x => x, fun _ x => x⟩, rfl⟩, ?_⟩
  rintro h6 d ⟨ps, lab', g, T', C6, N6, I6, hT, lb0, lit, G6, rfl⟩
  have z6 := G6.e.size
  have i6 := I6.lt.1
  have b6 := MapR.lt N6
  refine I6.next (fun hp => ?_) fun x rest h11 hperm hs11 e11 I11 E11 => ?_
  · refine k b0 _ h6 lab' g T' C6 N6 (by omega) b6 lb0 ⟨ps, ?_, rfl, hT⟩ G6
    have := (hp.map fun x : ByteArray × Nat => (x.1.data.toList, x.2)).symm
    simpa [List.map_map, Function.comp_def, tx_list] using this
  have hxm : x ∈ m.map fun p => (tx p.1, p.2) := hperm.mem_iff.2 (by simp)
  obtain ⟨⟨nm, y⟩, hpm, rfl⟩ := List.mem_map.1 hxm
  obtain ⟨c, hc⟩ := W.files r m hm _ hpm
  have hlen : m.length = ps.length + (rest.length + 1) := by have := hperm.length_eq; simpa using this
  have hfresh : nm ∉ (ps.map fun q => (q.1, q.2.2)).map (·.1) := fun hmem => by
    have hd := (hperm.map (·.1)).nodup M.nodup
    rw [List.map_append, List.nodup_append] at hd
    obtain ⟨q, hq, hqe⟩ := List.mem_map.1 hmem
    obtain ⟨q', hq', rfl⟩ := List.mem_map.1 hq
    exact hd.2.2 (tx nm) (List.mem_map.2 ⟨_, List.mem_map.2 ⟨q', hq', rfl⟩, by show tx q'.1 = tx nm; rw [show q'.1 = nm from hqe]⟩) (tx nm) (by simp) rfl
  have C11 := C6.ext e11 fun b hb => by have : b = it := hb; subst this; exact ⟨fri, lit, by omega, by omega⟩
  have N11 : MapN h11 b0 _ := MapR.ext N6 e11 (by show ¬ b0 = it; omega)
  have G11 : Gr tb h h11 lab1 lab' τ g T T' := ⟨G6.e.trans' e11 fun i hi hx => by have : i = it := hx; omega, G6.lab, G6.fl, G6.T⟩
  have fin : ∀ (hX : Heap) (labX : Labs) (gX : Nat → Option Fl) (TX : Cp) (yX : Nat), Cl h0 hX lab labX f D f1 D1 σ { τ with fl := gX } TX tc tb → MapN hX b0 (ps.map fun q => (q.1, q.2.2)) → Iter hX it r .str (.one .ptr) pF (m.map fun p => (tx p.1, p.2)) (ps.map (fun q => (tx q.1, q.2.1)) ++ [(tx nm, y)]) → (∀ q ∈ ps, q.2 ∈ TX) → (y, yX) ∈ TX → labX b0 = none → labX it = none → Gr tb h hX lab1 labX τ gX T TX →
      UpdC .str (.one .ptr) hX (some b0) (tx nm) [.ptr (some (yX, 0))] fun h35 => ∃ b36, b36 < m.length - ps.length ∧ ∃ (ps : List (Tx × Nat × Nat)) (lab' : Labs) (g : Nat → Option Fl) (T' : Cp), Cl h0 h35 lab lab' f D f1 D1 σ { τ with fl := g } T' tc tb ∧ MapN h35 b0 (ps.map fun q => (q.1, q.2.2)) ∧ Iter h35 it r .str (.one .ptr) pF (m.map fun p => (tx p.1, p.2)) (ps.map fun q => (tx q.1, q.2.1)) ∧ (∀ q ∈ ps, q.2 ∈ T') ∧ lab' b0 = none ∧ lab' it = none ∧ Gr tb h h35 lab1 lab' τ g T T' ∧ b36 = m.length - ps.length :=
    fun hX labX gX TX yX CX NX IX hTX hy lX0 lXi GX => mapN_put NX hfresh fun h35 hs35 N35 e35 => by
      refine ⟨m.length - (ps ++ [(nm, y, yX)]).length, by simp; omega, ps ++ [(nm, y, yX)], labX, gX, TX, CX.ext e35 fun b hb => by have : b = b0 := hb; subst this; exact ⟨frb, lX0, by omega, by omega⟩, by simpa using N35, ?_, fun q hq => ?_, lX0, lXi, ⟨GX.e.trans' e35 fun i hi hx => by have : i = b0 := hx; omega, GX.lab, GX.fl, GX.T⟩, rfl⟩
      · have := IX.ext e35 (by show ¬ it = b0; omega) (by show ¬ r = b0; omega)
        simpa using this
      · rcases List.mem_append.1 hq with hq | hq
        · exact hTX q hq
        · rw [List.mem_singleton.1 hq]; exact hy
  refine ⟨tx nm, some (y, 0), E11, some tb, C11.tcb.cell rfl, ?_⟩
  by_cases hy : ∃ y', (y, y') ∈ T'
  · obtain ⟨y', hy'⟩ := hy
    exact ⟨some (y', 0), true, C11.hit hy', Br.f rfl ⟨some tb, C11.tcb.cell rfl, some (y', 0), true, C11.hit hy', fin h11 lab' g T' y' C11 N11 I11 hT hy' lb0 lit G11⟩⟩
  have hmiss : ∀ e ∈ cpL T', e.1 ≠ some (y, 0) := fun e he hx => by
    obtain ⟨p, hp, rfl⟩ := List.mem_map.1 he
    have : p.1 = y := by simpa using hx
    exact hy ⟨p.2, by rw [← this]; exact hp⟩
  obtain ⟨sf, so, sn, os, kb, yf, oo, hlo, hco, hos, yn⟩ := (C11.R.fls y c hc).1.ex
  have hol : os.length ≤ n := by have := F.opn y c hc; rw [hco] at this; simpa using this
  refine ⟨none, false, MapR.miss C11.tm trivial hmiss (C11.keys hc) _, Br.t rfl ⟨some tb, C11.tcb.cell rfl, NilC.mk rfl ⟨sf, kb.cell rfl, NilC.mk rfl ⟨so, kb.cell rfl, NilC.mk rfl ⟨sn, kb.cell rfl, c65 oo (by simpa using (by omega : os.length ≤ 2199023255552)) fun s27 h28 o28 f28 => ⟨(kb.ext f28.ext).cell rfl, (kb.ext f28.ext).cell rfl, (C11.tcb.ext f28.ext).cell rfl, New.mk fun b29 h30 hb29 hs30 e30 k30 => ?_⟩⟩⟩⟩⟩⟩
  have E30 : Ext0 h11 h30 := f28.ext.trans e30
  have C30 := C11.ext0 E30
  refine ⟨C30.tcb.cell rfl, MapR.put C30.tm trivial (k := some (y, 0)) (v := b29) (C30.keys hc) rfl fun h31 hs31 tm31 e31 => ?_⟩
  have tm31 : ThereM h31 tb (T' ++ [(y, b29)]) := by
    unfold ThereM
    rw [aput_new (kt := .ptr) trivial hmiss] at tm31
    unfold cpL at tm31 ⊢
    rw [List.map_append]; exact tm31
  have z28 := f28.ext.size
  have z30 := e30.size
  have E31 : Ext (fun b => b = tb) h11 h31 := E30.of0.trans e31
  have new27 : ∀ b off, s27.a = some (b, off) → h11.size ≤ b ∧ b < h28.size := fun b off hb => ⟨f28.new _ _ hb, (o28.lt _ _ hb).1⟩
  have le1 : lab'.Le (named lab' s27 (.opn b29)) := named_le fun b off hb => .inl (C11.R1.free (new27 b off hb).1)
  have l29 : named lab' s27 (.opn b29) b29 = none := by
    rw [named_ne fun off hx => by have := (new27 _ _ hx).2; omega]; exact C11.R1.free (by omega)
  have le2 : (named lab' s27 (.opn b29)).Le (upd (named lab' s27 (.opn b29)) b29 .file) := upd_le l29
  have le : lab'.Le (upd (named lab' s27 (.opn b29)) b29 .file) := fun i L hi => le2 _ _ (le1 _ _ hi)
  have old : ∀ b, b < h11.size → upd (named lab' s27 (.opn b29)) b29 .file b = lab' b := fun b hb => by
    rw [upd_ne (by omega), named_ne fun off hx => by have := (new27 _ _ hx).1; omega]
  have byt : ∀ {s : Slc} {l : Tx}, Byt h11 lab s l → Byt h31 (upd (named lab' s27 (.opn b29)) b29 .file) s l := fun z =>
    ⟨(z.ext E31 fun b hb hd => by have : b = tb := hb; subst this; rw [C.l2] at hd; cases hd).arr, fun b off hb => le _ _ (C11.dat b (z.lab b off hb)), z.cap, z.pl⟩
  have cases2 : ∀ b, upd (named lab' s27 (.opn b29)) b29 .file b ≠ none → (lab' b ≠ none ∧ upd (named lab' s27 (.opn b29)) b29 .file b = lab' b) ∨ (h11.size ≤ b ∧ b < h30.size) := fun b hb => by
    by_cases h1 : b = b29
    · exact .inr (by omega)
    · by_cases h2 : ∃ off, s27.a = some (b, off)
      · obtain ⟨off, h2⟩ := h2
        have := new27 _ _ h2
        exact .inr (by omega)
      · have : upd (named lab' s27 (.opn b29)) b29 .file b = lab' b := by rw [upd_ne h1, named_ne fun off hx => h2 ⟨off, hx⟩]
        exact .inl ⟨by rw [← this]; exact hb, this⟩
  have FR : FileR h31 (upd (named lab' s27 (.opn b29)) b29 .file) b29 c := by
    refine ⟨sf, s27, sn, os, k30.ext e31 (by show ¬ b29 = tb; omega), byt yf, (o28.ext0 e30).ext e31 fun ⟨b, off, hb, hx⟩ => ?_, fun z off hz => ?_, hco, fun o ho => byt (hos o ho), byt yn⟩
    · have := new27 _ _ hb; have : b = tb := hx; omega
    · exact le2 _ _ (named_at hz)
  have R31 := ((C30.R1.ext e31 fun b hb => by have : b = tb := hb; subst this; exact C6.l4).mono le fun b hb => by
    rcases cases2 b hb with x | x
    · have := C11.R1.lt b x.1; omega
    · omega).newFile (upd_same _ _ _) FR
  have C31 : Cl h0 h31 lab (upd (named lab' s27 (.opn b29)) b29 .file) f D f1 D1 σ { τ with fl := upd g b29 c } (T' ++ [(y, b29)]) tc tb := by
    refine ⟨C30.R.ext e31 fun b hb => by have : b = tb := hb; subst this; exact C.l2, R31, tm31, C30.tcb.ext e31 C.ne, C.l1, C.l2, (old tc (by omega)).trans C6.l3, (old tb (by omega)).trans C6.l4, C.ne, fun b hb => le _ _ (C6.dat b hb), fun b hb => ?_, fun p hp => ?_, ?_, ?_, fun z c' hz => ?_⟩
    · rcases cases2 b hb with ⟨x1, x2⟩ | x
      · rw [x2]; exact C6.new b x1
      · exact .inr (by omega)
    · rcases List.mem_append.1 hp with hp | hp
      · obtain ⟨c', g1, g2⟩ := C6.T1 p hp
        refine ⟨c', g1, ?_⟩
        show upd g b29 c p.2 = _
        have g2 : g p.2 = some c' := g2
        rw [upd_ne, g2]
        rintro hx
        have : g b29 = none := C11.R1.free_fl (b := b29) (by omega)
        rw [hx, this] at g2; cases g2
      · rw [List.mem_singleton.1 hp]; exact ⟨c, hc, upd_same _ _ _⟩
    · rw [List.map_append, List.nodup_append]
      refine ⟨C6.Tn, by simp, fun a ha b hb hab => ?_⟩
      obtain ⟨p, hp, rfl⟩ := List.mem_map.1 ha
      have hb : b = y := by simpa using hb
      exact hy ⟨p.2, by rw [← hb, ← hab]; exact hp⟩
    · rw [List.map_append, List.nodup_append]
      refine ⟨C6.Tm, by simp, fun a ha b hb hab => ?_⟩
      obtain ⟨p, hp, rfl⟩ := List.mem_map.1 ha
      have hb : b = b29 := by simpa using hb
      obtain ⟨c', _, g2⟩ := C6.T1 p hp
      have : g b29 = none := C11.R1.free_fl (b := b29) (by omega)
      have g2 : g p.2 = some c' := g2
      rw [hab, hb, this] at g2; cases g2
    · rcases upd_some hz with ⟨rfl, rfl⟩ | ⟨hne, hz⟩
      · exact ⟨y, by simp⟩
      · obtain ⟨w, hw⟩ := C6.tf z c' hz
        exact ⟨w, List.mem_append_left _ hw⟩
  refine ⟨some tb, C31.tcb.cell rfl, some (b29, 0), true, C31.hit (by simp), ?_⟩
  refine fin h31 _ _ _ b29 C31 (MapR.ext N11 E31 (by show ¬ b0 = tb; omega)) (I11.ext E31 (by show ¬ it = tb; omega) (by rintro rfl; rw [C.l2] at lr; cases lr)) (fun q hq => List.mem_append_left _ (hT q hq)) (by simp) ((old b0 (by omega)).trans lb0) ((old it (by omega)).trans lit) ⟨?_, fun b hb => (old b (by omega)).trans (G11.lab b hb), fun z c' hz => ?_, fun p hp => List.mem_append_left _ (G11.T p hp)⟩
  · exact G11.e.trans E31
  · rw [upd_ne]
    · exact G11.fl z c' hz
    · rintro rfl
      have := C11.R1.free_fl (b := z) (by omega)
      have h2 := G11.fl _ _ hz
      rw [show g z = none from this] at h2; cases h2

end Go.V.YtdeihieblljfcaaGreat
/-! A disk is copied: Clone. -/
namespace Go.V.YtdeihieblljfcaaGreat
open Go Go.V

structure DC (σ τ : Dk) (T : Cp) (d d' : Dr) : Prop where
  now : ∃ m m', σ.mp d.now = some m ∧ τ.mp d'.now = some m' ∧ NC T m m'
  was : d'.was.length = d.was.length
  at_ : ∀ (j : Nat) r r', d.was[j]? = some r → d'.was[j]? = some r' → ∃ m m', σ.mp r = some m ∧ τ.mp r' = some m' ∧ NC T m m'
structure CD (σ τ : Dk) (T : Cp) (ds : List (Tx × Nat × Nat)) : Prop where
  q : τ.quota = σ.quota
  fail : τ.fail = σ.fail
  stop : τ.stop = σ.stop
  mp : ∀ r m', τ.mp r = some m' → ∃ r0 m, σ.mp r0 = some m ∧ NC T m m'
  dr : ∀ b d', τ.dr b = some d' → ∃ b0 d, σ.dr b0 = some d ∧ DC σ τ T d d'
  dirs : τ.dirs = ds.map fun q => (q.1, q.2.2)
  nd : (ds.map (·.2.2)).Nodup
  at_ : ∀ q ∈ ds, ∃ d d', σ.dr q.2.1 = some d ∧ τ.dr q.2.2 = some d' ∧ DC σ τ T d d'
theorem DC.grow {σ τ τ' : Dk} {T T' : Cp} {d d' : Dr} (c : DC σ τ T d d') (hmp : ∀ r m, τ.mp r = some m → τ'.mp r = some m) (hT : ∀ p ∈ T, p ∈ T') : DC σ τ' T' d d' :=
  ⟨let ⟨m, m', a, b, e⟩ := c.now; ⟨m, m', a, hmp _ _ b, e.mono hT⟩, c.was, fun j r r' h1 h2 => let ⟨m, m', a, b, e⟩ := c.at_ j r r' h1 h2; ⟨m, m', a, hmp _ _ b, e.mono hT⟩⟩
theorem CD.grow {σ τ : Dk} {T T' : Cp} {ds : List (Tx × Nat × Nat)} (c : CD σ τ T ds) {g : Nat → Option Fl} {mp' : Nat → Option (List (Tx × Nat))} (hmp : ∀ r m, τ.mp r = some m → mp' r = some m)
    (hnew : ∀ r m', mp' r = some m' → τ.mp r = some m' ∨ ∃ r0 m, σ.mp r0 = some m ∧ NC T' m m') (hT : ∀ p ∈ T, p ∈ T') : CD σ { τ with fl := g, mp := mp' } T' ds :=
  ⟨c.q, c.fail, c.stop, fun r m' h => by
    rcases hnew r m' h with h | h
    · obtain ⟨r0, m, a, b⟩ := c.mp r m' h; exact ⟨r0, m, a, b.mono hT⟩
    · exact h, fun b d' h => let ⟨b0, d, a, e⟩ := c.dr b d' h; ⟨b0, d, a, e.grow hmp hT⟩, c.dirs, c.nd, fun q hq => let ⟨d, d', a, b, e⟩ := c.at_ q hq; ⟨d, d', a, b, e.grow hmp hT⟩⟩

structure CloneOk (h h' : Heap) (lab lab1 : Labs) (f1 D1 : Nat) (σ τ : Dk) (T : Cp) : Prop where
  e : Ext0 h h'
  R1 : DR h' lab1 f1 D1 τ
  dat : ∀ b, lab b = some .dat → lab1 b = some .dat
  new : ∀ b, lab1 b ≠ none → (lab b = some .dat ∧ lab1 b = some .dat) ∨ h.size ≤ b
  T1 : ∀ p ∈ T, ∃ c, σ.fl p.1 = some c ∧ τ.fl p.2 = some c
  Tn : (T.map (·.1)).Nodup
  Tm : (T.map (·.2)).Nodup
  tf : ∀ y c, τ.fl y = some c → ∃ x, (x, y) ∈ T
  cd : ∃ ds, CD σ τ T ds ∧ σ.dirs.Perm (ds.map fun q => (q.1, q.2.1))

section
variable {h0 h h' : Heap} {lab lab1 : Labs} {f D f1 D1 : Nat} {σ τ : Dk} {T : Cp} {tc tb : Nat}
theorem Cl.nm (C : Cl h0 h lab lab1 f D f1 D1 σ τ T tc tb) {r : Nat} {m' : List (Tx × Nat)} (hr : h0.size ≤ r) (hr1 : r < h.size) (hl : lab1 r = none) (k : MapN h r m') (n1 : tc ≠ r) (n2 : tb ≠ r) :
    Cl h0 h lab (upd lab1 r .nm) f D f1 D1 σ { τ with mp := upd τ.mp r m' } T tc tb :=
  ⟨C.R, (C.R1.name hl hr1).newMap (upd_same _ _ _) k, C.tm, C.tcb, C.l1, C.l2, by rw [upd_ne n1]; exact C.l3, by rw [upd_ne n2]; exact C.l4, C.ne, fun b hb => upd_le hl _ _ (C.dat b hb), fun b hb => by
    by_cases hx : b = r
    · subst hx; exact .inr hr
    · rw [upd_ne hx] at hb ⊢; exact C.new b hb, C.T1, C.Tn, C.Tm, C.tf⟩
theorem Cl.setDs (C : Cl h0 h lab lab1 f D f1 D1 σ τ T tc tb) (lt0 : ∀ b, lab b ≠ none → b < h0.size) {L : List (Tx × Nat)} (e : Ext (fun i => i = D1) h h') (k : MapN h' D1 L) : Cl h0 h' lab lab1 f D f1 D1 σ { τ with dirs := L } T tc tb := by
  have hD : h0.size ≤ D1 := (C.new D1 (by rw [C.R1.lD]; simp)).elim (fun x => by have := x.2; rw [C.R1.lD] at this; cases this) id
  have lD : lab D1 = none := Classical.byContradiction fun w => by have := lt0 _ w; omega
  have n1 : ¬ tc = D1 := fun x => by have := C.l3; rw [x, C.R1.lD] at this; cases this
  have n2 : ¬ tb = D1 := fun x => by have := C.l4; rw [x, C.R1.lD] at this; cases this
  exact ⟨C.R.ext e fun b hb => by rw [show b = D1 from hb]; exact lD, C.R1.setM e k, MapR.ext C.tm e n2, C.tcb.ext e n1, C.l1, C.l2, C.l3, C.l4, C.ne, C.dat, C.new, C.T1, C.Tn, C.Tm, C.tf⟩
theorem Cl.dir (C : Cl h0 h lab lab1 f D f1 D1 σ τ T tc tb) {b : Nat} {d : Dr} {s : Slc} (hb0 : h0.size ≤ b) (hb1 : b < h.size) (hl : lab1 b = none) (n1 : tc ≠ b) (n2 : tb ≠ b) (ks : Blk h b 116 [.map (some d.now), .slc s]) (o : Own 1 wF h s d.was)
    (hs : ∀ x off, s.a = some (x, off) → h0.size ≤ x ∧ lab1 x = none ∧ b ≠ x ∧ tc ≠ x ∧ tb ≠ x) : Cl h0 h lab (upd (named lab1 s (.was b)) b .dir) f D f1 D1 σ { τ with dr := upd τ.dr b d } T tc tb := by
  have le1 : lab1.Le (named lab1 s (.was b)) := named_le fun x off hx => .inl (hs x off hx).2.1
  have lb : named lab1 s (.was b) b = none := by rw [named_ne fun off hx => (hs _ _ hx).2.2.1 rfl]; exact hl
  have le2 := upd_le (L := .dir) lb
  have le : lab1.Le (upd (named lab1 s (.was b)) b .dir) := fun i L hi => le2 _ _ (le1 _ _ hi)
  have cs : ∀ i, upd (named lab1 s (.was b)) b .dir i ≠ none → (lab1 i ≠ none ∧ upd (named lab1 s (.was b)) b .dir i = lab1 i) ∨ (h0.size ≤ i ∧ i < h.size) := fun i hi => by
    by_cases h1 : i = b
    · subst h1; exact .inr ⟨hb0, hb1⟩
    · by_cases h2 : ∃ off, s.a = some (i, off)
      · obtain ⟨off, h2⟩ := h2; exact .inr ⟨(hs _ _ h2).1, (o.lt _ _ h2).1⟩
      · have : upd (named lab1 s (.was b)) b .dir i = lab1 i := by rw [upd_ne h1, named_ne fun off hx => h2 ⟨off, hx⟩]
        exact .inl ⟨by rw [← this]; exact hi, this⟩
  refine ⟨C.R, (C.R1.mono le fun i hi => (cs i hi).elim (fun x => C.R1.lt i x.1) fun x => x.2).newDir (upd_same _ _ _) ⟨s, ks, o, fun x off hx => le2 _ _ (named_at hx)⟩, C.tm, C.tcb, C.l1, C.l2, ?_, ?_, C.ne, fun i hi => le _ _ (C.dat i hi), fun i hi => ?_, C.T1, C.Tn, C.Tm, C.tf⟩
  · rw [upd_ne n1, named_ne fun off hx => (hs _ _ hx).2.2.2.1 rfl]; exact C.l3
  · rw [upd_ne n2, named_ne fun off hx => (hs _ _ hx).2.2.2.2 rfl]; exact C.l4
  · rcases cs i hi with ⟨x, y⟩ | x
    · rw [y]; exact C.new i x
    · exact .inr x.1
end

theorem c26 {h : Heap} {lab : Labs} {f D : Nat} {σ : Dk} (X : DR h lab f D σ) (W : Wf σ) {n : Nat} (F : Few σ n) (hn : n ≤ 2199023255552) {R : Option (Nat × Nat) → Heap → Prop}
    (k : ∀ f1 D1 h' lab1 τ T, CloneOk h h' lab lab1 f1 D1 σ τ T → R (some (f1, 0)) h') : Call Go.Proofs.Tryz.prog 26 [.lf (.ptr (some (f, 0)))] h [.one .ptr] R := by
  have B := X.blk
  have c2 : ∀ {hh : Heap}, Ext0 h hh → cellsAt hh f (0 + 2) [.int .i64 σ.fail.frm, .int .i64 σ.fail.many, .int .i64 σ.fail.seen] := fun e => ⟨((B.ext e).cell (off := 2) rfl).1, ((B.ext e).cell (off := 3) rfl).1, ((B.ext e).cell (off := 4) rfl).1, trivial⟩
  have c5 : ∀ {hh : Heap}, Ext0 h hh → cellsAt hh f (0 + 5) [.int .i64 σ.stop.frm, .int .i64 σ.stop.many, .int .i64 σ.stop.seen] := fun e => ⟨((B.ext e).cell (off := 5) rfl).1, ((B.ext e).cell (off := 6) rfl).1, ((B.ext e).cell (off := 7) rfl).1, trivial⟩
  refine ok26 (NilC.mk rfl ⟨_, B.cell rfl, NilC.mk rfl ⟨_, _, _, c2 (Ext.refl _ _), NilC.mk rfl ⟨_, _, _, c5 (Ext.refl _ _), NewM.mk fun b13 h14 hb13 hs14 e14 k14 => ⟨c5 e14, c2 e14, (B.ext e14).cell rfl, New.mk fun b15 h16 hb15 hs16 e16 k16 => NewM.mk fun b17 h18 hb17 hs18 e18 k18 => New.mk fun b19 h20 hb19 hs20 e20 k20 =>
    StC.one k20 (by simp) fun h21 hs21 k21 e21 => ?_⟩⟩⟩⟩)
  have E20 : Ext0 h h20 := ((e14.trans e16).trans e18).trans e20
  have E21 : Ext0 h h21 := E20.tmp e21 (by omega)
  refine NilC.mk rfl ⟨some D, (B.ext E21).cell rfl, Iter.start (MapR.ext X.dm E21) fun it h26 hit hs26 e26 I26 => ?_⟩
  have lt0 := X.lt
  have fr : ∀ b, h.size ≤ b → lab b = none := fun b hb => X.free hb
  have hD : D < h.size := MapR.lt X.dm
  let lab0 : Labs := fun b => match lab b with | some .dat => some .dat | _ => none
  have l0 : ∀ b, lab0 b ≠ none → lab b = some .dat ∧ lab0 b = some .dat := fun b hb => by
    show lab b = some .dat ∧ (match lab b with | some .dat => some Lab.dat | _ => none) = some .dat
    have hb : (match lab b with | some .dat => some Lab.dat | _ => none) ≠ none := hb
    split at hb
    · rename_i hx; rw [hx]; exact ⟨rfl, rfl⟩
    · exact absurd rfl hb
  have l0' : ∀ b, lab b = some .dat → lab0 b = some .dat := fun b hb => by show (match lab b with | some .dat => some Lab.dat | _ => none) = _; rw [hb]
  have l0n : ∀ b, h.size ≤ b → lab0 b = none := fun b hb => Classical.byContradiction fun w => by have := (l0 b w).1; rw [fr b hb] at this; cases this
  have ne1 : b15 ≠ b13 := by omega
  have C21 : Cl h h21 lab (upd (upd lab0 b15 .fs) b13 .dm) f D b15 b13 σ ⟨σ.quota, [], fun _ => none, fun _ => none, fun _ => none, σ.fail, σ.stop⟩ [] b19 b17 := by
    have ext13 : Ext (fun b => b = b19) h14 h21 := (((e16.trans e18).trans e20).of0).trans e21
    have ext15 : Ext (fun b => b = b19) h16 h21 := ((e18.trans e20).of0).trans e21
    have ext17 : Ext (fun b => b = b19) h18 h21 := (e20.of0).trans e21
    refine ⟨X.ext0 E21, ⟨k16.ext ext15 (by show ¬ b15 = b19; omega), MapR.ext (MapR.new k14) ext13 (by show ¬ b13 = b19; omega), by rw [upd_ne ne1]; exact upd_same _ _ _, upd_same _ _ _, fun b d hx => (by cases hx), fun r m hx => (by cases hx), fun x c hx => (by cases hx), fun b hb => ?_⟩,
      MapR.ext (MapR.new k18) ext17 (by show ¬ b17 = b19; omega), k21, fr _ (by omega), fr _ (by omega), ?_, ?_, by omega, fun b hb => ?_, fun b hb => ?_, fun p hp => (by cases hp), List.nodup_nil, List.nodup_nil, fun y c hy => (by cases hy)⟩
    · by_cases h1 : b = b13
      · omega
      · rw [upd_ne h1] at hb
        by_cases h2 : b = b15
        · omega
        · rw [upd_ne h2] at hb
          have := lt0 b (by rw [(l0 b hb).1]; simp)
          have := E21.size; omega
    · rw [upd_ne (by omega), upd_ne (by omega)]; exact l0n _ (by omega)
    · rw [upd_ne (by omega), upd_ne (by omega)]; exact l0n _ (by omega)
    · have := lt0 b (by rw [hb]; simp)
      rw [upd_ne (by omega), upd_ne (by omega)]; exact l0' b hb
    · by_cases h1 : b = b13
      · exact .inr (by omega)
      · by_cases h2 : b = b15
        · exact .inr (by omega)
        · rw [upd_ne h1, upd_ne h2] at hb ⊢
          exact .inl (l0 b hb)
  have i26 : upd (upd lab0 b15 .fs) b13 .dm it = none := by rw [upd_ne (by omega), upd_ne (by omega)]; exact l0n _ (by omega)
  generalize upd (upd lab0 b15 .fs) b13 .dm = labs at C21 i26
  refine ⟨fun hh dd => ∃ (ds : List (Tx × Nat × Nat)) (lab' : Labs) (τ : Dk) (T : Cp), Cl h hh lab lab' f D b15 b13 σ τ T b19 b17 ∧ CD σ τ T ds ∧ Iter hh it D .str (.one .ptr) pF (σ.dirs.map fun p => (tx p.1, p.2)) (ds.map fun q => (tx q.1, q.2.1)) ∧ lab' it = none ∧ Ext0 h hh ∧ dd = σ.dirs.length - ds.length,
    ⟨_, [], labs, _, [], C21.ext0 e26, ⟨rfl, rfl, rfl, fun r m' hx => (by cases hx), fun b d hx => (by cases hx), rfl, List.nodup_nil, fun q hq => (by cases hq)⟩, I26, i26, E21.trans e26, rfl⟩, ?_⟩
  clear C21 i26 labs
  rintro h29 dd ⟨ds, lab', τ, T, C29, D29, I29, lit, E29, rfl⟩
  have z29 := E29.size
  have i29 := I29.lt.1
  refine I29.next (fun hp => ?_) fun x rest h34 hperm hs34 e34 I34 EN34 => ?_
  · refine k b15 b13 h29 lab' τ T ⟨E29, C29.R1, C29.dat, C29.new, C29.T1, C29.Tn, C29.Tm, C29.tf, ds, D29, ?_⟩
    have := (hp.map fun x : ByteArray × Nat => (x.1.data.toList, x.2)).symm
    simpa [List.map_map, Function.comp_def, tx_list] using this
  have hxm : x ∈ σ.dirs.map fun p => (tx p.1, p.2) := hperm.mem_iff.2 (by simp)
  obtain ⟨⟨nm, b⟩, hpm, rfl⟩ := List.mem_map.1 hxm
  obtain ⟨d, hd⟩ := W.dirs _ hpm
  have hd : σ.dr b = some d := hd
  obtain ⟨⟨m, hm⟩, hwas⟩ := W.maps b d hd
  have hlen : σ.dirs.length = ds.length + (rest.length + 1) := by have := hperm.length_eq; simpa using this
  have hfresh : nm ∉ τ.dirs.map (·.1) := fun hmem => by
    rw [D29.dirs] at hmem
    have hd := (hperm.map (·.1)).nodup X.dm.nodup
    rw [List.map_append, List.nodup_append] at hd
    obtain ⟨q, hq, hqe⟩ := List.mem_map.1 hmem
    obtain ⟨q', hq', rfl⟩ := List.mem_map.1 hq
    exact hd.2.2 (tx nm) (List.mem_map.2 ⟨_, List.mem_map.2 ⟨q', hq', rfl⟩, by show tx q'.1 = tx nm; rw [show q'.1 = nm from hqe]⟩) (tx nm) (by simp) rfl
  have C34 := C29.ext e34 fun b' hb => by have : b' = it := hb; subst this; exact ⟨fr _ (by omega), lit, by omega, by omega⟩
  have E34 : Ext0 h h34 := E29.tmp e34 (by omega)
  have z34 := E34.size
  obtain ⟨s46, Bd, Od, hsl⟩ := (C34.R.dirs b d hd).1.ex
  have lbd := (C34.R.dirs b d hd).2
  have lbn : b < h.size := lt0 b (by rw [lbd]; simp)
  have nbt : ¬ b = b17 := fun x => by have := C34.l2; rw [← x, lbd] at this; cases this
  have ns46 : ∀ y off, s46.a = some (y, off) → y < h.size ∧ ¬ y = b17 := fun y off hy => ⟨lt0 y (by rw [hsl y off hy]; simp), fun x => by have := C34.l2; rw [← x, hsl y off hy] at this; cases this⟩
  refine ⟨tx nm, some (b, 0), EN34, NilC.mk rfl ⟨some d.now, Bd.cell rfl, c64 C34 z34 F hn W hm fun r1 m1 h41 lab2 g T2 C41 N41 hr1 hr2 hl1 NC1 G41 => ?_⟩⟩
  have z41 := G41.e.size
  refine New.mk fun b42 h43 hb42 hs43 e43 k43 => NilC.mk rfl ⟨s46, ((Bd.ext G41.e nbt).ext e43).cell rfl, ?_⟩
  have E41 : Ext0 h h41 := E34.tmp G41.e (by omega)
  have E43 : Ext0 h h43 := E41.trans e43
  have C43 := ((C41.nm (by omega) hr2 hl1 N41 (by omega) (by omega)).ext0 e43)
  have D43 : CD σ { { τ with fl := g } with mp := upd τ.mp r1 m1 } T2 ds := D29.grow (fun r m' hx => by
      rw [upd_ne]; exact hx
      rintro rfl
      have := C34.R1.free_mp (b := r) (by omega)
      rw [hx] at this; cases this) (fun r m' hx => by
      rcases upd_some hx with ⟨rfl, rfl⟩ | ⟨_, hx⟩
      · exact .inr ⟨_, m, hm, NC1⟩
      · exact .inl hx) G41.T
  have nDt : ¬ D = b17 := by omega
  have A46 : Arr 1 wF h43 s46 d.was := ((Od.arr wF_sized).ext G41.e fun ⟨y, off, hy, hx⟩ => (ns46 y off hy).2 hx).ext0 e43
  have I43 := (I34.ext G41.e (by show ¬ it = b17; omega) nDt).ext e43 id id
  have lit2 : lab2 it = none := (G41.lab it (by omega)).trans lit
  have few := F.was b d hd
  have l46 : s46.len = d.was.length := A46.len
  refine ⟨fun i hh dd => ∃ (ws : List Nat) (lab3 : Labs) (τ3 : Dk) (T3 : Cp) (s : Slc), i = (ws.length : Int) ∧ ws.length ≤ d.was.length ∧ Cl h hh lab lab3 f D b15 b13 σ τ3 T3 b19 b17 ∧ CD σ τ3 T3 ds ∧ Iter hh it D .str (.one .ptr) pF (σ.dirs.map fun p => (tx p.1, p.2)) (ds.map (fun q => (tx q.1, q.2.1)) ++ [(tx nm, b)]) ∧ lab3 it = none ∧ lab3 b42 = none ∧ Ext0 h hh ∧
      Blk hh b42 116 [.map (some r1), .slc s] ∧ Own 1 wF hh s ws ∧ (∀ x off, s.a = some (x, off) → h43.size ≤ x ∧ lab3 x = none) ∧ (∃ m m', σ.mp d.now = some m ∧ τ3.mp r1 = some m' ∧ NC T3 m m') ∧ (∀ (j : Nat) r r', d.was[j]? = some r → ws[j]? = some r' → ∃ m m', σ.mp r = some m ∧ τ3.mp r' = some m' ∧ NC T3 m m') ∧ Arr 1 wF hh s46 d.was ∧ h43.size ≤ hh.size ∧ dd = d.was.length - ws.length,
    ⟨_, [], _, _, T2, ⟨none, 0, 0⟩, rfl, Nat.zero_le _, C43, D43, I43, by rw [upd_ne (by omega)]; exact lit2, by rw [upd_ne (by omega)]; exact C41.R1.free (by omega), E43, k43, Own.nil _ _ _, fun x off hx => (by cases hx), ⟨m, m1, hm, upd_same _ _ _, NC1⟩, fun j r r' _ hx => (by simp at hx), A46, Nat.le_refl _, rfl⟩, ?_⟩
  rintro i h50 dd ⟨ws, lab3, τ3, T3, s, rfl, hws, C50, D50, I50, lit3, l42, E50, B50, O50, new50, now50, was50, A50, z50, rfl⟩
  refine Br.dec (fun hlt => ?_) fun hge => ?_
  · have hlt' : ws.length < d.was.length := by omega
    have hget := List.getElem?_eq_getElem hlt'
    have hmem := List.getElem_mem hlt'
    generalize d.was[ws.length] = r at hget hmem
    obtain ⟨mr, hmr⟩ := hwas r hmem
    refine A50.ix rfl hget fun b52 b53 hcell => ⟨some r, hcell, s, B50.cell rfl, c64 C50 (by omega) F hn W hmr fun r' m' h57 lab4 g4 T4 C57 N57 hr' hr2' hl' NC' G57 => ?_⟩
    have z57 := G57.e.size
    have B57 := B50.ext G57.e (by show ¬ b42 = b17; omega)
    have O57 := O50.ext G57.e fun ⟨x, off, hx, hy⟩ => by have := (new50 x off hx).1; have : x = b17 := hy; omega
    refine ⟨B57.cell rfl, New.mk fun b58 h59 hb58 hs59 e59 k59 => ⟨(B57.ext e59).cell rfl, ?_⟩⟩
    refine AppC.grow wF_sized (by decide) rfl (O57.ext0 e59) ((Own.new wF_sized (l := [r']) k59).arr wF_sized) (by simp; omega) fun s60 h61 o61 g61 => ?_
    have z61 := g61.ext.size
    refine StC.one ((B57.ext e59).ext g61.ext fun ⟨off, hx⟩ => by have := (new50 _ _ hx).1; omega) (by simp) fun h62 hs62 k62 e62 => ?_
    have E5762 : Ext (fun y => (∃ off, s.a = some (y, off)) ∨ y = b42) h57 h62 := (e59.of0.trans' (g61.ext.mono fun y hy => .inl hy) fun y _ hy => hy).trans' (e62.mono fun y hy => .inr hy) fun y _ hy => hy
    have new60 : ∀ x off, s60.a = some (x, off) → h43.size ≤ x ∧ ((s.a = s60.a) ∨ h57.size ≤ x) := fun x off hx => by
      rcases g61.new with y | ⟨b', y, hb'⟩
      · exact ⟨(new50 x off (y ▸ hx)).1, .inl y.symm⟩
      · rw [hx] at y; cases y; exact ⟨by omega, .inr (by omega)⟩
    have C62 := (C57.nm (by omega) hr2' hl' N57 (by omega) (by omega)).ext E5762 fun y hy => by
      rcases hy with ⟨off, hy⟩ | rfl
      · have h1 := new50 y off hy
        have h2 := (O50.lt _ _ hy).1
        exact ⟨fr _ (by omega), by rw [upd_ne (by omega), G57.lab y h2]; exact h1.2, by omega, by omega⟩
      · exact ⟨fr _ (by omega), by rw [upd_ne (by omega), G57.lab y (by omega)]; exact l42, by omega, by omega⟩
    have mono : ∀ q mm, τ3.mp q = some mm → upd τ3.mp r' m' q = some mm := fun q mm hx => by
      rw [upd_ne]; exact hx
      rintro rfl
      have := C50.R1.free_mp (b := q) hr'
      rw [hx] at this; cases this
    have it50 := I50.lt.1
    refine ⟨d.was.length - (ws ++ [r']).length, by simp; omega, ws ++ [r'], _, _, T4, s60, by rw [wi64 (by omega) (by omega)]; simp, by simp; omega, C62, D50.grow (g := g4) mono (fun q mm hx => ?_) G57.T, (I50.ext G57.e (by show ¬ it = b17; omega) nDt).ext E5762 ?_ ?_, by rw [upd_ne (by omega), G57.lab it it50]; exact lit3, by rw [upd_ne (by omega), G57.lab b42 (by omega)]; exact l42, ?_, k62, ?_, fun x off hx => ?_, ?_, fun j q q' h1 h2 => ?_, ?_, by omega, rfl⟩
    · rcases upd_some hx with ⟨rfl, rfl⟩ | ⟨_, hx⟩
      · exact .inr ⟨_, mr, hmr, NC'⟩
      · exact .inl hx
    · rintro (⟨off, hy⟩ | hy)
      · have := (new50 _ _ hy).1; omega
      · omega
    · rintro (⟨off, hy⟩ | hy)
      · have := (new50 _ _ hy).1; omega
      · omega
    · exact (E50.tmp G57.e (by omega)).trans' E5762 fun y hy hx => by
        rcases hx with ⟨off, hx⟩ | hx
        · have := (new50 _ _ hx).1; omega
        · omega
    · exact o61.ext e62 fun ⟨x, off, hx, hy⟩ => by have := (new60 x off hx).1; have : x = b42 := hy; omega
    · obtain ⟨h1, h2⟩ := new60 x off hx
      refine ⟨h1, ?_⟩
      rcases h2 with h2 | h2
      · have h3 := new50 x off (by rw [h2]; exact hx)
        have h4 := (O50.lt x off (by rw [h2]; exact hx)).1
        rw [upd_ne (by omega), G57.lab x h4]; exact h3.2
      · rw [upd_ne (by omega)]; exact C57.R1.free h2
    · obtain ⟨a, a', x1, x2, x3⟩ := now50
      exact ⟨a, a', x1, mono _ _ x2, x3.mono G57.T⟩
    · by_cases hj : j < ws.length
      · rw [List.getElem?_append_left hj] at h2
        obtain ⟨a, a', x1, x2, x3⟩ := was50 j q q' h1 h2
        exact ⟨a, a', x1, mono _ _ x2, x3.mono G57.T⟩
      · have hj' : j = ws.length := by
          have := ltOf h2
          rw [List.length_append, List.length_singleton] at this; omega
        subst hj'
        rw [List.getElem?_append_right (Nat.le_refl _), Nat.sub_self] at h2
        rw [hget] at h1
        cases h1; cases h2
        exact ⟨mr, m', hmr, upd_same _ _ _, NC'⟩
    · refine (A50.ext G57.e fun ⟨y, off, hy, hx⟩ => (ns46 y off hy).2 hx).ext E5762 fun ⟨y, off, hy, hx⟩ => ?_
      have := (ns46 y off hy).1
      rcases hx with ⟨off', hx⟩ | hx
      · have := (new50 _ _ hx).1; omega
      · omega
  · have hw : ws.length = d.was.length := by omega
    have bl : b42 < h50.size := by omega
    have C50' := C50.dir (d := ⟨r1, ws⟩) (by omega) bl l42 (by omega) (by omega) B50 O50 fun x off hx => ⟨by have := (new50 x off hx).1; omega, (new50 x off hx).2, by have := (new50 x off hx).1; omega, by have := (new50 x off hx).1; omega, by have := (new50 x off hx).1; omega⟩
    have nw : τ3.dr b42 = none := by
      cases hx : τ3.dr b42 with
      | none => rfl
      | some d' => have := (C50.R1.dirs b42 d' hx).2; rw [l42] at this; cases this
    have hf3 : nm ∉ τ3.dirs.map (·.1) := by rw [D50.dirs, ← D29.dirs]; exact hfresh
    refine ⟨some b13, C50.R1.blk.cell rfl, mapN_put C50'.R1.dm hf3 fun h65 hs65 N65 e65 => ⟨σ.dirs.length - (ds ++ [(nm, b, b42)]).length, by simp; omega, ds ++ [(nm, b, b42)], _, _, T3, C50'.setDs lt0 e65 N65, ?_, ?_, ?_, ?_, rfl⟩⟩
    · have up : ∀ {d0 d' : Dr}, DC σ τ3 T3 d0 d' → DC σ { { τ3 with dr := upd τ3.dr b42 ⟨r1, ws⟩ } with dirs := τ3.dirs ++ [(nm, b42)] } T3 d0 d' := fun c => c.grow (fun _ _ x => x) fun _ x => x
      have dcn : DC σ { { τ3 with dr := upd τ3.dr b42 ⟨r1, ws⟩ } with dirs := τ3.dirs ++ [(nm, b42)] } T3 d ⟨r1, ws⟩ := ⟨now50, hw, was50⟩
      refine ⟨D50.q, D50.fail, D50.stop, D50.mp, fun y d' hx => ?_, ?_, ?_, fun q hq => ?_⟩
      · rcases upd_some hx with ⟨rfl, rfl⟩ | ⟨_, hx⟩
        · exact ⟨b, d, hd, dcn⟩
        · obtain ⟨b0, d0, x1, x2⟩ := D50.dr y d' hx
          exact ⟨b0, d0, x1, up x2⟩
      · show τ3.dirs ++ _ = _
        rw [D50.dirs, List.map_append]; rfl
      · rw [List.map_append, List.nodup_append]
        refine ⟨D50.nd, by simp, fun a ha b' hb' hab => ?_⟩
        obtain ⟨q, hq, rfl⟩ := List.mem_map.1 ha
        have hb' : b' = b42 := by simpa using hb'
        obtain ⟨_, d', _, x2, _⟩ := D50.at_ q hq
        rw [hab, hb', nw] at x2; cases x2
      · rcases List.mem_append.1 hq with hq | hq
        · obtain ⟨d0, d', x1, x2, x3⟩ := D50.at_ q hq
          refine ⟨d0, d', x1, ?_, up x3⟩
          show upd τ3.dr b42 _ q.2.2 = _
          rw [upd_ne]; exact x2
          rintro hx; rw [hx, nw] at x2; cases x2
        · rw [List.mem_singleton.1 hq]
          exact ⟨d, _, hd, upd_same _ _ _, dcn⟩
    · have := I50.ext e65 (by show ¬ it = b13; omega) (by show ¬ D = b13; omega)
      simpa using this
    · rw [upd_ne (by omega), named_ne fun off hx => by have := (new50 _ _ hx).1; omega]; exact lit3
    · exact E50.tmp e65 (by omega)

end Go.V.YtdeihieblljfcaaGreat
/-! A copy is what its disk is. -/
namespace Go.V.YtdeihieblljfcaaGreat
open Go Go.V

def lookC (T : Cp) (x : Nat) : Option Nat := (T.find? fun p => p.1 == x).map (·.2)
theorem lookC_mem {T : Cp} {x y : Nat} (h : lookC T x = some y) : (x, y) ∈ T := by
  unfold lookC at h
  cases hf : T.find? (fun p => p.1 == x) with
  | none => rw [hf] at h; cases h
  | some p =>
    rw [hf] at h
    have h1 := List.find?_some hf
    have h2 := List.mem_of_find?_eq_some hf
    have h1 : p.1 = x := by simpa using h1
    have h3 : p.2 = y := by simpa using h
    rw [← h1, ← h3]; exact h2
theorem nodup_fst {α β : Type} : ∀ {T : List (α × β)}, (T.map (·.1)).Nodup → ∀ p ∈ T, ∀ q ∈ T, p.1 = q.1 → p = q
  | [], _, p, hp, _, _, _ => by cases hp
  | t :: T, hn, p, hp, q, hq, e => by
    rw [List.map_cons, List.nodup_cons] at hn
    rcases List.mem_cons.1 hp with hp | hp <;> rcases List.mem_cons.1 hq with hq | hq
    · rw [hp, hq]
    · exact absurd (List.mem_map.2 ⟨q, hq, by rw [← e, hp]⟩) hn.1
    · exact absurd (List.mem_map.2 ⟨p, hp, by rw [e, hq]⟩) hn.1
    · exact nodup_fst hn.2 p hp q hq e
theorem nodup_snd {α β : Type} : ∀ {T : List (α × β)}, (T.map (·.2)).Nodup → ∀ p ∈ T, ∀ q ∈ T, p.2 = q.2 → p = q
  | [], _, p, hp, _, _, _ => by cases hp
  | t :: T, hn, p, hp, q, hq, e => by
    rw [List.map_cons, List.nodup_cons] at hn
    rcases List.mem_cons.1 hp with hp | hp <;> rcases List.mem_cons.1 hq with hq | hq
    · rw [hp, hq]
    · exact absurd (List.mem_map.2 ⟨q, hq, by rw [← e, hp]⟩) hn.1
    · exact absurd (List.mem_map.2 ⟨p, hp, by rw [e, hq]⟩) hn.1
    · exact nodup_snd hn.2 p hp q hq e
theorem mem_lookC {T : Cp} (hn : (T.map (·.1)).Nodup) {x y : Nat} (h : (x, y) ∈ T) : lookC T x = some y := by
  cases hl : lookC T x with
  | none =>
    unfold lookC at hl
    rw [Option.map_eq_none_iff, List.find?_eq_none] at hl
    exact absurd (by simp) (hl _ h)
  | some z =>
    have := nodup_fst hn _ (lookC_mem hl) _ h rfl
    cases this; rfl

section
variable {h h' : Heap} {lab lab1 : Labs} {f1 D1 : Nat} {σ τ : Dk} {T : Cp}
theorem CloneOk.wf (K : CloneOk h h' lab lab1 f1 D1 σ τ T) (W : Wf σ) : Wf τ := by
  obtain ⟨ds, cd, hp⟩ := K.cd
  have hq : ∀ p ∈ τ.dirs, ∃ q ∈ ds, p = (q.1, q.2.2) := fun p hp => by
    rw [cd.dirs] at hp
    obtain ⟨q, hq, rfl⟩ := List.mem_map.1 hp
    exact ⟨q, hq, rfl⟩
  refine ⟨fun p hp => ?_, fun b d' hd => ?_, fun r m' hm p hp => ?_, fun p hp' => ?_, fun r m' hm p hp => ?_, ?_, fun r m' hm => ?_⟩
  · obtain ⟨q, hq, rfl⟩ := hq p hp
    obtain ⟨_, d', _, x, _⟩ := cd.at_ q hq
    exact ⟨d', x⟩
  · obtain ⟨b0, d, _, c⟩ := cd.dr b d' hd
    obtain ⟨m, m', _, x, _⟩ := c.now
    refine ⟨⟨m', x⟩, fun r hr => ?_⟩
    obtain ⟨j, hj⟩ := List.mem_iff_getElem?.1 hr
    have := ltOf hj
    rw [c.was] at this
    obtain ⟨_, m', _, y, _⟩ := c.at_ j _ r (List.getElem?_eq_getElem this) hj
    exact ⟨m', y⟩
  · obtain ⟨r0, m, _, ps, _, rfl, h3⟩ := cd.mp r m' hm
    obtain ⟨q, hq, rfl⟩ := List.mem_map.1 hp
    obtain ⟨c, _, x⟩ := K.T1 _ (h3 q hq)
    exact ⟨c, x⟩
  · obtain ⟨q, hq, rfl⟩ := hq p hp'
    exact W.names (q.1, q.2.1) (hp.mem_iff.2 (List.mem_map.2 ⟨q, hq, rfl⟩))
  · obtain ⟨r0, m, x, ps, y, rfl, h3⟩ := cd.mp r m' hm
    obtain ⟨q, hq, rfl⟩ := List.mem_map.1 hp
    exact W.names' r0 m x (q.1, q.2.1) (y.mem_iff.2 (List.mem_map.2 ⟨q, hq, rfl⟩))
  · have := hp.length_eq
    have := W.most
    rw [cd.dirs, List.length_map]
    rw [List.length_map] at *
    omega
  · obtain ⟨r0, m, x, ps, y, rfl, h3⟩ := cd.mp r m' hm
    have := y.length_eq
    have := W.most' r0 m x
    rw [List.length_map] at *
    omega
theorem CloneOk.fl (K : CloneOk h h' lab lab1 f1 D1 σ τ T) {y : Nat} {c : Fl} (hc : τ.fl y = some c) : ∃ x, (x, y) ∈ T ∧ σ.fl x = some c := by
  obtain ⟨x, hx⟩ := K.tf y c hc
  obtain ⟨c', h1, h2⟩ := K.T1 _ hx
  have h2 : τ.fl y = some c' := h2
  rw [hc] at h2
  cases h2
  exact ⟨x, hx, h1⟩
theorem CloneOk.ff (K : CloneOk h h' lab lab1 f1 D1 σ τ T) {n : Nat} (G : FF σ n) : FF τ n := by
  obtain ⟨ds, cd, hp⟩ := K.cd
  refine ⟨⟨by rw [cd.fail]; exact G.F.fail, by rw [cd.stop]; exact G.F.stop, fun b d' hd => ?_, fun y c hc => ?_⟩, fun y c hc => ?_⟩
  · obtain ⟨b0, d, x, c⟩ := cd.dr b d' hd
    rw [c.was]; exact G.F.was b0 d x
  · obtain ⟨x, _, h1⟩ := K.fl hc
    exact G.F.opn x c h1
  · obtain ⟨x, _, h1⟩ := K.fl hc
    exact G.Z x c h1
def numC (N : Num) (T : Cp) : Num := fun i => (N i).bind (lookC T)
theorem numC_some {N : Num} {T : Cp} {i y : Nat} (h : numC N T i = some y) : ∃ x, N i = some x ∧ (x, y) ∈ T := by
  unfold numC at h
  cases hx : N i with
  | none => rw [hx] at h; cases h
  | some x => rw [hx] at h; exact ⟨x, rfl, lookC_mem h⟩
theorem CloneOk.nm (K : CloneOk h h' lab lab1 f1 D1 σ τ T) {N : Num} {r r' : Nat} {m m' : List (Tx × Nat)} {l : Nm} (hm : σ.mp r = some m) (hm' : τ.mp r' = some m') (c : NC T m m') (O : NmOk N σ r l) : NmOk (numC N T) τ r' l := by
  obtain ⟨m0, h1, h2, h3⟩ := O.ex
  rw [hm] at h1; cases h1
  obtain ⟨ps, p1, rfl, p3⟩ := c
  have e1 : (ps.map fun q => (q.1, q.2.1)).map (·.1) = (ps.map fun q => (q.1, q.2.2)).map (·.1) := by rw [List.map_map, List.map_map]; rfl
  have pp : ((ps.map fun q => (q.1, q.2.2)).map (·.1)).Perm (l.map (·.1)) := by rw [← e1]; exact (p1.map (·.1)).symm.trans h2
  refine ⟨⟨_, hm', pp, fun n i hi => ?_⟩, O.srt⟩
  obtain ⟨x, g1, g2⟩ := h3 n i hi
  obtain ⟨q, hq, hqe⟩ := List.mem_map.1 (p1.mem_iff.1 (look_mem g2))
  obtain ⟨n', x', y'⟩ := q
  simp only [Prod.mk.injEq] at hqe
  obtain ⟨rfl, rfl⟩ := hqe
  refine ⟨y', ?_, mem_look ((pp.nodup_iff).2 O.srt.nodup) (List.mem_map.2 ⟨_, hq, rfl⟩)⟩
  unfold numC
  rw [g1]
  exact mem_lookC K.Tn (p3 _ hq)
theorem CloneOk.rl (K : CloneOk h h' lab lab1 f1 D1 σ τ T) {N : Num} {δ : Dc} (L : Rl N σ δ) : Rl (numC N T) τ δ := by
  obtain ⟨ds, cd, hp⟩ := K.cd
  have e1 : (ds.map fun q => (q.1, q.2.1)).map (·.1) = τ.dirs.map (·.1) := by rw [cd.dirs, List.map_map, List.map_map]; rfl
  have pp : (τ.dirs.map (·.1)).Perm (δ.dirs.map (·.1)) := by rw [← e1]; exact (hp.map (·.1)).symm.trans L.dk
  have nd : (τ.dirs.map (·.1)).Nodup := pp.nodup_iff.2 L.srt.nodup
  refine ⟨cd.q.trans L.q, pp, L.srt, fun a ws ha => ?_, fun a a' b h1 h2 => ?_, fun i y hy => ?_, fun i j y h1 h2 => ?_, by rw [cd.fail]; exact L.sf, by rw [cd.stop]; exact L.ss⟩
  · obtain ⟨b, d, g1, g2, g3⟩ := L.di a ws ha
    obtain ⟨q, hq, hqe⟩ := List.mem_map.1 (hp.mem_iff.1 (look_mem g1))
    obtain ⟨a', b', y⟩ := q
    simp only [Prod.mk.injEq] at hqe
    obtain ⟨rfl, rfl⟩ := hqe
    obtain ⟨d0, d', x1, x2, x3⟩ := cd.at_ _ hq
    have x1 : σ.dr b' = some d0 := x1
    rw [g2] at x1; cases x1
    refine ⟨y, d', mem_look nd (by rw [cd.dirs]; exact List.mem_map.2 ⟨_, hq, rfl⟩), x2, ?_, fun k r' l hr hl => ?_⟩
    · rw [← g3.1, List.length_append, List.length_append, x3.was]; rfl
    · have hk := ltOf hr
      rw [List.length_append, x3.was] at hk
      by_cases hkw : k < d.was.length
      · rw [List.getElem?_append_left (by rw [x3.was]; exact hkw)] at hr
        have hr0 := List.getElem?_eq_getElem hkw
        obtain ⟨m, m', y1, y2, y3⟩ := x3.at_ k _ r' hr0 hr
        exact K.nm y1 y2 y3 (g3.2 k _ l (by rw [List.getElem?_append_left hkw]; exact hr0) hl)
      · have hk' : k = d.was.length := by rw [List.length_singleton] at hk; omega
        subst hk'
        rw [List.getElem?_append_right (by rw [x3.was]; exact Nat.le_refl _), x3.was, Nat.sub_self] at hr
        cases hr
        obtain ⟨m, m', y1, y2, y3⟩ := x3.now
        exact K.nm y1 y2 y3 (g3.2 _ _ l (by rw [List.getElem?_append_right (Nat.le_refl _), Nat.sub_self]; rfl) hl)
  · have m1 := look_mem h1
    have m2 := look_mem h2
    rw [cd.dirs] at m1 m2
    obtain ⟨q1, k1, e1⟩ := List.mem_map.1 m1
    obtain ⟨q2, k2, e2⟩ := List.mem_map.1 m2
    simp only [Prod.mk.injEq] at e1 e2
    have n2 : ((ds.map fun q => (q.1, q.2.2)).map (·.2)).Nodup := by rw [List.map_map]; exact cd.nd
    have := nodup_snd n2 _ m1 _ m2 rfl
    cases this; rfl
  · obtain ⟨x, g1, g2⟩ := numC_some hy
    obtain ⟨c, g3, g4⟩ := L.fi i x g1
    obtain ⟨c', g5, g6⟩ := K.T1 _ g2
    have g5 : σ.fl x = some c' := g5
    rw [g3] at g5; cases g5
    exact ⟨c, g6, g4⟩
  · obtain ⟨x, g1, g2⟩ := numC_some h1
    obtain ⟨x', g3, g4⟩ := numC_some h2
    have := nodup_snd K.Tm _ g2 _ g4 rfl
    cases this
    exact L.ni i j x g1 g3
end

end Go.V.YtdeihieblljfcaaGreat
