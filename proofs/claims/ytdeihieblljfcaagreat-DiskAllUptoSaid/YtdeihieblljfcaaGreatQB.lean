/- This text proves a part of the laws of seat YtdeihieblljfcaaGreat, under no condition: F3u F3v F3w. -/
import Derived.Test.YtdeihieblljfcaaGreatQA
set_option linter.unusedVariables false
set_option linter.unusedSimpArgs false
/-! Bytes that are written over; a call that writes. -/
namespace Go.V.YtdeihieblljfcaaGreat
open Go Go.V

theorem mk0 {α : Type} {sz bytes : Nat} {f : α → List Lf} {e : TypeId} {zc : List Lf} (hz : zc.length = sz) {n : Nat} {i j : Int} (hi : i = 0) (hj : j = n) (hb : bytes * n ≤ 140737488355328) (hn : n ≤ 140737488355328) {h : Heap} {K : Slc → Heap → Prop}
    (k : ∀ s h', Own sz f h' s ([] : List α) → Fresh h h' s → K s h') : MkC e zc sz bytes i j h K := by
  subst hi hj
  have hc : ((bytes : Int) * (n : Int)) = ((bytes * n : Nat) : Int) := by simp
  refine ⟨by omega, by omega, by omega, by rw [hc]; omega, ?_⟩
  rintro b h' rfl rfl
  refine k _ _ ⟨by simp, by simp, .inr ⟨_, _, e, rfl, by simp; rfl, ?_, ?_⟩, rfl⟩ ⟨push_ext h _, fun b off hx => by cases hx; exact Nat.le_refl _⟩
  · rw [zeroCells_size]; simp [hz]
  · simp

theorem c135 {h : Heap} {s : Slc} {b : Tx} (A : Arr 1 dF h s b) (hb : b.length ≤ 4398046511104) {R : Slc → Heap → Prop} (k : ∀ s' h', Own 1 dF h' s' b → Fresh h h' s' → R s' h') :
    Call Go.Proofs.Tryz.prog 135 [.lf (.slc s)] h [.one .slc] R := by
  have hl := A.len
  refine ok135 (mk0 (f := dF) rfl rfl (j := _) (n := b.length + 2) (by rw [hl, wi64 (by omega) (by omega)]; rfl) (by omega) (by omega) fun s0 h1 o1 f1 => ?_)
  refine AppC.grow dF_sized (by decide) rfl o1 (A.ext0 f1.ext) (by simp; omega) fun s2 h3 o3 g3 => ?_
  rw [List.nil_append] at o3
  exact k s2 h3 o3 (f1.grow g3)

theorem c94 {h : Heap} {s : Slc} {b : Tx} (o : Own 1 dF h s b) (hb : b.length ≤ 4398046511104) {R : Heap → Prop} (k : ∀ h', Ext (fun i => (∃ off, s.a = some (i, off))) h h' → R h') :
    Call Go.Proofs.Tryz.prog 94 [.lf (.slc s)] h [] R := by
  have hl := o.len
  refine ok94 ⟨fun i hh d => ∃ (m : Nat) (b' : Tx), i = (m : Int) ∧ m ≤ b.length ∧ b'.length = b.length ∧ Own 1 dF hh s b' ∧ Ext (fun i => (∃ off, s.a = some (i, off))) h hh ∧ d = b.length - m, ⟨_, 0, b, rfl, Nat.zero_le _, rfl, o, Ext.refl _ _, rfl⟩, ?_⟩
  rintro i h3 d ⟨m, b', rfl, hm, hbl, o3, e3, rfl⟩
  refine Br.dec (fun hlt => ?_) fun hge => New.mk fun b9 h10 hb9 hs10 e10 k10 => ?_
  · exact IxC.set dF_sized o3 rfl (by omega) (x := 85) rfl fun h7 hs7 o7 e7 => ⟨b.length - (m + 1), by omega, m + 1, _, by rw [wi64 (by omega) (by omega)]; rfl, by omega, by rw [List.length_set]; exact hbl, o7, e3.trans e7, rfl⟩
  · exact AppC.grow dF_sized (by decide) rfl (o3.ext0 e10) ((Own.new dF_sized (l := [85]) k10).arr dF_sized) (by rw [hbl]; simp; omega) fun s11 h12 o12 g12 => k h12 ((e3.trans e10.of0).trans g12.ext)

theorem c89 {h : Heap} {s s' : Slc} {A : List Tx} (o : Own 1 sF h s A) (B : Arr 1 sF h s' A) (hd : ∀ b off off', s.a = some (b, off) → s'.a = some (b, off') → False) (hb : A.length ≤ 1000000) {R : Bool → Heap → Prop} (k : ∀ h', Ext (fun i => ∃ off, s.a = some (i, off)) h h' → R true h') :
    Call Go.Proofs.Tryz.prog 89 [.lf (.slc s), .lf (.slc s')] h [.one .bool] R := by
  have hl := o.len
  have hl' := B.len
  refine ok89 (Br.ne (fun x => absurd (by rw [hl, hl']) x) fun _ => ?_)
  refine ⟨fun i hh d => ∃ (m : Nat) (A' : List Tx), i = (m : Int) ∧ m ≤ A.length ∧ A'.length = A.length ∧ (∀ j, m ≤ j → A'[j]? = A[j]?) ∧ Own 1 sF hh s A' ∧ Ext (fun i => ∃ off, s.a = some (i, off)) h hh ∧ d = A.length - m, ⟨_, 0, A, rfl, Nat.zero_le _, rfl, fun _ _ => rfl, o, Ext.refl _ _, rfl⟩, ?_⟩
  rintro i h3 d ⟨m, A', rfl, hm, hal, hj, o3, e3, rfl⟩
  refine Br.dec (fun hlt => ?_) fun hge => k h3 e3
  have hlt' : m < A.length := by omega
  have hget := List.getElem?_eq_getElem hlt'
  have B3 : Arr 1 sF h3 s' A := B.ext e3 fun ⟨b, off', hb', off, hx⟩ => hd b off off' hx hb'
  refine (o3.arr sF_sized).ix rfl (x := A[m]) (by rw [hj m (Nat.le_refl _)]; exact hget) fun b5 b6 hc => ⟨_, hc, B3.ix rfl hget fun b8 b9 hc' => ⟨_, hc', ?_⟩⟩
  rw [tx_eq]
  refine Br.not (fun hx => absurd rfl (of_decide_eq_false hx)) fun _ => ?_
  exact IxC.set sF_sized o3 rfl (by omega) (x := [115, 112, 111, 105, 108, 116]) rfl fun h13 hs13 o13 e13 => ⟨A.length - (m + 1), by omega, m + 1, _, by rw [wi64 (by omega) (by omega)]; rfl, by omega, by rw [List.length_set]; exact hal, fun j hjm => by rw [List.getElem?_set, if_neg (by omega)]; exact hj j (by omega), o13, e3.trans e13, rfl⟩

section
variable {h0 h h' : Heap} {lab lab' : Labs} {M M' : Bl} {f D d p : Nat} {t : TypeId} {σ σ' : Dk} {δ δ' : Dc} {N : Num} {n n' : Nat}

theorem HW.tmp {S : Nat → Prop} (H : HW h0 h lab M f D d p t σ δ n) (e : Ext S h h') (hS : ∀ b, S b → lab b = none ∧ b ≠ d ∧ ¬ M b ∧ b ≠ p ∧ h0.size ≤ b) : HW h0 h' lab M f D d p t σ δ n :=
  ⟨⟨H.X.R.ext e fun b hb => (hS b hb).1, H.X.W, H.X.M.ext e fun x => by have := (hS 0 x).2.2.2.2; have := H.h00; omega, H.X.l0⟩, H.G, H.q,
    ⟨⟨Nat.le_trans H.fr.e.size e.size, fun i hi _ => (e.same i (Nat.lt_of_lt_of_le hi H.fr.e.size) fun x => by have := (hS i x).2.2.2.2; omega).trans (H.fr.e.same i hi id)⟩, H.fr.no⟩,
    H.Y.ext e (fun i hi hm => (hS i hi).2.2.1 hm) fun x => (hS d x).2.1 rfl, H.fm, H.frd, H.frM, H.ld, H.lM, H.pb.ext e fun x => (hS p x).2.2.2.1 rfl, H.lp, H.pd, H.pM, H.frp, H.h00⟩
theorem HW.fresh (H : HW h0 h lab M f D d p t σ δ n) {b : Nat} (hb : h.size ≤ b) : lab b = none ∧ b ≠ d ∧ ¬ M b ∧ b ≠ p ∧ h0.size ≤ b :=
  ⟨H.X.R.free hb, fun e => by have := H.Y.ltd; omega, H.Y.nM hb, fun e => by have := H.pb.lt; omega, Nat.le_trans H.fr.e.size hb⟩
theorem BS.free (s : BS lab M h lab' M' h' d) {b : Nat} (hb : b < h.size) (x : lab b = none ∧ b ≠ d ∧ ¬ M b ∧ b ≠ p ∧ h0.size ≤ b) : lab' b = none ∧ b ≠ d ∧ ¬ M' b ∧ b ≠ p ∧ h0.size ≤ b :=
  ⟨(s.lab b hb).trans x.1, x.2.1, fun m => (s.new b m).elim x.2.2.1 fun y => by omega, x.2.2.2⟩
theorem BS.own {α : Type} {sz : Nat} {g : α → List Lf} {s : Slc} {l : List α} (b : BS lab M h lab' M' h' d) (o : Own sz g h s l) (hs : ∀ i off, s.a = some (i, off) → lab i = none ∧ i ≠ d) : Own sz g h' s l :=
  o.ext b.ext fun ⟨i, off, hi, x⟩ => x.elim (fun y => y.1 (hs i off hi).1) (hs i off hi).2
theorem HW.old {α : Type} {sz : Nat} {g : α → List Lf} {s : Slc} {l : List α} (H : HW h0 h lab M f D d p t σ δ n) (A : Arr sz g h0 s l) : Arr sz g h s l := A.ext0 H.fr.e

theorem PW.writes (P : PW h0 h lab M f D d p t σ δ N n) (hn : n ≤ 2199023250000) {k0 : Int} (hk : k0 = 3 ∨ k0 = 4) {l l' : Tx} (hl : l.length < 4294967281) {s4 s7 s8 : Slc} {b : Tx} (A : Arr 1 dF h0 s4 b) (hsc : s4.len ≤ s4.cap) (hb : b.length ≤ 4398046511104)
    {i j : Int} (hi1 : -9223372036854775808 ≤ i) (hi2 : i ≤ 9223372036854775807) {R : Bool → Heap → Prop} (k : Nx h0 h lab M f D d p t N (n + 3) (R true)) :
    Call Go.Proofs.Tryz.prog 70 [.lf (.ptr (some (p, 0))), .agg [.int .i64 k0, .str (tx l), .str (tx l'), .slc s4, .int .i64 i, .int .i64 j, .slc s7, .slc s8]] h [.one .bool] R := by
  refine ok70 (New.mk fun b0 h1 hb0 hs1 e1 k1 => ?_)
  have H1 := P.H.ext0 e1
  have fb0 := P.H.fresh (b := b0) (by omega)
  refine c135 (H1.old A) hb fun s2 h3 o3 f3 => ⟨f3.ext.keep (by omega) id, ?_⟩
  have H3 := H1.ext0 f3.ext
  have e03 := e1.trans f3.ext
  have z3 := f3.ext.size
  have f2 : ∀ y off, s2.a = some (y, off) → (lab y = none ∧ y ≠ d ∧ ¬ M y ∧ y ≠ p ∧ h0.size ≤ y) ∧ h1.size ≤ y ∧ y < h3.size := fun y off hy => ⟨P.H.fresh (by have := f3.new _ _ hy; omega), f3.new _ _ hy, (o3.lt _ _ hy).1⟩
  have ok := P.okD (by omega)
  have all := P.all (by omega)
  have hlt0 : h0.size ≤ h.size := P.H.fr.e.size
  -- behind the program's call
  have mid : ∀ (h8 : Heap) (lab8 : Labs) (σ8 : Dk), HW h0 h8 lab8 M f D d p t σ8 δ (n + 3) → BS lab M h3 lab8 M h8 d → ∀ K : Heap → Prop, (∀ h9, HW h0 h9 lab8 M f D d p t σ8 δ (n + 3) → BS lab M h lab8 M h9 d → b0 < h9.size → keepB h8 h9 [b0] → K h9) → Call Go.Proofs.Tryz.prog 94 [.lf (.slc s2)] h8 [] K := fun h8 lab8 σ8 H8 B8 K kk => by
    have f28 : ∀ y off, s2.a = some (y, off) → lab8 y = none ∧ y ≠ d ∧ ¬ M y ∧ y ≠ p ∧ h0.size ≤ y := fun y off hy => B8.free (f2 y off hy).2.2 (f2 y off hy).1
    refine c94 (B8.own o3 fun y off hy => ⟨(f2 y off hy).1.1, (f2 y off hy).1.2.1⟩) hb fun h9 e9 => ?_
    have z8 := B8.ext.size
    refine kk h9 (H8.tmp e9 fun y ⟨off, hy⟩ => f28 y off hy) ?_ (by have := e9.size; omega) (e9.keep (by omega) fun ⟨off, hy⟩ => by have := (f2 _ _ hy).2.1; omega)
    refine ⟨(e03.of0.trans B8.ext).trans' e9 fun y hy ⟨off, hx⟩ => by have := (f2 _ _ hx).2.1; omega, fun y hy => B8.lab y (by omega), fun _ x => x, fun _ x => .inl x⟩
  have fin : ∀ (σ' : Dk) (h9 : Heap) (lab9 : Labs), HW h0 h9 lab9 M f D d p t σ' δ (n + 3) → BS lab M h lab9 M h9 d → b0 < h9.size → ∀ (e e' : Int) (δ' : Dc) (h14 : Heap) (M' : Bl), DD h14 M' d δ' → DStp M h9 M' h14 d → e = e' → Rl N σ' δ' → δ'.files.length ≤ n + 3 → keepB h9 h14 [b0] ∧ R (e == e') h14 := fun σ' h9 lab9 H9 B9 hb9 e e' δ' h14 M' Y' s' he hr hf => by
    have B14 := BS.ofD lab9 s'
    refine ⟨s'.ext.keep hb9 fb0.2.1, ?_⟩
    rw [he, beq_self_eq_true]
    exact k.k h14 lab9 M' σ' δ' N ⟨H9.doc Y' s', hr, hf⟩ (Le.refl N) (B9.trans B14)
  have A2 := o3.arr dF_sized
  refine Br.eq (fun h3' => NilC.mk rfl ⟨_, H3.pb.cell rfl, ?_⟩) fun h4' => NilC.mk rfl ⟨_, H3.pb.cell rfl, ?_⟩
  · refine c39 H3.X H3.G.Z H3.G.F (by omega) hl hi1 hi2 A2 o3.lec (fun y off hy => .inl (f2 y off hy).1.1) hb fun h8 lab8 X8 s8 => ?_
    have H8 := H3.prog X8 s8 (H3.G.write H3.X.W H3.q.2 l i b) (writeR_q ..) (by rw [writeR_m]; exact H3.fm)
    have B8 := BS.ofP M d s8
    refine ⟨B8.keep (by omega) fb0.1 fb0.2.1, mid h8 lab8 _ H8 B8 _ fun h9 H9 B9 hb9 hk9 => ⟨hk9, NilC.mk rfl ⟨_, H9.pb.cell rfl, ?_⟩⟩⟩
    obtain ⟨g1, g2⟩ := write_rel P.rel P.H.G.Z l i b
    refine c136 H9.Y ok all.at (by omega) (by have := P.H.q.1; have := P.rel.q; omega) (by have := P.H.q.2; have := P.rel.q; omega) (by omega) (H9.old A) hsc (fun hne y off hy e => by have := A.lt1 hne y off hy; have := P.H.frd; omega) hb fun h14 M14 Y14 s14 => ?_
    exact fin _ h9 lab8 H9 B9 hb9 _ _ _ h14 M14 Y14 s14 g1 g2 (by have := writeD_fl δ l i b; have := P.fn; omega)
  · refine c15 H3.X H3.G.Z H3.G.F (by omega) hl A2 o3.lec (fun y off hy => .inl (f2 y off hy).1.1) hb fun h8 lab8 X8 s8 => ?_
    have H8 := H3.prog X8 s8 (H3.G.append H3.X.W H3.q.2 l b) (appendR_q ..) (by rw [appendR_m]; exact H3.fm)
    have B8 := BS.ofP M d s8
    refine ⟨B8.keep (by omega) fb0.1 fb0.2.1, mid h8 lab8 _ H8 B8 _ fun h9 H9 B9 hb9 hk9 => ⟨hk9, NilC.mk rfl ⟨_, H9.pb.cell rfl, ?_⟩⟩⟩
    obtain ⟨g1, g2⟩ := append_rel P.rel P.H.G.Z l b
    refine c137 H9.Y ok all.at (by omega) (by have := P.H.q.1; have := P.rel.q; omega) (by have := P.H.q.2; have := P.rel.q; omega) (by omega) (H9.old A) hsc (fun hne y off hy e => by have := A.lt1 hne y off hy; have := P.H.frd; omega) hb fun h14 M14 Y14 s14 => ?_
    exact fin _ h9 lab8 H9 B9 hb9 _ _ _ h14 M14 Y14 s14 g1 g2 (by have := appendD_fl δ l b; have := P.fn; omega)
end

end Go.V.YtdeihieblljfcaaGreat
/-! What both tell of a path. -/
namespace Go.V.YtdeihieblljfcaaGreat
open Go Go.V

theorem dF_bytes {h : Heap} {s : Slc} {l : Tx} (a : Arr 1 dF h s l) : bytesAt h s (tx l) := Arr.bytes (fun _ => rfl) a

section
variable {h0 h h' : Heap} {lab lab' : Labs} {M M' : Bl} {f D d p : Nat} {t : TypeId} {σ σ' : Dk} {δ δ' : Dc} {N : Num} {n n' : Nat}

theorem PW.nx (P : PW h0 h lab M f D d p t σ δ N n) {R : Heap → Prop} (k : Nx h0 h lab M f D d p t N (n + 3) R) {h' : Heap} (e : Ext0 h h') : R h' :=
  k.k h' lab M σ δ N ((P.ext0 e).mono (by omega)) (Le.refl N) (BS.of0 lab M d e)

theorem PW.reads (P : PW h0 h lab M f D d p t σ δ N n) (hn : n ≤ 2199023250000) {k0 : Int} {l l' : Tx} (hl : l.length < 4294967281) (hl' : l'.length < 4294967281) {s4 s7 s8 : Slc} {i j : Int} {R : Bool → Heap → Prop} (k : Nx h0 h lab M f D d p t N (n + 3) (R true)) :
    Call Go.Proofs.Tryz.prog 86 [.lf (.ptr (some (p, 0))), .agg [.int .i64 k0, .str (tx l), .str (tx l'), .slc s4, .int .i64 i, .int .i64 j, .slc s7, .slc s8]] h [.one .bool] R := by
  have ok := P.okD (by omega)
  have fok := (P.all (by omega)).at.ok
  have Z := P.H.G.Z
  have hrd := read_rel P.rel Z l
  have hra := readAt_rel P.rel Z l i j
  have hun := uns_rel P.rel l
  have hop := open_rel P.rel l
  have hli := list_rel P.rel l
  have hsa := same_rel P.rel l l'
  have hrlen : (readE σ l).1.length ≤ 268435456 := by
    unfold readE; split
    · simp
    · split
      · simp
      · rename_i c hc; exact (Z _ c hc).len
  have hralen : (readAtE σ l i j).1.length ≤ 268435456 := by
    unfold readAtE; split
    · simp
    · split
      · simp
      · simp only [List.length_take, List.length_drop]; omega
  have hlilen : (listE σ l).1.length ≤ 1024 := by
    unfold listE; split
    · simp
    · split
      · simp
      · rename_i d m hat; rw [keysOf_len]; exact P.H.X.W.most' _ _ (Dk.at_some.1 hat).2
  refine ok86 (New.mk fun b0 h1 hb0 hs1 e1 k1 => NilC.mk rfl ⟨_, (P.H.ext0 e1).pb.cell rfl, ?_⟩)
  -- Read
  refine c41 (P.H.ext0 e1).X Z hl fun s5 h7 o5 f5 _ => ⟨f5.ext.keep (by omega) id, ?_⟩
  have e7 := e1.trans f5.ext
  have z7 := f5.ext.size
  refine NilC.mk rfl ⟨_, (P.H.ext0 e7).pb.cell rfl, c154 (P.H.ext0 e7).Y ok.W fok (by omega) fun s11 h13 o11 f11 _ => ⟨f11.ext.keep (by omega) id, ?_⟩⟩
  have e13 := e7.trans f11.ext
  have z13 := f11.ext.size
  refine NilC.mk rfl ⟨_, (P.H.ext0 e13).pb.cell rfl, c155 (P.H.ext0 e13).X hl fun h19 e19' => ⟨e19'.keep (by omega) id, ?_⟩⟩
  have e19 := e13.trans e19'
  have z19 := e19'.size
  have o5' := (o5.ext0 f11.ext).ext0 e19'
  have o11' := o11.ext0 e19'
  refine ⟨fun c hh => c = true ∧ hh = h19, ⟨_, dF_bytes (o5'.arr dF_sized), _, dF_bytes (o11'.arr dF_sized), ?_⟩, ?_⟩
  · refine Br.t (by rw [tx_eq, hrd]; exact decide_eq_true rfl) (Br.t (by rw [hrd]; exact beq_self_eq_true _) (Br.t ?_ ⟨by rw [hrd]; exact beq_self_eq_true _, rfl⟩))
    rw [o11.len, hrd]; exact beq_self_eq_true _
  rintro c h24 ⟨rfl, rfl⟩
  refine c94 o5' (by omega) fun h25 e25' => ⟨e25'.keep (by omega) fun ⟨off, x⟩ => by have := f5.new _ _ x; omega, ?_⟩
  have e25 : Ext0 h h25 := e19.trans' e25' fun q hq ⟨off, x⟩ => by have := f5.new _ _ x; omega
  have z25 := e25'.size
  -- ReadAt
  refine NilC.mk rfl ⟨_, (P.H.ext0 e25).pb.cell rfl, c156 (P.H.ext0 e25).X Z hl fun s29 h31 o29 f29 => ⟨f29.ext.keep (by omega) id, ?_⟩⟩
  have e31 := e25.trans f29.ext
  have z31 := f29.ext.size
  refine NilC.mk rfl ⟨_, (P.H.ext0 e31).pb.cell rfl, c157 (P.H.ext0 e31).Y ok.W fok (by omega) fun s35 h37 a35 e37' => ⟨e37'.keep (by omega) id, ?_⟩⟩
  have e37 := e31.trans e37'
  have z37 := e37'.size
  have o29' := o29.ext0 e37'
  refine ⟨fun c hh => c = true ∧ hh = h37, Br.t rfl ⟨_, dF_bytes (o29'.arr dF_sized), _, dF_bytes a35, Br.t (by rw [tx_eq, hra]; exact decide_eq_true rfl) ⟨by rw [hra]; exact beq_self_eq_true _, rfl⟩⟩, ?_⟩
  rintro c h42 ⟨rfl, rfl⟩
  refine c94 o29' (by omega) fun h43 e43' => ⟨e43'.keep (by omega) fun ⟨off, x⟩ => by have := f29.new _ _ x; omega, ?_⟩
  have e43 : Ext0 h h43 := e37.trans' e43' fun q hq ⟨off, x⟩ => by have := f29.new _ _ x; have := e25.size; omega
  have z43 := e43'.size
  -- Unsynced
  refine NilC.mk rfl ⟨_, (P.H.ext0 e43).pb.cell rfl, c158 (P.H.ext0 e43).X P.H.G.F (by omega) hl fun h49 e49' => ⟨e49'.keep (by omega) id, ?_⟩⟩
  have e49 := e43.trans e49'
  have z49 := e49'.size
  refine NilC.mk rfl ⟨_, (P.H.ext0 e49).pb.cell rfl, c159 (P.H.ext0 e49).Y ok.W fok (by omega) fun h55 e55' => ⟨e55'.keep (by omega) id, ?_⟩⟩
  have e55 := e49.trans e55'
  have z55 := e55'.size
  refine ⟨fun c hh => c = true ∧ hh = h55, Br.t rfl (Br.t (by rw [hun]; exact beq_self_eq_true _) ⟨by rw [hun]; exact beq_self_eq_true _, rfl⟩), ?_⟩
  rintro c h58 ⟨rfl, rfl⟩
  -- List
  refine NilC.mk rfl ⟨_, (P.H.ext0 e55).pb.cell rfl, c160 (P.H.ext0 e55).X fun s62 h64 o62 f62 => ⟨f62.ext.keep (by omega) id, ?_⟩⟩
  have e64 := e55.trans f62.ext
  have z64 := f62.ext.size
  refine NilC.mk rfl ⟨_, (P.H.ext0 e64).pb.cell rfl, c161 (P.H.ext0 e64).Y ok.W fun s68 h70 a68 m68 e70' => ⟨e70'.keep (by omega) id, ?_⟩⟩
  have e70 := e64.trans e70'
  have z70 := e70'.size
  have o62' := o62.ext0 e70'
  refine ⟨fun c hh => c = true ∧ Ext0 h hh ∧ h70.size ≤ hh.size, Br.t rfl ?_, ?_⟩
  · refine c89 o62' (by rw [hli]; exact a68) (fun b off off' hb hb' => ?_) (by omega) fun h73 e73' => ⟨e73'.keep (by omega) fun ⟨off, x⟩ => by have := f62.new _ _ x; omega, Br.t rfl ⟨by rw [hli]; exact beq_self_eq_true _, e70.trans' e73' fun q hq ⟨off, x⟩ => by have := f62.new _ _ x; have := e55.size; omega, e73'.size⟩⟩
    have h1 := f62.new _ _ hb
    have h2 := P.H.Y.lt _ (m68 _ _ hb')
    have := e55.size
    omega
  rintro c h75 ⟨rfl, e75, z75⟩
  -- Open
  refine NilC.mk rfl ⟨_, (P.H.ext0 e75).pb.cell rfl, c91 (P.H.ext0 e75).X fun h81 e81' => ⟨e81'.keep (by omega) id, ?_⟩⟩
  have e81 := e75.trans e81'
  have z81 := e81'.size
  refine NilC.mk rfl ⟨_, (P.H.ext0 e81).pb.cell rfl, c92 (P.H.ext0 e81).Y ok.W ⟨⟨rfl, trivial⟩, Br.t rfl (Br.t (by rw [hop]; exact beq_self_eq_true _) (Br.t (by rw [hop]; exact beq_self_eq_true _) ?_))⟩⟩
  -- Same
  refine NilC.mk rfl ⟨_, (P.H.ext0 e81).pb.cell rfl, NilC.mk rfl ⟨_, (P.H.ext0 e81).pb.cell rfl, c162 (P.H.ext0 e81).X hl hl' fun h95 e95' => ⟨e95'.keep (by omega) id, ?_⟩⟩⟩
  have e95 := e81.trans e95'
  have z95 := e95'.size
  refine ⟨(P.H.ext0 e95).pb.cell rfl, c163 (P.H.ext0 e95).Y ok.W (by omega) (by omega) fun h97 e97' => ⟨e97'.keep (by omega) id, ?_⟩⟩
  rw [hsa, beq_self_eq_true]
  exact P.nx k (e95.trans e97')
end

end Go.V.YtdeihieblljfcaaGreat
/-! An act on both disks. -/
namespace Go.V.YtdeihieblljfcaaGreat
open Go Go.V

structure Ac where
  kind : Int
  path : Tx
  to : Tx
  b : Tx
  n : Int
  m : Int
  keeps : List Int
  names : List Int
structure AcR (h : Heap) (sb sk sn : Slc) (a : Ac) : Prop where
  B : Arr 1 dF h sb a.b
  K : Arr 1 iF h sk a.keeps
  N : Arr 1 iF h sn a.names
  cb : sb.len ≤ sb.cap
  path : a.path.length < 4294967281
  to : a.to.length < 4294967281
  b1 : a.b.length ≤ 4398046511104
  k1 : a.keeps.length ≤ 4398046511104
  n1 : a.names.length ≤ 4398046511104
  n : -9223372036854775808 ≤ a.n ∧ a.n ≤ 9223372036854775807
  m : -9223372036854775808 ≤ a.m ∧ a.m ≤ 9223372036854775807

section
variable {h0 h h' : Heap} {lab lab' : Labs} {M M' : Bl} {f D d p : Nat} {t : TypeId} {σ σ' : Dk} {δ δ' : Dc} {N : Num} {n n' : Nat}

theorem crash_both (P : PW h0 h lab M f D d p t σ δ N n) (hn : n ≤ 2199023250000) {a : Ac} {sb sk sn : Slc} (A : AcR h0 sb sk sn a) {b0 : Nat} (hb : b0 < h.size) (lb : lab b0 = none) (db : b0 ≠ d)
    {h1 : Heap} (e1 : Ext0 h h1) {s1 s2 : Slc} (o1 : Own 1 iF h1 s1 a.keeps) (o2 : Own 1 iF h1 s2 a.names) (g1 : ∀ y off, s1.a = some (y, off) → h.size ≤ y) (g2 : ∀ y off, s2.a = some (y, off) → h.size ≤ y)
    {R : Bool → Heap → Prop} (k : Nx h0 h lab M f D d p t N (n + 3) (R true)) :
    Call Go.Proofs.Tryz.prog 13 [.lf (.ptr (some (f, 0))), .lf (.slc s1), .lf (.slc s2)] h1 [] fun h2 => keepB h1 h2 [b0] ∧ NilC (some (p, 0)) fun b3 b4 => ∃ q : Option (Nat × Nat), cellsAt h2 b3 (b4 + 1) [.ptr q] ∧
      Call Go.Proofs.Tryz.prog 85 [.lf (.ptr q), .lf (.slc sk), .lf (.slc sn)] h2 [] fun h3 => keepB h2 h3 [b0] ∧ R true h3 := by
  have H1 := P.H.ext0 e1
  have hk1 := A.k1
  have hn1 := A.n1
  refine c13 H1.X ⟨H1.X.W, H1.G.F, H1.G.Z⟩ (by omega) (o1.arr iF_sized) (o2.arr iF_sized) (fun y off hy => ⟨P.H.X.R.free (g1 y off hy), (o1.lt _ _ hy).1⟩) (fun y off hy => ⟨P.H.X.R.free (g2 y off hy), (o2.lt _ _ hy).1⟩) (by omega) (by omega) fun h2 lab2 X2 s2' => ?_
  have G2 : Good (crashR σ a.keeps a.names) n := Good.crash ⟨H1.X.W, H1.G.F, H1.G.Z⟩ _ _
  have H2 := H1.prog X2 s2' (⟨G2.F, G2.Z⟩ : FF _ n) (crashR_q ..) (by show (0 : Int) ≤ _; omega)
  have B2 := BS.ofP M d s2'
  have z1 := e1.size
  refine ⟨B2.keep (by omega) lb db, NilC.mk rfl ⟨_, H2.pb.cell rfl, ?_⟩⟩
  refine c85 H2.Y (P.ok2 (by omega)) (by omega) (H2.old A.K) (H2.old A.N) (fun hne y off hy e => by have := A.K.lt1 hne y off hy; have := P.H.frd; omega) (fun hne y off hy e => by have := A.N.lt1 hne y off hy; have := P.H.frd; omega) fun h3 M3 Y3 s3 => ?_
  have B3 := BS.ofD lab2 s3
  have z2 := s2'.size
  refine ⟨s3.ext.keep (by omega) db, ?_⟩
  have hr := crash_rel P.rel (P.ok2 (by omega)) a.keeps a.names
  have hf : (crashDoc δ a.keeps a.names).files.length = δ.files.length := by
    have O := P.ok2 (by omega)
    unfold crashDoc
    simp only
    have O0 : Ok2 (stopD (failD δ 0 0) 0) (n + 1) := ⟨⟨O.W.ways, O.W.few, O.W.wl, O.W.nl⟩, O.F, O.fn⟩
    have h0 : (stopD (failD δ 0 0) 0).files = δ.files := rfl
    generalize stopD (failD δ 0 0) 0 = δ0 at *
    obtain ⟨ok, _, hf, _⟩ := crashDD_ok O0 a.names δ0.dirs.length
    generalize (crashDD δ0 a.names δ0.dirs.length).2 = δ1 at *
    rw [(crashDF_ok ok a.keeps (allD δ1) fun _ x => x).2.2.1, hf, h0]
  have P3 : PW h0 h3 lab2 M3 f D d p t (crashR σ a.keeps a.names) (crashDoc δ a.keeps a.names) N n := ⟨H2.doc Y3 s3, hr, by rw [hf]; exact P.fn⟩
  exact k.k h3 lab2 M3 _ _ N (P3.mono (by omega)) (Le.refl N) (((BS.of0 lab M d e1).trans B2).trans B3)

theorem PW.fail (P : PW h0 h lab M f D d p t σ δ N n) {i j : Int} (hi : -9223372036854775808 ≤ i ∧ i ≤ 9223372036854775807) (hj : -9223372036854775808 ≤ j ∧ j ≤ 9223372036854775807) {b0 : Nat} (hb : b0 < h.size) (lb : lab b0 = none) (db : b0 ≠ d) {R : Bool → Heap → Prop} (k : Nx h0 h lab M f D d p t N (n + 3) (R true)) :
    Call Go.Proofs.Tryz.prog 42 [.lf (.ptr (some (f, 0))), .lf (.int .i64 i), .lf (.int .i64 j)] h [] fun h2 => keepB h h2 [b0] ∧ NilC (some (p, 0)) fun b3 b4 => ∃ q : Option (Nat × Nat), cellsAt h2 b3 (b4 + 1) [.ptr q] ∧
      Call Go.Proofs.Tryz.prog 81 [.lf (.ptr q), .lf (.int .i64 i), .lf (.int .i64 j)] h2 [] fun h3 => keepB h2 h3 [b0] ∧ R true h3 := by
  refine c42 P.H.X fun h2 X2 s2 => ?_
  have G := P.H.G
  have G2 : FF { σ with fail := ⟨i, if 0 > j then 0 else j, 0⟩ } n := ⟨⟨⟨hi.1, hi.2, Int.le_refl 0, Int.natCast_nonneg n⟩, G.F.stop, G.F.was, G.F.opn⟩, G.Z⟩
  have H2 := P.H.prog X2 s2 G2 rfl (by show (if 0 > j then 0 else j) ≤ _; split <;> omega)
  have B2 := BS.ofP M d s2
  refine ⟨B2.keep hb lb db, NilC.mk rfl ⟨_, H2.pb.cell rfl, c81 H2.Y fun h3 Y3 e3 => ?_⟩⟩
  have s3 := DStp.of M e3
  have z2 := s2.size
  refine ⟨e3.keep (by omega) db, ?_⟩
  have hf : (failD δ i j).files = δ.files := by unfold failD; split <;> rfl
  have P3 : PW h0 h3 lab M f D d p t _ (failD δ i j) N n := ⟨H2.doc Y3 s3, fail_rel P.rel i j, by rw [hf]; exact P.fn⟩
  exact k.k h3 lab M _ _ N (P3.mono (by omega)) (Le.refl N) (B2.trans (BS.ofD lab s3))
theorem PW.stop (P : PW h0 h lab M f D d p t σ δ N n) {i : Int} (hi : -9223372036854775808 ≤ i ∧ i ≤ 9223372036854775807) {b0 : Nat} (hb : b0 < h.size) (lb : lab b0 = none) (db : b0 ≠ d) {R : Bool → Heap → Prop} (k : Nx h0 h lab M f D d p t N (n + 3) (R true)) :
    Call Go.Proofs.Tryz.prog 43 [.lf (.ptr (some (f, 0))), .lf (.int .i64 i)] h [] fun h2 => keepB h h2 [b0] ∧ NilC (some (p, 0)) fun b3 b4 => ∃ q : Option (Nat × Nat), cellsAt h2 b3 (b4 + 1) [.ptr q] ∧
      Call Go.Proofs.Tryz.prog 82 [.lf (.ptr q), .lf (.int .i64 i)] h2 [] fun h3 => keepB h2 h3 [b0] ∧ R true h3 := by
  refine c43 P.H.X fun h2 X2 s2 => ?_
  have G := P.H.G
  have G2 : FF { σ with stop := ⟨i, -1, 0⟩ } n := ⟨⟨G.F.fail, ⟨hi.1, hi.2, Int.le_refl 0, Int.natCast_nonneg n⟩, G.F.was, G.F.opn⟩, G.Z⟩
  have H2 := P.H.prog X2 s2 G2 rfl P.H.fm
  have B2 := BS.ofP M d s2
  refine ⟨B2.keep hb lb db, NilC.mk rfl ⟨_, H2.pb.cell rfl, c82 H2.Y fun h3 Y3 e3 => ?_⟩⟩
  have s3 := DStp.of M e3
  have z2 := s2.size
  refine ⟨e3.keep (by omega) db, ?_⟩
  have hf : (stopD δ i).files = δ.files := by unfold stopD; split <;> rfl
  have P3 : PW h0 h3 lab M f D d p t _ (stopD δ i) N n := ⟨H2.doc Y3 s3, stop_rel P.rel i, by rw [hf]; exact P.fn⟩
  exact k.k h3 lab M _ _ N (P3.mono (by omega)) (Le.refl N) (B2.trans (BS.ofD lab s3))

theorem c28 (P : PW h0 h lab M f D d p t σ δ N n) (hn : n ≤ 2199023250000) {a : Ac} {sb sk sn : Slc} (A : AcR h0 sb sk sn a) {R : Bool → Heap → Prop} (k : Nx h0 h lab M f D d p t N (n + 3) (R true)) :
    Call Go.Proofs.Tryz.prog 28 [.lf (.ptr (some (p, 0))), .agg [.int .i64 a.kind, .str (tx a.path), .str (tx a.to), .slc sb, .int .i64 a.n, .int .i64 a.m, .slc sk, .slc sn]] h [.one .bool] R := by
  have hk1 := A.k1
  have hn1 := A.n1
  refine ok28 (New.mk fun b0 h1 hb0 hs1 e1 k1 => ?_)
  have Q := P.ext0 e1
  have fb := P.H.fresh (b := b0) (by omega)
  have hb : b0 < h1.size := by omega
  have K : Nx h0 h1 lab M f D d p t N (n + 3) (R true) := ⟨fun h' lab' M' σ' δ' N' P' hN B => k.k h' lab' M' σ' δ' N' P' hN ((BS.of0 lab M d e1).trans B)⟩
  have KK : Nx h0 h1 lab M f D d p t N (n + 3) fun h36 => keepB h1 h36 [b0] ∧ R true h36 := ⟨fun h' lab' M' σ' δ' N' P' hN B => ⟨B.keep hb fb.1 fb.2.1, K.k h' lab' M' σ' δ' N' P' hN B⟩⟩
  have pc : cellsAt h1 p (0 + 0) [.ptr (some (f, 0))] := Q.H.pb.cell rfl
  have dc : cellsAt h1 p (0 + 1) [.ptr (some (d, 0))] := Q.H.pb.cell rfl
  refine Br.eq (fun _ => NilC.mk rfl ⟨_, pc, NilC.mk rfl ⟨_, dc, Q.mkdir hn hb fb.1 fb.2.1 K⟩⟩) fun _ => ?_
  refine Br.eq (fun _ => NilC.mk rfl ⟨_, pc, NilC.mk rfl ⟨_, dc, Q.rmdir hn hb fb.1 fb.2.1 K⟩⟩) fun _ => ?_
  refine Br.eq (fun _ => NilC.mk rfl ⟨_, pc, NilC.mk rfl ⟨_, dc, Q.create hn A.path hb fb.1 fb.2.1 K⟩⟩) fun _ => ?_
  refine ⟨fun c hh => hh = h1 ∧ (c = true → a.kind = 3 ∨ a.kind = 4), Br.eq (fun h3 => ⟨rfl, fun _ => .inl h3⟩) fun _ => ⟨rfl, fun h4 => .inr (by simpa using h4)⟩, ?_⟩
  rintro c h34 ⟨rfl, hc⟩
  refine Br.mk (fun hct => Q.writes hn (hc hct) A.path A.B A.cb A.b1 A.n.1 A.n.2 KK) fun _ => ?_
  refine Br.eq (fun _ => NilC.mk rfl ⟨_, pc, NilC.mk rfl ⟨_, dc, Q.cut hn A.path hb fb.1 fb.2.1 K⟩⟩) fun _ => ?_
  refine Br.eq (fun _ => NilC.mk rfl ⟨_, pc, NilC.mk rfl ⟨_, dc, Q.rename hn A.path A.to hb fb.1 fb.2.1 K⟩⟩) fun _ => ?_
  refine Br.eq (fun _ => NilC.mk rfl ⟨_, pc, NilC.mk rfl ⟨_, dc, Q.link hn A.path A.to hb fb.1 fb.2.1 K⟩⟩) fun _ => ?_
  refine Br.eq (fun _ => NilC.mk rfl ⟨_, pc, NilC.mk rfl ⟨_, dc, Q.remove hn A.path hb fb.1 fb.2.1 K⟩⟩) fun _ => ?_
  refine Br.eq (fun _ => NilC.mk rfl ⟨_, pc, NilC.mk rfl ⟨_, dc, Q.sync hn A.path hb fb.1 fb.2.1 K⟩⟩) fun _ => ?_
  refine Br.eq (fun _ => NilC.mk rfl ⟨_, pc, NilC.mk rfl ⟨_, dc, Q.syncDir hn hb fb.1 fb.2.1 K⟩⟩) fun _ => ?_
  refine Br.eq (fun _ => NilC.mk rfl ⟨_, pc, Q.fail A.n A.m hb fb.1 fb.2.1 K⟩) fun _ => ?_
  refine Br.eq (fun _ => NilC.mk rfl ⟨_, pc, Q.stop A.n hb fb.1 fb.2.1 K⟩) fun _ => ?_
  refine Br.eq (fun _ => NilC.mk rfl ⟨_, pc, NilC.mk rfl ⟨_, dc, Q.flip hn A.path A.n.1 A.n.2 hb fb.1 fb.2.1 K⟩⟩) fun _ => ?_
  refine Br.eq (fun _ => NilC.mk rfl ⟨_, pc, ?_⟩) fun _ => Br.eq (fun _ => Q.reads hn A.path A.to KK) fun _ => Q.nx K (Ext.refl _ _)
  have pcx : ∀ {hh : Heap}, Ext0 h34 hh → cellsAt hh p (0 + 0) [.ptr (some (f, 0))] := fun e => (Q.H.ext0 e).pb.cell rfl
  have AK := Q.H.old A.K
  have AN := Q.H.old A.N
  have iz : (Lf.int .i64 (0 : Int) :: []).length = 1 := rfl
  refine ⟨New.mk fun b126 h127 hb126 hs127 e127 k127 => ⟨pcx e127, ⟨?_, ?_⟩⟩, ?_⟩
  · refine AppC.grow iF_sized (by decide) rfl (Own.new iF_sized (l := []) k127) (AK.ext0 e127) (by simp; omega) fun s128 h129 o129 g129 => ?_
    rw [List.nil_append] at o129
    have f127 : Fresh h34 h127 ⟨some (b126, 0), 0, 0⟩ := ⟨e127, fun b off x => by cases x; omega⟩
    have f129 := f127.grow g129
    have z129 := f129.ext.size
    refine ⟨f127.keep g129 hb, pcx f129.ext, New.mk fun b130 h131 hb130 hs131 e131 k131 => ⟨pcx (f129.ext.trans e131), ?_⟩⟩
    refine AppC.grow iF_sized (by decide) rfl (Own.new iF_sized (l := []) k131) (AN.ext0 (f129.ext.trans e131)) (by simp; omega) fun s132 h133 o133 g133 => ?_
    rw [List.nil_append] at o133
    have f131 : Fresh h34 h131 ⟨some (b130, 0), 0, 0⟩ := ⟨f129.ext.trans e131, fun b off x => by cases x; omega⟩
    have f133 := f131.grow g133
    have o128 : Own 1 iF h133 s128 a.keeps := (o129.ext0 e131).ext g133.ext fun ⟨b, off, x, off', y⟩ => by cases y; have := (o129.lt _ _ x).1; omega
    exact ⟨f131.keep g133 hb, pcx f133.ext, crash_both Q hn A hb fb.1 fb.2.1 f133.ext o128 o133 (fun y off x => f129.new y off x) (fun y off x => f133.new y off x) K⟩
  · refine New.mk fun b139 h140 hb139 hs140 e140 k140 => ⟨pcx (e127.trans e140), ?_⟩
    refine AppC.grow iF_sized (by decide) rfl ((Own.new iF_sized (l := []) k127).ext0 e140) (AK.ext0 (e127.trans e140)) (by simp; omega) fun s141 h142 o142 g142 => ?_
    rw [List.nil_append] at o142
    have f140 : Fresh h34 h140 ⟨some (b126, 0), 0, 0⟩ := ⟨e127.trans e140, fun b off x => by cases x; omega⟩
    have f142 := f140.grow g142
    have k142 := k140.ext g142.ext fun ⟨off, x⟩ => by cases x; omega
    refine ⟨f140.keep g142 hb, pcx f142.ext, ?_⟩
    refine AppC.grow iF_sized (by decide) rfl (Own.new iF_sized (l := []) k142) (AN.ext0 f142.ext) (by simp; omega) fun s143 h144 o144 g144 => ?_
    rw [List.nil_append] at o144
    have f142' : Fresh h34 h142 ⟨some (b139, 0), 0, 0⟩ := ⟨f142.ext, fun b off x => by cases x; omega⟩
    have f144 := f142'.grow g144
    have o141 : Own 1 iF h144 s141 a.keeps := o142.ext g144.ext fun ⟨b, off, x, off', y⟩ => by
      cases y
      rcases g142.new with z | ⟨b', z, w⟩
      · rw [z] at x; cases x; omega
      · rw [z] at x; cases x; omega
    exact ⟨f142'.keep g144 hb, pcx f144.ext, crash_both Q hn A hb fb.1 fb.2.1 f144.ext o141 o144 (fun y off x => f142.new y off x) (fun y off x => f144.new y off x) K⟩
  · refine New.mk fun b150 h151 hb150 hs151 e151 k151 => ⟨pcx e151, New.mk fun b152 h153 hb152 hs153 e153 k153 => ⟨pcx (e151.trans e153), ?_⟩⟩
    refine AppC.grow iF_sized (by decide) rfl (Own.new iF_sized (l := []) k153) (AK.ext0 (e151.trans e153)) (by simp; omega) fun s154 h155 o155 g155 => ?_
    rw [List.nil_append] at o155
    have f153 : Fresh h34 h153 ⟨some (b152, 0), 0, 0⟩ := ⟨e151.trans e153, fun b off x => by cases x; omega⟩
    have f155 := f153.grow g155
    have k155 := (k151.ext e153).ext g155.ext fun ⟨off, x⟩ => by cases x; omega
    refine ⟨f153.keep g155 hb, pcx f155.ext, ?_⟩
    refine AppC.grow iF_sized (by decide) rfl (Own.new iF_sized (l := []) k155) (AN.ext0 f155.ext) (by simp; omega) fun s156 h157 o157 g157 => ?_
    rw [List.nil_append] at o157
    have f155' : Fresh h34 h155 ⟨some (b150, 0), 0, 0⟩ := ⟨f155.ext, fun b off x => by cases x; omega⟩
    have f157 := f155'.grow g157
    have o154 : Own 1 iF h157 s154 a.keeps := o155.ext g157.ext fun ⟨b, off, x, off', y⟩ => by
      cases y
      rcases g155.new with z | ⟨b', z, w⟩
      · rw [z] at x; cases x; omega
      · rw [z] at x; cases x; omega
    exact ⟨f155'.keep g157 hb, pcx f157.ext, crash_both Q hn A hb fb.1 fb.2.1 f157.ext o154 o157 (fun y off x => f155.new y off x) (fun y off x => f157.new y off x) K⟩
end

end Go.V.YtdeihieblljfcaaGreat
