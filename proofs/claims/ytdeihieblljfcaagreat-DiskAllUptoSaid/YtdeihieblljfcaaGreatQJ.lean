/- This text proves a part of the laws of seat YtdeihieblljfcaaGreat, under no condition: F6f F6g F6h. -/
import Derived.Test.YtdeihieblljfcaaGreatQI
import Derived.Test.YtdeihieblljfcaaGreatPK
import Derived.Test.YtdeihieblljfcaaGreatQE
set_option linter.unusedVariables false
set_option linter.unusedSimpArgs false
/-! Stands. -/
namespace Go.V.YtdeihieblljfcaaGreat
open Go Go.V

theorem find_map_congr {w : List (Tx × Nat)} {g : Tx × Nat → Tx × Nat} {p q : Tx × Nat → Bool} (hg : ∀ e, (g e).1 = e.1) (h : ∀ e ∈ w, p (g e) = q e) : ((w.map g).find? p).map (·.1) = (w.find? q).map (·.1) := by
  induction w with
  | nil => rfl
  | cons e w ih =>
    rw [List.map_cons, List.find?_cons, List.find?_cons, h e List.mem_cons_self]
    cases q e with
    | true => simp [hg]
    | false => exact ih fun x hx => h x (List.mem_cons_of_mem _ hx)
theorem image_rel {N : Num} {σ : Dk} {δ : Dc} (L : Rl N σ δ) (Z : Fine σ) : imageL σ = imageD δ := by
  obtain ⟨h1, h2⟩ := walk_rel L
  unfold imageL imageD
  rw [h1, List.map_map]
  apply List.map_congr_left
  intro p hp
  obtain ⟨x, hx⟩ := h2 p hp
  obtain ⟨c, h3, h4⟩ := L.fi _ x hx
  unfold ndOf ndD
  have ok := Z x c h3
  simp only [Function.comp, hx, Option.getD_some, h3, h4, Option.map_some, Prod.mk.injEq, true_and]
  refine ⟨ok.now, ?_⟩
  unfold firstOf
  refine congrArg (fun z => Option.getD z []) (find_map_congr (g := fun p => (p.1, (N p.2).getD 0)) (q := fun e => decide (e.2 = p.2)) (fun _ => rfl) fun e he => ?_)
  obtain ⟨y, hy⟩ := h2 e he
  simp only [hy, Option.getD_some]
  rw [decide_eq_decide]
  exact ⟨fun hyx => L.ni _ _ x (by rw [hy, hyx]) hx, fun he2 => by rw [he2, hx] at hy; exact (Option.some.inj hy).symm⟩

theorem c90 {h : Heap} {M : Bl} {d : Nat} {δ : Dc} (X : DD h M d δ) (W : WD δ) {R : Slc → Heap → Prop} (k : ∀ s h', Own 1 sF h' s (δ.dirs.map (·.1)) → Fresh h h' s → R s h') :
    Call Go.Proofs.Tryz.prog 90 [.lf (.ptr (some (d, 0)))] h [.one .slc] R := by
  have few := W.few
  refine ok90 ⟨fun s i hh dd => ∃ m : Nat, i = (m : Int) ∧ m ≤ δ.dirs.length ∧ Own 1 sF hh s ((δ.dirs.map (·.1)).take m) ∧ Fresh h hh s ∧ dd = δ.dirs.length - m, ⟨_, 0, rfl, Nat.zero_le _, by rw [List.take_zero]; exact Own.nil _ _ _, Fresh.nil 0, rfl⟩, ?_⟩
  rintro s i h4 dd ⟨m, rfl, hm, o, f, rfl⟩
  have X4 := X.ext0 f.ext
  obtain ⟨sd, sf, kb, A, B⟩ := X4.ex
  have hal := Lst.len A
  refine NilC.mk rfl ⟨sd, kb.cell rfl, Br.dec (fun hlt => ?_) fun hge => ?_⟩
  · have hlt' : m < δ.dirs.length := by omega
    have hget := List.getElem?_eq_getElem hlt'
    refine NilC.mk rfl ⟨sd, kb.cell rfl, Lst.ix A rfl hget fun q b12 b13 hq hc => ⟨_, ⟨hc.1, trivial⟩, New.mk fun b15 h16 hb15 hs16 e16 k16 => ?_⟩⟩
    have ax : Arr 1 sF h16 ⟨some (b15, 0), 1, 1⟩ [δ.dirs[m].1] := (Own.new (l := [δ.dirs[m].1]) (sz := 1) (f := sF) sF_sized (by rw [← hq.1]; exact k16)).arr sF_sized
    refine AppC.grow sF_sized (by decide) rfl (o.ext0 e16) ax (by simp; omega) fun s17 h18 o18 g18 => ⟨δ.dirs.length - (m + 1), by omega, m + 1, by rw [wi64 (by omega) (by omega)]; rfl, by omega, ?_, (f.ext0 e16).grow g18, rfl⟩
    rw [List.take_add_one, List.getElem?_map, hget]
    exact o18
  · have hml : m = δ.dirs.length := by omega
    subst hml
    refine k s h4 ?_ f
    rw [List.take_of_length_le (by simp)] at o
    exact o
theorem c27 {h : Heap} {M : Bl} {d : Nat} {δ : Dc} (X : DD h M d δ) {R : Option (Nat × Nat) → Heap → Prop} (k : ∀ d1 h', d1 = h.size → DD h' M d1 δ → Ext0 h h' → R (some (d1, 0)) h') :
    Call Go.Proofs.Tryz.prog 27 [.lf (.ptr (some (d, 0)))] h [.one .ptr] R := by
  obtain ⟨sd, sf, kb, A, B⟩ := X.ex
  refine ok27 (NilC.mk rfl ⟨_, _, _, _, _, _, _, ⟨(kb.cell (off := 0) rfl).1, (kb.cell (off := 1) rfl).1, (kb.cell (off := 2) rfl).1, (kb.cell (off := 3) rfl).1, (kb.cell (off := 4) rfl).1, (kb.cell (off := 5) rfl).1, (kb.cell (off := 6) rfl).1, trivial⟩, New.mk fun b9 h10 hb9 hs10 e10 k10 => ?_⟩)
  refine ⟨_, _, (0, 0), k10, by simp, .inl (Nat.le_refl _), ?_⟩
  rintro h' rfl
  have e' : Ext (fun i => i = b9) h10 (h10.setIfInBounds b9 (.cells (wr ([.int .i64 0, .slc ⟨none, 0, 0⟩, .slc ⟨none, 0, 0⟩, .int .i64 0, .int .i64 0, .int .i64 0, .bool false].map Lf.val).toArray 0 ([.int .i64 δ.quota, .slc sd, .slc sf, .int .i64 δ.failIn, .int .i64 δ.failFor, .int .i64 δ.stopIn, .bool δ.stopped].map Lf.val)) 144 (0, 0))) := set_ext h10 b9 _
  have E : Ext0 h _ := e10.tmp e' (by omega)
  refine k b9 _ hb9 ⟨⟨sd, sf, ?_, DirsL.stab.go E (fun _ x => x.elim) (fun _ x => x) A, FilL.stab.go E (fun _ x => x.elim) (fun _ x => x) B⟩, fun i hi => by have := X.lt i hi; have := E.size; omega, X.nM (by omega)⟩ E
  have := k10.lt
  simp [Blk, wr, this]

theorem Rl.names {N : Num} {σ : Dk} {δ : Dc} (L : Rl N σ δ) (W : Wf σ) : ∀ q ∈ δ.dirs, q.1.length ≤ 1000 ∧ ∀ l ∈ q.2, ∀ p ∈ l, p.1.length ≤ 1000 := fun q hq => by
  have ok : ∀ {l : Tx}, okName l = true → l.length ≤ 1000 := fun {l} h => by
    unfold okName at h
    rw [Bool.and_eq_true, decide_eq_true_eq] at h
    omega
  obtain ⟨b, d, h1, h2, h3⟩ := L.di q.1 q.2 hq
  refine ⟨ok (W.names _ (look_mem h1)), fun l hl p hp => ?_⟩
  obtain ⟨k, hk⟩ := List.mem_iff_getElem?.1 hl
  obtain ⟨r, hr⟩ : ∃ r, (d.was ++ [d.now])[k]? = some r := ⟨_, List.getElem?_eq_getElem (by rw [h3.1]; exact ltOf hk)⟩
  obtain ⟨m, h4, h5, h6⟩ := (h3.2 k r l hr hk).ex
  have : p.1 ∈ m.map (·.1) := h5.mem_iff.2 (List.mem_map.2 ⟨p, hp, rfl⟩)
  obtain ⟨z, hz, hze⟩ := List.mem_map.1 this
  rw [← hze]
  exact ok (W.names' r m h4 z hz)

section
variable {h0 h h' : Heap} {lab lab' : Labs} {M M' : Bl} {f D d p : Nat} {t : TypeId} {σ σ' : Dk} {δ δ' : Dc} {N : Num} {n n' : Nat}

theorem c29 (P : PW h0 h lab M f D d p t σ δ N n) (hn : n ≤ 2199023250000) {R : Bool → Heap → Prop} (k : ∀ h', Ext0 h h' → R true h') : Call Go.Proofs.Tryz.prog 29 [.lf (.ptr (some (p, 0)))] h [.one .bool] R := by
  have ok := P.okD (by omega)
  have all := P.all (by omega)
  have Z := P.H.G.Z
  have L := P.rel
  have hk := L.keysD
  have few := ok.W.few
  have pc : ∀ {hh : Heap}, Ext0 h hh → cellsAt hh p (0 + 0) [.ptr (some (f, 0))] := fun e => (P.H.ext0 e).pb.cell rfl
  have dc : ∀ {hh : Heap}, Ext0 h hh → cellsAt hh p (0 + 1) [.ptr (some (d, 0))] := fun e => (P.H.ext0 e).pb.cell rfl
  have X : ∀ {hh : Heap}, Ext0 h hh → DW hh lab f D σ := fun e => P.H.X.ext0 e
  have Y : ∀ {hh : Heap}, Ext0 h hh → DD hh M d δ := fun e => P.H.Y.ext0 e
  refine ok29 ⟨fun c hh => c = false ∧ Ext0 h hh, NilC.mk rfl ⟨_, pc (Ext.refl _ _), NilC.mk rfl ⟨_, dc (Ext.refl _ _), c87 P.H.X Z fun h8 e8 => ⟨dc e8, c88 (Y e8) ok.W all.at fun h10 e10 => ?_⟩⟩⟩, ?_⟩
  · have E10 := e8.trans e10
    rw [used_rel L Z]
    refine Br.ne (fun x => absurd rfl x) fun _ => NilC.mk rfl ⟨_, pc E10, NilC.mk rfl ⟨_, dc E10, c44 (X E10) fun s17 h18 o17 f17 => ⟨dc (E10.trans f17.ext), c90 (Y (E10.trans f17.ext)) ok.W fun s19 h20 o19 f19 => ?_⟩⟩⟩
    rw [hk] at o17
    refine c89 (o17.ext0 f19.ext) (o19.arr sF_sized) (fun b off off' hb hb' => ?_) (by rw [List.length_map]; omega) fun h22 e22 => ⟨rfl, ?_⟩
    · have := (o17.lt _ _ hb).1
      have := f19.new _ _ hb'
      omega
    · refine ((E10.trans f17.ext).trans f19.ext).trans' e22 fun i hi ⟨off, hx⟩ => ?_
      have := f17.new _ _ hx
      have := E10.size
      omega
  rintro c23 h24 ⟨rfl, E24⟩
  refine Br.f rfl (NilC.mk rfl ⟨_, dc E24, c90 (Y E24) ok.W fun s28 h29 o28 f28 => ?_⟩)
  have E29 := E24.trans f28.ext
  have l28 := o28.len
  rw [List.length_map] at l28
  refine ⟨fun i hh dd => ∃ m : Nat, i = (m : Int) ∧ m ≤ δ.dirs.length ∧ Ext0 h29 hh ∧ dd = δ.dirs.length - m, ⟨_, 0, rfl, Nat.zero_le _, Ext.refl _ _, rfl⟩, ?_⟩
  rintro i h33 dd ⟨m, rfl, hm, e33, rfl⟩
  have E33 := E29.trans e33
  refine Br.dec (fun hlt => ?_) fun hge => ?_
  · have hlt' : m < δ.dirs.length := by omega
    have hget : (δ.dirs.map (·.1))[m]? = some δ.dirs[m].1 := by rw [List.getElem?_map, List.getElem?_eq_getElem hlt']; rfl
    refine NilC.mk rfl ⟨_, pc E33, ((o28.ext0 e33).arr sF_sized).ix rfl hget fun b38 b39 hc => ⟨_, hc, c91 (X E33) fun h43 e43 => NilC.mk rfl ⟨_, dc (E33.trans e43), (((o28.ext0 e33).ext0 e43).arr sF_sized).ix rfl hget fun b47 b48 hc' => ⟨_, hc', c92 (Y (E33.trans e43)) ok.W ?_⟩⟩⟩⟩
    rw [open_rel L]
    exact Br.ne (fun x => absurd rfl x) fun _ => Br.ne (fun x => absurd rfl x) fun _ => ⟨δ.dirs.length - (m + 1), by omega, m + 1, by rw [wi64 (by omega) (by omega)]; rfl, by omega, e33.trans e43, rfl⟩
  refine NilC.mk rfl ⟨_, pc E33, c12 (X E33) P.H.G (by omega) fun s57 h58 I57 => ?_⟩
  have E58 := E33.trans I57.ext
  have wl := walkL_len P.H.X.W
  have dwl : (docWalk δ).length ≤ 65536 := by
    have := (walk_rel L).1
    rw [this, List.length_map] at wl; exact wl
  refine NilC.mk rfl ⟨_, dc E58, c93 (Y E58) ok.W all.at (L.names P.H.X.W) dwl fun s62 h63 I62 => ?_⟩
  have E63 := E58.trans I62.ext
  obtain ⟨os1, o1, im1⟩ := I57.keep I62.ext.of0 fun b hb hb' x => x
  obtain ⟨os2, o2, im2⟩ := I62.ex
  rw [← image_rel L Z] at im2
  have il : (imageL σ).length ≤ 65536 := by rw [imageL_len]; exact wl
  refine c14 (o1.arr nF_sized) im1 (o2.arr nF_sized) im2 (by omega) (Br.f rfl ?_)
  have l1 := o1.len
  have l2 := im1.len
  have hlen : ∀ nd ∈ imageL σ, nd.2.1.length ≤ 4398046511104 := fun nd hnd => by
    obtain ⟨e, he, rfl⟩ := List.mem_map.1 hnd
    unfold ndOf
    simp only
    cases hc : σ.fl e.2 with
    | none => simp
    | some c => have := (Z _ c hc).len; simp; omega
  have ge57 : ∀ b off, s57.a = some (b, off) → h33.size ≤ b := I57.ge
  have z33 := E33.size
  refine ⟨fun i hh dd => ∃ (m : Nat) (os' : List NdS), i = (m : Int) ∧ m ≤ os1.length ∧ os'.length = os1.length ∧ Own 4 nF hh s57 os' ∧ (∀ j, m ≤ j → os'[j]? = os1[j]?) ∧ (∀ j o nd, m ≤ j → os1[j]? = some o → (imageL σ)[j]? = some nd → Own 1 dF hh o.2.1 nd.2.1) ∧ Ext0 h hh ∧ dd = os1.length - m,
    ⟨_, 0, os1, rfl, Nat.zero_le _, rfl, o1, fun _ _ => rfl, fun j o nd _ ho hnd => (im1.at_ j o nd ho hnd).2.1, E63, rfl⟩, ?_⟩
  rintro i h69 dd ⟨m, os', rfl, hm, hol, o', hos, hby, E69, rfl⟩
  have z69 := E69.size
  refine Br.dec (fun hlt => ?_) fun hge => k h69 E69
  have hlt' : m < os1.length := by omega
  have hget := List.getElem?_eq_getElem hlt'
  have hmem := List.getElem_mem hlt'
  have hnd := List.getElem?_eq_getElem (l := imageL σ) (i := m) (by omega)
  generalize os1[m] = o at hget hmem
  generalize (imageL σ)[m]'_ = nd at hnd
  refine (o'.arr nF_sized).ix rfl (x := o) (by rw [hos m (Nat.le_refl _)]; exact hget) fun b71 b72 hc => ⟨_, ⟨hc.2.1, trivial⟩, c94 (hby m o nd (Nat.le_refl _) hget hnd) (hlen nd (List.mem_of_getElem? hnd)) fun h74 e74 => ?_⟩
  have z74 := e74.size
  have o74 := o'.ext e74 fun ⟨b, off, hb, off', hx⟩ => im1.sd o hmem b off off' hb hx
  refine IxC.set nF_sized o74 rfl (by omega) (x := (([115, 112, 111, 105, 108, 116], ⟨none, 0, 0⟩, 0, []) : NdS)) rfl fun h77 hs77 o77 e77 => ⟨os1.length - (m + 1), by omega, m + 1, _, by rw [wi64 (by omega) (by omega)]; rfl, by omega, by rw [List.length_set]; exact hol, o77, fun j hj => ?_, fun j o2 nd2 hj ho2 hnd2 => ?_, ?_, rfl⟩
  · rw [List.getElem?_set, if_neg (by omega)]; exact hos j (by omega)
  · refine ((hby j o2 nd2 (by omega) ho2 hnd2).ext e74 fun ⟨b, off, hb, off', hx⟩ => ?_).ext e77 fun ⟨b, off, hb, off', hx⟩ => ?_
    · have := im1.dj j m o2 o b off off' ho2 hget hb hx; omega
    · exact im1.sd o2 (List.mem_of_getElem? ho2) b off' off hx hb
  · refine (E69.trans' e74 fun b hb ⟨off, hx⟩ => ?_).trans' e77 fun b hb ⟨off, hx⟩ => ?_
    · have := (im1.ge o hmem b off hx).1; omega
    · have := ge57 b off hx; omega
end

end Go.V.YtdeihieblljfcaaGreat
/-! Several pairs of disks side by side. -/
namespace Go.V.YtdeihieblljfcaaGreat
open Go Go.V

structure Pr where
  lab : Labs
  M : Bl
  f : Nat
  D : Nat
  d : Nat
  p : Nat
  σ : Dk
  δ : Dc
  N : Num
def Pr.Ok (h0 h : Heap) (n : Nat) (x : Pr) : Prop := PW h0 h x.lab x.M x.f x.D x.d x.p 61 x.σ x.δ x.N n
structure Dj (x y : Pr) : Prop where
  ll : ∀ b, x.lab b ≠ none → y.lab b ≠ none → x.lab b = some .dat ∧ y.lab b = some .dat
  lM : ∀ b, x.lab b ≠ none → ¬ y.M b
  Ml : ∀ b, y.lab b ≠ none → ¬ x.M b
  ld : x.lab y.d = none
  dl : y.lab x.d = none
  Md : ¬ x.M y.d
  dM : ¬ y.M x.d
  dd : x.d ≠ y.d
  lp : x.lab y.p = none
  pl : y.lab x.p = none
  pd : x.p ≠ y.d
  dp : y.p ≠ x.d
theorem Dj.symm {x y : Pr} (j : Dj x y) : Dj y x := ⟨fun b h1 h2 => (j.ll b h2 h1).symm, j.Ml, j.lM, j.dl, j.ld, j.dM, j.Md, fun e => j.dd e.symm, j.pl, j.lp, j.dp, j.pd⟩
structure Nb (h0 : Heap) (x : Pr) (b : Nat) : Prop where
  n : x.lab b = none ∧ b ≠ x.d ∧ ¬ x.M b ∧ b ≠ x.p ∧ h0.size ≤ b

section
variable {h0 h h' : Heap} {n n' : Nat} {x y : Pr}
theorem Pr.Ok.over (Y : y.Ok h0 h n) (X : x.Ok h0 h n) (j : Dj x y) {lab' : Labs} {M' : Bl} (B : BS x.lab x.M h lab' M' h' x.d) : y.Ok h0 h' n := by
  have H := Y.H
  have h00 := H.h00
  have no : ∀ b, ((x.lab b ≠ none ∧ x.lab b ≠ some .dat) ∨ b = x.d) → y.lab b = none := fun b hb => Classical.byContradiction fun w => by
    rcases hb with ⟨h1, h2⟩ | rfl
    · exact h2 (j.ll b h1 w).1
    · exact w j.dl
  have ge : ∀ b, ((x.lab b ≠ none ∧ x.lab b ≠ some .dat) ∨ b = x.d) → h0.size ≤ b := fun b hb => by
    rcases hb with ⟨h1, _⟩ | rfl
    · exact Classical.byContradiction fun w => h1 (X.H.fr.no b (by omega))
    · exact X.H.frd
  refine ⟨⟨⟨H.X.R.ext B.ext no, H.X.W, H.X.M.ext B.ext fun z => by have := ge 0 z; omega, H.X.l0⟩, H.G, H.q, ⟨H.fr.e.trans' B.ext fun i hi hx => by have := ge i hx; omega, H.fr.no⟩, H.Y.ext B.ext (fun i hi hm => ?_) (fun z => ?_), H.fm, H.frd, H.frM, H.ld, H.lM, H.pb.ext B.ext (fun z => ?_), H.lp, H.pd, H.pM, H.frp, H.h00⟩, Y.rel, Y.fn⟩
  · rcases hi with ⟨h1, _⟩ | rfl
    · exact j.lM i h1 hm
    · exact j.dM hm
  · rcases z with ⟨h1, _⟩ | z
    · exact h1 j.ld
    · exact j.dd z.symm
  · rcases z with ⟨h1, _⟩ | z
    · exact h1 j.lp
    · exact j.dp z
theorem Dj.step (j : Dj x y) (Y : y.Ok h0 h n) {lab' : Labs} {M' : Bl} (B : BS x.lab x.M h lab' M' h' x.d) {σ' : Dk} {δ' : Dc} {N' : Num} : Dj ⟨lab', M', x.f, x.D, x.d, x.p, σ', δ', N'⟩ y := by
  have old : ∀ b, b < h.size → lab' b = x.lab b := B.lab
  have frl : ∀ b, y.lab b ≠ none → b < h.size := Y.H.X.R.lt
  have frM : ∀ b, y.M b → b < h.size := Y.H.Y.lt
  refine ⟨fun b h1 h2 => ?_, fun b h1 h2 => ?_, fun b h1 h2 => ?_, ?_, j.dl, fun h1 => ?_, j.dM, j.dd, ?_, j.pl, j.pd, j.dp⟩
  · have h1 : lab' b ≠ none := h1
    have hb := frl b h2
    rw [old b hb] at h1
    have := j.ll b h1 h2
    exact ⟨(old b hb).trans this.1, this.2⟩
  · have h1 : lab' b ≠ none := h1
    rw [old b (frM b h2)] at h1
    exact j.lM b h1 h2
  · rcases B.new b h2 with h2 | h2
    · exact j.Ml b h1 h2
    · have := frl b h1; omega
  · exact (old _ Y.H.Y.ltd).trans j.ld
  · rcases B.new _ h1 with h2 | h2
    · exact j.Md h2
    · have := Y.H.Y.ltd; omega
  · exact (old _ Y.H.pb.lt).trans j.lp
theorem Nb.step {b : Nat} (z : Nb h0 x b) (hb : b < h.size) {lab' : Labs} {M' : Bl} (B : BS x.lab x.M h lab' M' h' x.d) {σ' : Dk} {δ' : Dc} {N' : Num} : Nb h0 ⟨lab', M', x.f, x.D, x.d, x.p, σ', δ', N'⟩ b :=
  ⟨B.free hb z.n⟩

structure All (h0 h : Heap) (n : Nat) (xs : List Pr) (s : Slc) : Prop where
  ok : ∀ x ∈ xs, x.Ok h0 h n
  dj : ∀ (i j : Nat) x y, i ≠ j → xs[i]? = some x → xs[j]? = some y → Dj x y
  own : Own 1 pF h s (xs.map (·.p))
  fr : ∀ b off, s.a = some (b, off) → ∀ x ∈ xs, Nb h0 x b
  pos : 0 < xs.length
  few : xs.length ≤ 21
theorem All.ext0 {xs : List Pr} {s : Slc} (A : All h0 h n xs s) (e : Ext0 h h') : All h0 h' n xs s :=
  ⟨fun x hx => (A.ok x hx).ext0 e, A.dj, A.own.ext0 e, A.fr, A.pos, A.few⟩
theorem All.e {xs : List Pr} {s : Slc} (A : All h0 h n xs s) : Ext0 h0 h := by
  obtain ⟨x, hx⟩ : ∃ x, x ∈ xs := List.exists_mem_of_length_pos A.pos
  exact (A.ok x hx).H.fr.e
theorem All.step {xs : List Pr} {s : Slc} (A : All h0 h n xs s) {c : Nat} (hx : xs[c]? = some x) {lab' : Labs} {M' : Bl} {σ' : Dk} {δ' : Dc} {N' : Num} (P : PW h0 h' lab' M' x.f x.D x.d x.p 61 σ' δ' N' n') (hn : n ≤ n') (B : BS x.lab x.M h lab' M' h' x.d) :
    All h0 h' n' (xs.set c ⟨lab', M', x.f, x.D, x.d, x.p, σ', δ', N'⟩) s := by
  have hc := ltOf hx
  have X := A.ok x (List.mem_of_getElem? hx)
  have get : ∀ (i : Nat) z, (xs.set c (⟨lab', M', x.f, x.D, x.d, x.p, σ', δ', N'⟩ : Pr))[i]? = some z → (i = c ∧ z = ⟨lab', M', x.f, x.D, x.d, x.p, σ', δ', N'⟩) ∨ (i ≠ c ∧ xs[i]? = some z) := fun i z hz => by
    rw [List.getElem?_set] at hz
    split at hz
    · rename_i he
      subst he
      have hz : some _ = some z := hz
      exact .inl ⟨rfl, (Option.some.inj hz).symm⟩
    · rename_i he
      exact .inr ⟨fun e => he e.symm, hz⟩
  refine ⟨fun z hz => ?_, fun i j z w hij hz hw => ?_, ?_, fun b off hb z hz => ?_, by rw [List.length_set]; exact A.pos, by rw [List.length_set]; exact A.few⟩
  · obtain ⟨i, hi⟩ := List.mem_iff_getElem?.1 hz
    rcases get i z hi with ⟨_, rfl⟩ | ⟨hne, hi⟩
    · exact P
    · exact ((A.ok z (List.mem_of_getElem? hi)).over X (A.dj c i x z (fun e => hne e.symm) hx hi) B).mono hn
  · rcases get i z hz with ⟨h1, rfl⟩ | ⟨h1, hz⟩ <;> rcases get j w hw with ⟨h2, rfl⟩ | ⟨h2, hw⟩
    · omega
    · exact (A.dj c j x w (by omega) hx hw).step (A.ok w (List.mem_of_getElem? hw)) B
    · exact ((A.dj c i x z (by omega) hx hz).step (A.ok z (List.mem_of_getElem? hz)) B).symm
    · exact A.dj i j z w hij hz hw
  · have : (xs.set c (⟨lab', M', x.f, x.D, x.d, x.p, σ', δ', N'⟩ : Pr)).map (·.p) = xs.map (·.p) := by
      rw [List.map_set]
      apply List.ext_getElem?
      intro i
      rw [List.getElem?_set]
      split
      · rename_i he; subst he
        rw [List.getElem?_map, hx, if_pos (by rw [List.length_map]; exact hc)]; rfl
      · rfl
    rw [this]
    exact A.own.ext B.ext fun ⟨b, off, hb, hx'⟩ => by
      have := (A.fr b off hb x (List.mem_of_getElem? hx)).n
      rcases hx' with ⟨h1, _⟩ | h1
      · exact h1 this.1
      · exact this.2.1 h1
  · obtain ⟨i, hi⟩ := List.mem_iff_getElem?.1 hz
    rcases get i z hi with ⟨_, rfl⟩ | ⟨hne, hi⟩
    · exact (A.fr b off hb x (List.mem_of_getElem? hx)).step (A.own.lt _ _ hb).1 B
    · exact A.fr b off hb z (List.mem_of_getElem? hi)

theorem CloneOk.pair (X : x.Ok h0 h n) {lab1 : Labs} {f1 D1 : Nat} {τ : Dk} {T : Cp} (K : CloneOk h h' x.lab lab1 f1 D1 x.σ τ T) {d1 p1 : Nat} {h2 : Heap} (e2 : Ext0 h' h2) (Y : DD h2 x.M d1 x.δ) (hd : h'.size ≤ d1) (hp : h'.size ≤ p1) (hpd : p1 ≠ d1) (kp : Blk h2 p1 61 [.ptr (some (f1, 0)), .ptr (some (d1, 0))]) :
    Pr.Ok h0 h2 n ⟨lab1, x.M, f1, D1, d1, p1, τ, x.δ, numC x.N T⟩ := by
  have H := X.H
  have h00 := H.h00
  have z0 := H.fr.e.size
  have z1 := K.e.size
  have z2 := e2.size
  obtain ⟨ds, cd, _⟩ := K.cd
  have nl : ∀ b, x.lab b = none → b < h.size → lab1 b = none := fun b hb hl => Classical.byContradiction fun w => by
    rcases K.new b w with ⟨y, _⟩ | y
    · rw [hb] at y; cases y
    · omega
  have free : ∀ b, h'.size ≤ b → lab1 b = none := fun b hb => K.R1.free hb
  exact ⟨⟨⟨K.R1.ext0 e2, K.wf H.X.W, (H.X.M.ext K.e id).ext e2 id, nl 0 H.X.l0 (by omega)⟩, K.ff H.G, by rw [cd.q]; exact H.q, ⟨(H.fr.e.trans K.e).trans e2, fun b hb => nl b (H.fr.no b hb) (by omega)⟩, Y, by rw [cd.fail]; exact H.fm, by show h0.size ≤ d1; omega, H.frM, free _ hd, fun i hi => nl i (H.lM i hi) (H.Y.lt i hi), kp, free _ hp, hpd, fun hm => by have : p1 < h.size := H.Y.lt _ hm; omega, by show h0.size ≤ p1; omega, H.h00⟩, K.rl X.rel, X.fn⟩
theorem CloneOk.dj (X : x.Ok h0 h n) {lab1 : Labs} {f1 D1 : Nat} {τ : Dk} {T : Cp} (K : CloneOk h h' x.lab lab1 f1 D1 x.σ τ T) {d1 p1 : Nat} (hd : h'.size ≤ d1) (hp : h'.size ≤ p1) {z : Pr} (Z : z.Ok h0 h n) (hz : z = x ∨ Dj z x) :
    Dj z ⟨lab1, x.M, f1, D1, d1, p1, τ, x.δ, numC x.N T⟩ := by
  have z1 := K.e.size
  have zl : ∀ b, z.lab b ≠ none → b < h.size := Z.H.X.R.lt
  have zM : ∀ b, z.M b → b < h.size := Z.H.Y.lt
  have zd := Z.H.Y.ltd
  have zp := Z.H.pb.lt
  have nl : ∀ b, b < h.size → lab1 b ≠ none → x.lab b = some .dat ∧ lab1 b = some .dat := fun b hb w => by
    rcases K.new b w with y | y
    · exact y
    · omega
  have xd : x.lab z.d = none := by
    rcases hz with rfl | hz
    · exact Z.H.ld
    · exact hz.dl
  have xp : x.lab z.p = none := by
    rcases hz with rfl | hz
    · exact Z.H.lp
    · exact hz.pl
  refine ⟨fun b h1 h2 => ?_, fun b h1 h2 => ?_, fun b h1 h2 => ?_, ?_, ?_, fun h1 => ?_, fun h1 => ?_, ?_, ?_, ?_, ?_, ?_⟩
  · obtain ⟨y1, y2⟩ := nl b (zl b h1) h2
    refine ⟨?_, y2⟩
    rcases hz with rfl | hz
    · exact y1
    · exact (hz.ll b h1 (by rw [y1]; simp)).1
  · rcases hz with rfl | hz
    · exact h1 (Z.H.lM b h2)
    · exact hz.lM b h1 h2
  · obtain ⟨y1, _⟩ := nl b (zM b h2) h1
    rcases hz with rfl | hz
    · have := Z.H.lM b h2; rw [y1] at this; cases this
    · exact hz.Ml b (by rw [y1]; simp) h2
  · exact Z.H.X.R.free (b := d1) (by omega)
  · exact Classical.byContradiction fun w => by
      have := (nl _ zd w).1
      rw [xd] at this; cases this
  · have : d1 < h.size := zM _ h1; omega
  · rcases hz with rfl | hz
    · exact Z.H.Y.no h1
    · exact hz.dM h1
  · show z.d ≠ d1; omega
  · exact Z.H.X.R.free (b := p1) (by omega)
  · exact Classical.byContradiction fun w => by
      have := (nl _ zp w).1
      rw [xp] at this; cases this
  · show z.p ≠ d1; omega
  · show p1 ≠ z.d; omega
end

end Go.V.YtdeihieblljfcaaGreat
/-! DiskAll. -/
namespace Go.V.YtdeihieblljfcaaGreat
open Go Go.V

theorem pF_sized : Sized 1 pF := fun _ => rfl
section
variable {h0 h h' : Heap} {n n' : Nat} {x y : Pr}

theorem All.clone {xs : List Pr} {s : Slc} (A : All h0 h n xs s) {c : Nat} (hx : xs[c]? = some x) (hl : xs.length ≤ 20) {lab1 : Labs} {f1 D1 : Nat} {τ : Dk} {T : Cp} {h1 h3 h4 : Heap} (K : CloneOk h h1 x.lab lab1 f1 D1 x.σ τ T) (e3 : Ext0 h1 h3) {d1 p1 : Nat}
    (hd : h1.size ≤ d1) (hd2 : d1 < h3.size) (hp : h1.size ≤ p1) (hpd : p1 ≠ d1) (Y : DD h3 x.M d1 x.δ) (kp : Blk h3 p1 61 [.ptr (some (f1, 0)), .ptr (some (d1, 0))]) {s' : Slc} (o : Own 1 pF h4 s' (xs.map (·.p) ++ [p1])) (g : Grow s h3 s' h4) :
    All h0 h4 n (xs ++ [⟨lab1, x.M, f1, D1, d1, p1, τ, x.δ, numC x.N T⟩]) s' := by
  have hxm := List.mem_of_getElem? hx
  have X := A.ok x hxm
  have z1 := K.e.size
  have z3 := e3.size
  have E3 := K.e.trans e3
  have N := K.pair X e3 Y hd hp hpd kp
  have A3 := A.ext0 E3
  have nl : ∀ b, x.lab b = none → b < h.size → lab1 b = none := fun b hb hl => Classical.byContradiction fun w => by
    rcases K.new b w with ⟨y, _⟩ | y
    · rw [hb] at y; cases y
    · omega
  have sl : ∀ b off, s.a = some (b, off) → b < h.size := fun b off hb => (A.own.lt _ _ hb).1
  have nbn : ∀ b off, s.a = some (b, off) → Nb h0 (⟨lab1, x.M, f1, D1, d1, p1, τ, x.δ, numC x.N T⟩ : Pr) b := fun b off hb => by
    obtain ⟨y1, y2, y3, y4, y5⟩ := (A.fr b off hb x hxm).n
    have := sl b off hb
    exact ⟨nl b y1 this, by show b ≠ d1; omega, y3, by show b ≠ p1; omega, y5⟩
  have tmp : ∀ z : Pr, z.Ok h0 h3 n → (∀ b off, s.a = some (b, off) → Nb h0 z b) → z.Ok h0 h4 n := fun z Z hz => ⟨Z.H.tmp g.ext fun b ⟨off, hb⟩ => (hz b off hb).n, Z.rel, Z.fn⟩
  have get : ∀ (i : Nat) z, (xs ++ [(⟨lab1, x.M, f1, D1, d1, p1, τ, x.δ, numC x.N T⟩ : Pr)])[i]? = some z → (i = xs.length ∧ z = ⟨lab1, x.M, f1, D1, d1, p1, τ, x.δ, numC x.N T⟩) ∨ (i < xs.length ∧ xs[i]? = some z) := fun i z hz => by
    by_cases hi : i < xs.length
    · rw [List.getElem?_append_left hi] at hz; exact .inr ⟨hi, hz⟩
    · have h1 := ltOf hz
      rw [List.length_append, List.length_singleton] at h1
      have hi' : i = xs.length := by omega
      subst hi'
      rw [List.getElem?_append_right (Nat.le_refl _), Nat.sub_self] at hz
      exact .inl ⟨rfl, (Option.some.inj hz).symm⟩
  have djn : ∀ (i : Nat) z, xs[i]? = some z → Dj z ⟨lab1, x.M, f1, D1, d1, p1, τ, x.δ, numC x.N T⟩ := fun i z hz => by
    refine K.dj X hd hp (A.ok z (List.mem_of_getElem? hz)) ?_
    by_cases hi : i = c
    · subst hi; rw [hx] at hz; exact .inl (Option.some.inj hz).symm
    · exact .inr (A.dj i c z x hi hz hx)
  refine ⟨fun z hz => ?_, fun i j z w hij hz hw => ?_, by rw [List.map_append]; exact o, fun b off hb z hz => ?_, by rw [List.length_append]; simp, by rw [List.length_append, List.length_singleton]; omega⟩
  · obtain ⟨i, hi⟩ := List.mem_iff_getElem?.1 hz
    rcases get i z hi with ⟨_, rfl⟩ | ⟨_, hi⟩
    · exact tmp _ N nbn
    · exact tmp _ (A3.ok z (List.mem_of_getElem? hi)) fun b off hb => A.fr b off hb z (List.mem_of_getElem? hi)
  · rcases get i z hz with ⟨h1, rfl⟩ | ⟨h1, hz⟩ <;> rcases get j w hw with ⟨h2, rfl⟩ | ⟨h2, hw⟩
    · omega
    · exact (djn j w hw).symm
    · exact djn i z hz
    · exact A.dj i j z w hij hz hw
  · obtain ⟨i, hi⟩ := List.mem_iff_getElem?.1 hz
    rcases g.new with y | ⟨b', y, hb'⟩
    · have hb : s.a = some (b, off) := y ▸ hb
      rcases get i z hi with ⟨_, rfl⟩ | ⟨_, hi⟩
      · exact nbn b off hb
      · exact A.fr b off hb z (List.mem_of_getElem? hi)
    · rw [hb] at y; cases y
      have fresh : ∀ z : Pr, z.Ok h0 h3 n → Nb h0 z b := fun z Z => ⟨Z.H.fresh hb'⟩
      rcases get i z hi with ⟨_, rfl⟩ | ⟨_, hi⟩
      · exact fresh _ N
      · exact fresh _ (A3.ok z (List.mem_of_getElem? hi))
end

theorem c6 {h : Heap} (M : MaxL h) {q : Int} {a1 : Slc} {os : List AcS} (A0 : Arr 8 acF h a1 os) (hA : ∀ o ∈ os, AcR h o.2.1 o.2.2.1 o.2.2.2 o.1) (hl : os.length ≤ 700000000000) {R : Bool → Heap → Prop} (k : ∀ h', Ext0 h h' → R true h') :
    Call Go.Proofs.Tryz.prog 6 [.lf (.int .i64 q), .lf (.slc a1)] h [.one .bool] R := by
  have hsl := A0.len
  refine ok6 (c25 M (fun h' e => Br.t rfl (k h' e)) fun h2 lab f D d p P => Br.f rfl (New.mk fun b3 h4 hb3 hs4 e4 k4 => ?_))
  refine ⟨fun p7 s8 i9 hh dd => ∃ (m : Nat) (xs : List Pr) (c : Nat) (x : Pr), i9 = (m : Int) ∧ m ≤ os.length ∧ All h hh (3 * m) xs s8 ∧ xs[c]? = some x ∧ p7 = some (x.p, 0) ∧ dd = os.length - m,
    ⟨_, 0, [⟨lab, fun _ => False, f, D, d, p, Dk.new q, Dc.new q, fun _ => none⟩], 0, _, rfl, Nat.zero_le _, ⟨fun z hz => ?_, fun i j z w hij hz hw => ?_, Own.new pF_sized (l := [p]) k4, fun b off hb z hz => ?_, by simp, by simp⟩, rfl, rfl, rfl⟩, ?_⟩
  · rw [List.mem_singleton.1 hz]; exact P.ext0 e4
  · have h1 := ltOf hz
    have h2 := ltOf hw
    rw [List.length_singleton] at h1 h2; omega
  · rw [List.mem_singleton.1 hz]
    cases hb
    exact ⟨P.H.fresh (by omega)⟩
  rintro p7 s8 i9 h10 dd ⟨m, xs, c, x, rfl, hm, A, hx, rfl, rfl⟩
  have hxm := List.mem_of_getElem? hx
  have X := A.ok x hxm
  have E10 := A.e
  refine Br.dec (fun hlt => ?_) fun hge => ?_
  · have hlt' : m < os.length := by omega
    have hget := List.getElem?_eq_getElem hlt'
    have hom := List.getElem_mem hlt'
    generalize os[m] = o at hget hom
    refine ⟨fun p35 s36 h37 => ∃ (xs : List Pr) (c : Nat) (x : Pr), All h h37 (3 * m) xs s36 ∧ xs[c]? = some x ∧ p35 = some (x.p, 0), ?_, ?_⟩
    · refine (A0.ext0 E10).ix rfl hget fun b13 b14 hc => ⟨_, ⟨hc.1, trivial⟩, Br.eq (fun _ => ?_) fun _ => ⟨xs, c, x, A, hx, rfl⟩⟩
      refine NilC.mk rfl ⟨_, X.H.pb.cell rfl, c26 X.H.X.R X.H.X.W X.H.G.F (by omega) fun f1 D1 h20 lab1 τ T K => ⟨fun c22 hh => hh = h20 ∧ c22 = decide ((s8.len : Int) > 20), Br.f rfl ⟨rfl, rfl⟩, ?_⟩⟩
      rintro c22 h23 ⟨rfl, rfl⟩
      refine Br.mk (fun ht => k h23 (E10.trans K.e)) fun hf => ?_
      have hs8 : s8.len = xs.length := by have := A.own.len; rw [List.length_map] at this; exact this
      have hx20 : xs.length ≤ 20 := by have := of_decide_eq_false hf; omega
      have X23 := X.ext0 K.e
      refine NilC.mk rfl ⟨_, X23.H.pb.cell rfl, c27 X23.H.Y fun d1 h28 hd1 Y28 e28 => New.mk fun b29 h30 hb29 hs30 e30 k30 => New.mk fun b31 h32 hb31 hs32 e32 k32 => ?_⟩
      have z28 := e28.size
      have E32 := (e28.trans e30).trans e32
      have d1l := Y28.ltd
      refine AppC.grow pF_sized (by decide) rfl (A.own.ext0 (K.e.trans E32)) ((Own.new pF_sized (l := [b29]) k32).arr pF_sized) (by simp; omega) fun s33 h34 o34 g34 => ?_
      have A34 := A.clone hx hx20 K E32 (d1 := d1) (p1 := b29) (by omega) (by omega) (by omega) (by omega) ((Y28.ext0 e30).ext0 e32) (k30.ext e32) o34 g34
      exact ⟨_, xs.length, _, A34, by rw [List.getElem?_append_right (Nat.le_refl _), Nat.sub_self]; rfl, rfl⟩
    · rintro p35 s36 h37 ⟨xs, c, x, A, hx, rfl⟩
      have X := A.ok x (List.mem_of_getElem? hx)
      refine (A0.ext0 A.e).ix rfl hget fun b38 b39 hc => ⟨_, _, _, _, _, _, _, _, hc, ?_⟩
      refine c28 X (by omega) (hA o hom) ⟨fun h49 lab' M' σ' δ' N' P' _ B => Br.f rfl (c29 P' (by omega) fun h51 e51 => Br.f rfl ⟨os.length - (m + 1), by omega, m + 1, _, c, ⟨lab', M', x.f, x.D, x.d, x.p, σ', δ', N'⟩, by rw [wi64 (by omega) (by omega)]; rfl, by omega, ((A.step hx P' (by omega) B).ext0 e51), ?_, rfl, rfl⟩)⟩
      rw [List.getElem?_set, if_pos rfl, if_pos (ltOf hx)]
  · have hs8 : s8.len = xs.length := by have := A.own.len; rw [List.length_map] at this; exact this
    have few := A.few
    refine ⟨fun i hh dd => ∃ j : Nat, i = (j : Int) ∧ j ≤ xs.length ∧ Ext0 h10 hh ∧ dd = xs.length - j, ⟨_, 0, rfl, Nat.zero_le _, Ext.refl _ _, rfl⟩, ?_⟩
    rintro i h56 dd ⟨j, rfl, hj, e56, rfl⟩
    refine Br.dec (fun hlt2 => ?_) fun hge2 => k h56 (E10.trans e56)
    have hj' : j < xs.length := by omega
    have hgetx := List.getElem?_eq_getElem hj'
    have hzm := List.getElem_mem hj'
    generalize xs[j] = z at hgetx hzm
    refine ((A.own.ext0 e56).arr pF_sized).ix rfl (x := z.p) (by rw [List.getElem?_map, hgetx]; rfl) fun b58 b59 hc => ⟨_, hc, c29 ((A.ok z hzm).ext0 e56) (by omega) fun h62 e62 => Br.f rfl ⟨xs.length - (j + 1), by omega, j + 1, by rw [wi64 (by omega) (by omega)]; rfl, by omega, e56.trans e62, rfl⟩⟩

end Go.V.YtdeihieblljfcaaGreat
