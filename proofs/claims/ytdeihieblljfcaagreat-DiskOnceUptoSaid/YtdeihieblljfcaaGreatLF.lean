/- This text proves a part of the laws of seat YtdeihieblljfcaaGreat, under no condition: F4h. -/
import Derived.Test.YtdeihieblljfcaaGreatLE
set_option linter.unusedVariables false
set_option linter.unusedSimpArgs false
/-! DiskOnce. -/
namespace Go.V.YtdeihieblljfcaaGreat
open Go Go.V

/-- Names as they were; the first files' bytes stand fast. -/
structure One (σ τ : Dk) (m : Nat) : Prop where
  dirs : τ.dirs = σ.dirs
  dr : τ.dr = σ.dr
  mp : τ.mp = σ.mp
  calm : Calm τ
  q : τ.quota = σ.quota
  op : ∀ e ∈ (walkL σ).take m, ∀ c, τ.fl e.2 = some c → c.opn = []
theorem One.walk {σ τ : Dk} {m : Nat} (O : One σ τ m) : walkL τ = walkL σ := walkL_eq O.dirs (fun a b _ => by rw [O.dr]) O.mp
theorem appendR_fl {τ : Dk} (cm : Calm τ) (l b : Tx) {x : Nat} (hf : fileE τ l = (some x, 0)) : (appendR τ l b).2.dirs = τ.dirs ∧ (appendR τ l b).2.dr = τ.dr ∧ (appendR τ l b).2.mp = τ.mp ∧ Calm (appendR τ l b).2 ∧ (appendR τ l b).2.quota = τ.quota ∧ (∀ y, y ≠ x → (appendR τ l b).2.fl y = τ.fl y) := by
  have he : appendR τ l b = writesR τ x (τ.size x) b := by unfold appendR; rw [hf]
  rw [he]
  rcases writesR_cases τ x (τ.size x) b with h | h | ⟨c, b', _, _, _, _, _, h⟩ <;> rw [h]
  · exact ⟨rfl, rfl, rfl, cm, rfl, fun _ _ => rfl⟩
  · rw [cm.change]; exact ⟨rfl, rfl, rfl, cm, rfl, fun _ _ => rfl⟩
  · rw [cm.change]
    exact ⟨rfl, rfl, rfl, cm, rfl, fun y hy => by show upd _ _ _ _ = _; rw [upd_ne hy]⟩

theorem c4 {h : Heap} (M : MaxL h) {q : Int} {s sk sn sm : Slc} {os : List AcS} {keeps names more : List Int} (A : Arr 8 acF h s os) (hA : ∀ o ∈ os, AcR h o.2.1 o.2.2.1 o.2.2.2 o.1) (hl : os.length ≤ 2000000000)
    (Ak : Arr 1 iF h sk keeps) (An : Arr 1 iF h sn names) (Am : Arr 1 iF h sm more) (hk : ∀ b off, sk.a = some (b, off) → b < h.size) (hn : ∀ b off, sn.a = some (b, off) → b < h.size) (hm : ∀ b off, sm.a = some (b, off) → b < h.size) (kl : keeps.length ≤ 4611686018427387904) (nl : names.length ≤ 4611686018427387904) (ml : more.length ≤ 4611686018427387904)
    {R : Bool → Heap → Prop} (k : ∀ h', Ext0 h h' → R true h') : Call Go.Proofs.Tryz.prog 4 [.lf (.int .i64 q), .lf (.slc s), .lf (.slc sk), .lf (.slc sn), .lf (.slc sm)] h [.one .bool] R := by
  refine ok4 (c9 M fun h1 e1 => Br.f rfl ?_)
  have M1 := M.ext e1 id
  refine c10 M1 (A.ext0 e1) (fun o ho => (hA o ho).ext0 e1) (by omega) (fun h' e' => Br.t rfl (k h' (e1.trans e'))) fun h4 lab M' f D d p σ δ N P => Br.f rfl ?_
  have L4 : Live h1 h4 lab f D σ (3 * os.length) := ⟨P.H.X, P.H.G, P.H.q.2, P.H.fr⟩
  have z1 := e1.size
  have old : ∀ {hh : Heap} {lab : Labs} {s : Slc}, Fr h1 lab hh → (∀ b off, s.a = some (b, off) → b < h.size) → ∀ b off, s.a = some (b, off) → lab b = none ∧ b < hh.size := fun F hs b off hb => ⟨F.no b (by have := hs b off hb; omega), by have := hs b off hb; have := F.e.size; omega⟩
  have ev : ∀ {hh : Heap} {lab : Labs}, Fr h1 lab hh → Ext0 h hh := fun F => e1.trans F.e
  refine c13 L4.X L4.good (by omega) (Ak.ext0 (ev L4.fr)) (An.ext0 (ev L4.fr)) (old L4.fr hk) (old L4.fr hn) kl nl fun h5 lab5 X5 s5 => ?_
  have G5 := L4.good.crash keeps names
  have q5 : (crashR σ keeps names).quota ≤ 268435456 := by rw [crashR_q]; exact L4.q
  obtain ⟨St5, Fa5⟩ := crashR_fast σ keeps names
  have Cm5 : Calm (crashR σ keeps names) := ⟨by show (0 : Int) < 1; omega, by show (0 : Int) < 1; omega⟩
  have z5' : zero (crashR σ keeps names) = crashR σ keeps names := rfl
  generalize crashR σ keeps names = ρ at *
  have L5 : Live h1 h5 lab5 f D ρ (3 * os.length) := ⟨X5, ⟨G5.F, G5.Z⟩, q5, L4.fr.go s5⟩
  refine c12 L5.X L5.G (by omega) fun s6 h7 I7 => ?_
  have L7 := L5.ext0 I7.ext
  refine c13 L7.X L7.good (by omega) (Am.ext0 (ev L7.fr)) (Am.ext0 (ev L7.fr)) (old L7.fr hm) (old L7.fr hm) ml ml fun h8 lab8 X8 s8 => ?_
  rw [crashR_quiet St5 Fa5, z5'] at X8
  have L8 : Live h1 h8 lab8 f D ρ (3 * os.length) := ⟨X8, L7.G, L7.q, L7.fr.go s8⟩
  refine c12 L8.X L8.G (by omega) fun s9 h10 I10 => ?_
  have fr8 : ∀ b, h5.size ≤ b → b < h7.size → lab8 b = none := fun b hb hb' => (s8.lab b hb').trans (L5.X.R.free hb)
  obtain ⟨os1, o1, im1⟩ := I7.keep (s8.ext.trans I10.ext.of0) fun b hb _ hx => hx (L5.X.R.free hb)
  obtain ⟨os2, o2, im2⟩ := I10.ex
  have wl := walkL_len L8.X.W
  refine c14 (o1.arr nF_sized) im1 (o2.arr nF_sized) im2 (by rw [imageL_len]; omega) (Br.f rfl ?_)
  have L10 := L8.ext0 I10.ext
  have l1 := o1.len
  have l2 := im1.len
  rw [imageL_len] at l2
  have ge1 : ∀ b off, s6.a = some (b, off) → lab8 b = none := fun b off hb => by
    obtain ⟨os0, o0, _⟩ := I7.ex
    exact fr8 b (I7.ge b off hb) (o0.lt _ _ hb).1
  have O0 : One ρ ρ 0 := ⟨rfl, rfl, rfl, Cm5, rfl, fun e he => by rw [List.take_zero] at he; cases he⟩
  refine ⟨fun i hh d => ∃ (m : Nat) (lab : Labs) (τ : Dk), i = (m : Int) ∧ m ≤ (walkL ρ).length ∧ One ρ τ m ∧ Live h1 hh lab f D τ (3 * os.length + 6 * m) ∧ Own 4 nF hh s6 os1 ∧ (∀ b off, s6.a = some (b, off) → lab b = none) ∧ d = (walkL ρ).length - m, ⟨_, 0, lab8, ρ, rfl, Nat.zero_le _, O0, L10, o1, ge1, rfl⟩, ?_⟩
  rintro i h16 dd ⟨m, lab16, τ, rfl, hmm, O, L16, o16, g16, rfl⟩
  have hb16 : ∀ b off, s6.a = some (b, off) → b < h16.size := fun b off hb => (o16.lt b off hb).1
  refine Br.dec (fun hlt => ?_) fun hge => ?_
  · have hlt' : m < (walkL ρ).length := by omega
    have hget := List.getElem?_eq_getElem hlt'
    have hmem := List.getElem_mem hlt'
    generalize (walkL ρ)[m] = e at hget hmem
    have g1 := List.getElem?_eq_getElem (l := os1) (i := m) (by omega)
    obtain ⟨a1, _, _⟩ := im1.at_ m _ (ndOf ρ (walkL ρ) e) g1 (by unfold imageL; rw [List.getElem?_map, hget]; rfl)
    generalize os1[m]'_ = o at g1 a1
    have a1 : o.1 = e.1 := a1
    obtain ⟨fe, ⟨c0, hc0⟩, elen⟩ := walk_file L16.X.W (show e ∈ walkL τ by rw [O.walk]; exact hmem)
    refine (o16.arr nF_sized).ix rfl g1 fun b18 b19 hc => ⟨_, ⟨hc.1, trivial⟩, New.mk fun b21 h22 hb21 hs22 e22 k22 => MarkC.mk rfl k22 fun h23 hs23 e23 hcells => ?_⟩
    rw [a1]
    have E23 : Ext0 h16 h23 := e22.tmp e23 (by omega)
    have L23 := L16.ext0 E23
    have lb21 : lab16 b21 = none := L16.X.R.free (by omega)
    have A0 := (Own.new dF_sized (l := [120]) k22).arr dF_sized
    have A23 : Arr 1 dF h23 ⟨some (b21, 0), 1, 1⟩ [120] := ⟨A0.len, A0.ne, fun b' off hb' i x hx => by cases hb'; exact hcells _ _ (A0.at_ b21 0 rfl i x hx), A0.pl⟩
    refine c15 L23.X L23.G.Z L23.G.F (by omega) (by omega) A23 (Nat.le_refl _) (fun y off hy => by cases hy; exact .inl lb21) (by decide) fun h25 lab25 X25 s25 => ?_
    have G25 := L23.G.append L23.X.W L23.q e.1 [120]
    obtain ⟨d1, d2, d3, d4, d5, d6⟩ := appendR_fl O.calm e.1 [120] fe
    have o23 := o16.ext0 E23
    have o25 : Own 4 nF h25 s6 os1 := o23.ext s25.ext fun ⟨b, off, hb, hx⟩ => hx (g16 b off hb)
    have g25 : ∀ b off, s6.a = some (b, off) → lab25 b = none := fun b off hb => (s25.lab b (o23.lt _ _ hb).1).trans (g16 b off hb)
    have w25 : walkL (appendR τ e.1 [120]).2 = walkL ρ := (walkL_eq d1 (fun a b _ => by rw [d2]) d3).trans O.walk
    obtain ⟨fe5, ⟨c5, hc5⟩, _⟩ := walk_file X25.W (show e ∈ walkL (appendR τ e.1 [120]).2 by rw [w25]; exact hmem)
    refine (o25.arr nF_sized).ix rfl g1 fun b26 b27 hc' => ⟨_, ⟨hc'.1, trivial⟩, ?_⟩
    rw [a1]
    refine c16 X25 G25.F (by omega) (by omega) fun h30 X30 s30 => ?_
    have hs := syncR_eq fe5 hc5
    rw [d4.change] at hs
    rw [if_neg (fun z => z rfl)] at hs
    have G30 := G25.sync e.1
    rw [hs] at X30 G30 ⊢
    refine Br.f rfl ⟨(walkL ρ).length - (m + 1), by omega, m + 1, lab25, { (appendR τ e.1 [120]).2 with fl := upd (appendR τ e.1 [120]).2.fl e.2 ⟨c5.now, [], c5.now⟩ }, by rw [wi64 (by omega) (by omega)]; rfl, by omega, ⟨d1.trans O.dirs, d2.trans O.dr, d3.trans O.mp, d4, d5.trans O.q, fun e' he' c hc => ?_⟩, ⟨X30, G30.mono (by omega), by show (appendR τ e.1 [120]).2.quota ≤ _; rw [d5]; exact L16.q, (L23.fr.go s25).go s30⟩, o25.ext s30.ext fun ⟨b, off, hb, hx⟩ => hx (g25 b off hb), g25, rfl⟩
    have hc : upd (appendR τ e.1 [120]).2.fl e.2 _ e'.2 = some c := hc
    by_cases hx : e'.2 = e.2
    · rw [hx, upd_same] at hc; cases hc; rfl
    · rw [upd_ne hx, d6 _ hx] at hc
      rw [List.take_add_one, hget] at he'
      rcases List.mem_append.1 he' with he' | he'
      · exact O.op e' he' c hc
      · simp at he'; exact absurd (by rw [he']) hx
  · have hm' : m = (walkL ρ).length := by omega
    subst hm'
    refine c11 L16 (by omega) fun h33 τ' S L33 s33 => Br.f rfl ?_
    have St := S.still
    have hw' : walkL τ' = walkL ρ := S.walk.trans O.walk
    have Fa : Fast τ' := fun e he c hc => by
      rw [hw'] at he
      rw [S.fl] at hc
      rw [O.op e (by rw [List.take_length]; exact he) c hc]; decide
    refine c12 L33.X L33.G (by omega) fun s34 h35 I35 => ?_
    have L35 := L33.ext0 I35.ext
    refine c13 L35.X L35.good (by omega) (Am.ext0 (ev L35.fr)) (Am.ext0 (ev L35.fr)) (old L35.fr hm) (old L35.fr hm) ml ml fun h36 lab36 X36 s36 => ?_
    rw [crashR_quiet St Fa] at X36
    have G36 : FF (zero τ') (3 * os.length + 6 * (walkL ρ).length + 200) := by
      have := (Good.crash L35.good more more)
      rw [crashR_quiet St Fa] at this
      exact ⟨this.F, this.Z⟩
    refine c12 X36 G36 (by omega) fun s37 h38 I38 => ?_
    obtain ⟨os3, o3, im3⟩ := I35.keep (s36.ext.trans I38.ext.of0) fun b hb _ hx => hx (L33.X.R.free hb)
    obtain ⟨os4, o4, im4⟩ := I38.ex
    have hi : imageL (zero τ') = imageL τ' := rfl
    rw [hi] at im4
    refine c14 (o3.arr nF_sized) im3 (o4.arr nF_sized) im4 (by rw [imageL_len, hw']; omega) ?_
    exact k h38 ((ev (L35.fr.go s36)).trans I38.ext)

end Go.V.YtdeihieblljfcaaGreat
