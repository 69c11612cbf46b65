/- This text proves a part of the laws of seat YtdeihieblljfcaaGreat, under no condition: F4g. -/
import Derived.Test.YtdeihieblljfcaaGreatLD
set_option linter.unusedVariables false
set_option linter.unusedSimpArgs false
/-! DiskFast, DiskOnce. -/
namespace Go.V.YtdeihieblljfcaaGreat
open Go Go.V

theorem ImgR.keep {S : Nat → Prop} {h0 h h' : Heap} {s : Slc} {L : List Nd} (I : ImgR h0 h s L) (e : Ext S h h') (hS : ∀ b, h0.size ≤ b → b < h.size → ¬ S b) : ∃ os, Own 4 nF h' s os ∧ Im h' h0.size s os L := by
  obtain ⟨os, o, im⟩ := I.ex
  exact ⟨os, o.ext e fun ⟨b, off, hb, hx⟩ => hS b (I.ge b off hb) (o.lt _ _ hb).1 hx, im.ext e fun q hq b off hb hx => hS b (im.ge q hq b off hb).1 (im.ge q hq b off hb).2 hx⟩
theorem AcR.ext0 {h h' : Heap} {sb sk sn : Slc} {a : Ac} (A : AcR h sb sk sn a) (e : Ext0 h h') : AcR h' sb sk sn a :=
  ⟨A.B.ext0 e, A.K.ext0 e, A.N.ext0 e, A.cb, A.path, A.to, A.b1, A.k1, A.n1, A.n, A.m⟩
theorem imageL_len (σ : Dk) : (imageL σ).length = (walkL σ).length := List.length_map ..

theorem Set1.still {σ τ : Dk} (S : Set1 σ τ (keysOf σ.dirs)) : Still τ := fun a b d hl hd => by
  rw [S.dirs] at hl
  exact S.was a (look_keys hl) b d hl hd
theorem Set1.walk {σ τ : Dk} {w : List Tx} (S : Set1 σ τ w) : walkL τ = walkL σ := walkL_eq S.dirs (fun a b _ => S.now b) S.mp

theorem fast_img {τ : Dk} (S : Still τ) (hu : ∀ x c, τ.fl x = some c → 0 ≤ unsW c.opn) (W : Wf τ) (keeps names : List Int) {e : Tx × Nat} (he : e ∈ walkL τ) :
    (ndOf (crashR τ keeps names) (walkL (crashR τ keeps names)) e).2.2.1 = 0 ∧ ((ndOf τ (walkL τ) e).2.2.1 = 0 → (ndOf (crashR τ keeps names) (walkL (crashR τ keeps names)) e).2.1 = (ndOf τ (walkL τ) e).2.1) ∧
    (ndOf (crashR τ keeps names) (walkL (crashR τ keeps names)) e).2.2.2 = (ndOf τ (walkL τ) e).2.2.2 := by
  obtain ⟨_, ⟨c, hc⟩, _⟩ := walk_file W he
  rw [crashR_still S]
  obtain ⟨k1, k2, k3⟩ := foldF_keep keeps τ (distinct ((walkL τ).map (·.2)))
  obtain ⟨c', h1, h2, h3, h4⟩ := foldF_at keeps hc (distinct ((walkL τ).map (·.2)))
  have h4 := h4 ((mem_distinct _).2 (List.mem_map.2 ⟨e, he, rfl⟩))
  generalize ((distinct ((walkL τ).map (·.2))).foldl (fstepR keeps) (0, τ)).2 = ρ at *
  have hw : walkL (zero ρ) = walkL τ := walkL_eq k1 (fun a b _ => by show (ρ.dr b).map _ = _; rw [k2]) k3
  have hρ : (zero ρ).fl e.2 = some c' := h1
  rw [hw]
  unfold ndOf
  rw [hρ, hc]
  simp only [Option.map_some, Option.getD_some]
  have h0 := hu _ _ hc
  refine ⟨?_, fun hz => ?_, trivial⟩
  · rcases h3 with rfl | h3
    · omega
    · rw [h3]; decide
  · rw [h2 (by omega)]
theorem walk_crash {τ : Dk} (S : Still τ) (keeps names : List Int) : walkL (crashR τ keeps names) = walkL τ := by
  rw [crashR_still S]
  obtain ⟨k1, k2, k3⟩ := foldF_keep keeps τ (distinct ((walkL τ).map (·.2)))
  generalize ((distinct ((walkL τ).map (·.2))).foldl (fstepR keeps) (0, τ)).2 = ρ at *
  exact walkL_eq k1 (fun a b _ => by show (ρ.dr b).map _ = _; rw [k2]) k3

theorem uns_small {σ : Dk} {n : Nat} (G : Good σ n) (hn : n ≤ 8589934592) {x : Nat} {c : Fl} (hc : σ.fl x = some c) : 0 ≤ unsW c.opn := by
  have := uns_le G hn hc
  unfold unsW
  rw [wi64 (by omega) (by omega)]
  omega

/-- DiskFast. -/
theorem c3 {h : Heap} (M : MaxL h) {q : Int} {s sk sn : Slc} {os : List AcS} {keeps names : List Int} (A : Arr 8 acF h s os) (hA : ∀ o ∈ os, AcR h o.2.1 o.2.2.1 o.2.2.2 o.1) (hl : os.length ≤ 2000000000)
    (Ak : Arr 1 iF h sk keeps) (An : Arr 1 iF h sn names) (hk : ∀ b off, sk.a = some (b, off) → b < h.size) (hn : ∀ b off, sn.a = some (b, off) → b < h.size) (kl : keeps.length ≤ 4611686018427387904) (nl : names.length ≤ 4611686018427387904)
    {R : Bool → Heap → Prop} (k : ∀ h', Ext0 h h' → R true h') : Call Go.Proofs.Tryz.prog 3 [.lf (.int .i64 q), .lf (.slc s), .lf (.slc sk), .lf (.slc sn)] h [.one .bool] R := by
  refine ok3 (c9 M fun h1 e1 => Br.f rfl ?_)
  have M1 := M.ext e1 id
  refine c10 M1 (A.ext0 e1) (fun o ho => (hA o ho).ext0 e1) (by omega) (fun h' e' => Br.t rfl (k h' (e1.trans e'))) fun h4 lab M' f D d p σ δ N P => Br.f rfl ?_
  have L : Live h1 h4 lab f D σ (3 * os.length) := ⟨P.H.X, P.H.G, P.H.q.2, P.H.fr⟩
  refine c11 L (by omega) fun h6 τ S L6 s6 => Br.f rfl ?_
  have St := S.still
  refine c12 L6.X L6.G (by omega) fun s7 h8 I8 => ?_
  have L8 := L6.ext0 I8.ext
  have e8 : Ext0 h h8 := e1.trans L8.fr.e
  have z1 := e1.size
  refine c13 L8.X L8.good (by omega) (Ak.ext0 e8) (An.ext0 e8) (fun b off hb => ⟨L8.fr.no b (by have := hk b off hb; omega), by have := hk b off hb; have := e8.size; omega⟩) (fun b off hb => ⟨L8.fr.no b (by have := hn b off hb; omega), by have := hn b off hb; have := e8.size; omega⟩) kl nl fun h9 lab9 X9 s9 => ?_
  have G9 := L8.good.crash keeps names
  refine c12 X9 (n := 3 * os.length + 200) ⟨G9.F, G9.Z⟩ (by omega) fun s10 h11 I11 => ?_
  obtain ⟨os1, o1, im1⟩ := I8.keep (s9.ext.trans I11.ext.of0) fun b hb _ hx => hx (L6.X.R.free hb)
  obtain ⟨os2, o2, im2⟩ := I11.ex
  have l1 := o1.len
  have l2 := o2.len
  have l3 := im1.len
  have l4 := im2.len
  have wl := walkL_len L8.X.W
  have hw := walk_crash St keeps names
  rw [imageL_len] at l3
  rw [imageL_len, hw] at l4
  have E11 : Ext0 h h11 := (e1.trans (L8.fr.go s9).e).trans I11.ext
  refine Br.ne (fun x => absurd (by omega) x) fun _ => ?_
  refine ⟨fun i hh d => ∃ m : Nat, i = (m : Int) ∧ m ≤ (walkL τ).length ∧ hh = h11 ∧ d = (walkL τ).length - m, ⟨_, 0, rfl, Nat.zero_le _, rfl, rfl⟩, ?_⟩
  rintro i h15 dd ⟨m, rfl, hm, rfl, rfl⟩
  refine Br.dec (fun hlt => ?_) fun hge => k h15 E11
  have hlt' : m < (walkL τ).length := by omega
  have hget := List.getElem?_eq_getElem hlt'
  have hmem := List.getElem_mem hlt'
  generalize (walkL τ)[m] = e at hget hmem
  have g1 := List.getElem?_eq_getElem (l := os1) (i := m) (by omega)
  have g2 := List.getElem?_eq_getElem (l := os2) (i := m) (by omega)
  obtain ⟨a1, a2, a3⟩ := im1.at_ m _ (ndOf τ (walkL τ) e) g1 (by unfold imageL; rw [List.getElem?_map, hget]; rfl)
  obtain ⟨b1, b2, b3⟩ := im2.at_ m _ (ndOf (crashR τ keeps names) (walkL (crashR τ keeps names)) e) g2 (by unfold imageL; rw [List.getElem?_map, hw, hget]; rfl)
  generalize os1[m]'_ = o at g1 a1 a2 a3
  generalize os2[m]'_ = o' at g2 b1 b2 b3
  obtain ⟨f1, f2, f3⟩ := fast_img St (fun x c hc => uns_small L8.good (by omega) hc) L8.X.W keeps names hmem
  have A1 := o1.arr nF_sized
  have A2 := o2.arr nF_sized
  have next : ∃ b43, b43 < (walkL τ).length - m ∧ ∃ m' : Nat, IntKind.wrap .i64 ((m : Int) + 1) = (m' : Int) ∧ m' ≤ (walkL τ).length ∧ h15 = h15 ∧ b43 = (walkL τ).length - m' := ⟨(walkL τ).length - (m + 1), by omega, m + 1, by rw [wi64 (by omega) (by omega)]; rfl, by omega, rfl, rfl⟩
  refine A2.ix rfl g2 fun x1 y1 c1 => ⟨_, ⟨c1.1, trivial⟩, A1.ix rfl g1 fun x2 y2 c2 => ⟨_, ⟨c2.1, trivial⟩, ?_⟩⟩
  rw [tx_eq, a1, b1, show (ndOf (crashR τ keeps names) (walkL (crashR τ keeps names)) e).1 = (ndOf τ (walkL τ) e).1 from rfl]
  refine Br.f (by simp) (A2.ix rfl g2 fun x1 y1 c1 => ⟨_, ⟨c1.2.2.2.1, trivial⟩, A1.ix rfl g1 fun x2 y2 c2 => ⟨_, ⟨c2.2.2.2.1, trivial⟩, ?_⟩⟩)
  rw [tx_eq, a3, b3, f3]
  refine Br.f (by simp) (A2.ix rfl g2 fun x1 y1 c1 => ⟨_, ⟨c1.2.2.1, trivial⟩, ?_⟩)
  rw [b3, f1]
  refine Br.f rfl (A1.ix rfl g1 fun x2 y2 c2 => ⟨_, ⟨c2.2.2.1, trivial⟩, ?_⟩)
  rw [a3]
  refine Br.eq (fun hz => A2.ix rfl g2 fun x1 y1 c1 => ⟨_, ⟨c1.2.1, trivial⟩, _, dF_bytes (b2.arr dF_sized), A1.ix rfl g1 fun x2 y2 c2 => ⟨_, ⟨c2.2.1, trivial⟩, _, dF_bytes (a2.arr dF_sized), ?_⟩⟩) fun _ => next
  rw [tx_eq, f2 hz]
  exact Br.f (by simp) next

end Go.V.YtdeihieblljfcaaGreat
