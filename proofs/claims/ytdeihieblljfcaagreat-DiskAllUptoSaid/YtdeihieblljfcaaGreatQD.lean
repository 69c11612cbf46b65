/- This text proves a part of the laws of seat YtdeihieblljfcaaGreat, under no condition: F4e F4f. -/
import Derived.Test.YtdeihieblljfcaaGreatQC
set_option linter.unusedVariables false
set_option linter.unusedSimpArgs false
/-! Played; settled; a crash where all stands fast. -/
namespace Go.V.YtdeihieblljfcaaGreat
open Go Go.V

/-! ### Plain -/

def Still (σ : Dk) : Prop := ∀ a b d, look a σ.dirs = some b → σ.dr b = some d → d.was = []
structure Set1 (σ τ : Dk) (w : List Tx) : Prop where
  dirs : τ.dirs = σ.dirs
  mp : τ.mp = σ.mp
  fl : τ.fl = σ.fl
  calm : Calm τ
  q : τ.quota = σ.quota
  now : ∀ b, (τ.dr b).map (·.now) = (σ.dr b).map (·.now)
  was : ∀ a ∈ w, ∀ b d, look a σ.dirs = some b → τ.dr b = some d → d.was = []
theorem Set1.step {σ τ : Dk} {w : List Tx} (W : Wf σ) (S : Set1 σ τ w) {a : Tx} (ha : a ∈ keysOf σ.dirs) : (syncDirR τ a).1 = 0 ∧ Set1 σ (syncDirR τ a).2 (w ++ [a]) := by
  obtain ⟨b, hb⟩ := look_isSome (keysOf_mem.1 ha)
  obtain ⟨p, hp, hpe⟩ := List.mem_map.1 (keysOf_mem.1 ha)
  have oka : okName a = true := by rw [← hpe]; exact W.names p hp
  obtain ⟨d0, hd0⟩ := W.dirs _ (look_mem hb)
  have hn := S.now b
  rw [hd0] at hn
  obtain ⟨d, hd, hdn⟩ := Option.map_eq_some_iff.1 hn
  have he := syncDirR_eq oka (by rw [S.dirs]; exact hb) hd
  rw [S.calm.change] at he
  rw [he, if_neg (fun z => z rfl)]
  refine ⟨rfl, S.dirs, S.mp, S.fl, S.calm, S.q, fun b' => ?_, fun a' ha' b' d' hl hd' => ?_⟩
  · show (upd τ.dr b ⟨d.now, []⟩ b').map _ = _
    by_cases h : b' = b
    · subst h; rw [upd_same, hd0]; exact congrArg some (show d.now = d0.now from hdn)
    · rw [upd_ne h]; exact S.now b'
  · have hd' : upd τ.dr b ⟨d.now, []⟩ b' = some d' := hd'
    by_cases h : b' = b
    · subst h; rw [upd_same] at hd'; cases hd'; rfl
    · rw [upd_ne h] at hd'
      rcases List.mem_append.1 ha' with ha' | ha'
      · exact S.was a' ha' b' d' hl hd'
      · rw [List.mem_singleton.1 ha', hb] at hl; cases hl; exact absurd rfl h

end Go.V.YtdeihieblljfcaaGreat
/-! settles, Images, Begins, played. -/
namespace Go.V.YtdeihieblljfcaaGreat
open Go Go.V

theorem c14 {h : Heap} {B B' : Nat} {s s' : Slc} {os os' : List NdS} {L : List Nd} (a : Arr 4 nF h s os) (I : Im h B s os L) (a' : Arr 4 nF h s' os') (I' : Im h B' s' os' L) (hl : L.length ≤ 1000000) {R : Bool → Heap → Prop} (k : R true h) :
    Call Go.Proofs.Tryz.prog 14 [.lf (.slc s), .lf (.slc s')] h [.one .bool] R := by
  have l1 := a.len
  have l2 := a'.len
  have l3 := I.len
  have l4 := I'.len
  refine ok14 (Br.ne (fun x => absurd (by omega) x) fun _ => ?_)
  refine ⟨fun i hh d => ∃ m : Nat, i = (m : Int) ∧ m ≤ L.length ∧ hh = h ∧ d = L.length - m, ⟨_, 0, rfl, Nat.zero_le _, rfl, rfl⟩, ?_⟩
  rintro i h3 d ⟨m, rfl, hm, rfl, rfl⟩
  refine Br.dec (fun hlt => ?_) fun hge => k
  have hlt' : m < L.length := by omega
  have g1 := List.getElem?_eq_getElem (l := os) (i := m) (by omega)
  have g2 := List.getElem?_eq_getElem (l := os') (i := m) (by omega)
  obtain ⟨e1, o1, e2⟩ := I.at_ m _ _ g1 (List.getElem?_eq_getElem hlt')
  obtain ⟨e3, o2, e4⟩ := I'.at_ m _ _ g2 (List.getElem?_eq_getElem hlt')
  generalize os[m]'_ = o at g1 e1 o1 e2
  generalize os'[m]'_ = o' at g2 e3 o2 e4
  have hp : o.1 = o'.1 := e1.trans e3.symm
  have hq : o.2.2 = o'.2.2 := e2.trans e4.symm
  refine a.ix rfl g1 fun b5 b6 h5 => ⟨_, ⟨h5.1, trivial⟩, a'.ix rfl g2 fun b8 b9 h8 => ⟨_, ⟨h8.1, trivial⟩, ?_⟩⟩
  rw [tx_eq, hp]
  refine Br.f (by simp) ?_
  refine a.ix rfl g1 fun b5 b6 h5 => ⟨_, ⟨h5.2.2.1, trivial⟩, a'.ix rfl g2 fun b8 b9 h8 => ⟨_, ⟨h8.2.2.1, trivial⟩, ?_⟩⟩
  rw [hq]
  refine Br.f (by simp) ?_
  refine a.ix rfl g1 fun b5 b6 h5 => ⟨_, ⟨h5.2.2.2.1, trivial⟩, a'.ix rfl g2 fun b8 b9 h8 => ⟨_, ⟨h8.2.2.2.1, trivial⟩, ?_⟩⟩
  rw [tx_eq, hq]
  refine Br.f (by simp) ?_
  refine a.ix rfl g1 fun b5 b6 h5 => ⟨_, ⟨h5.2.1, trivial⟩, _, dF_bytes (o1.arr dF_sized), a'.ix rfl g2 fun b8 b9 h8 => ⟨_, ⟨h8.2.1, trivial⟩, _, dF_bytes (o2.arr dF_sized), ?_⟩⟩
  rw [tx_eq]
  exact Br.f (by simp) ⟨L.length - (m + 1), by omega, m + 1, by rw [wi64 (by omega) (by omega)]; rfl, by omega, rfl, rfl⟩

def Dc.new (q : Int) : Dc := ⟨q, [], [], 0, 0, 0, false⟩
theorem c63 {h : Heap} {q : Int} {R : Option (Nat × Nat) → Int → Heap → Prop} (k0 : q < 0 ∨ q > 268435456 → R none 1 h)
    (k : 0 ≤ q → q ≤ 268435456 → ∀ h', DD h' (fun _ => False) h.size (Dc.new q) → Ext0 h h' → R (some (h.size, 0)) 0 h') : Call Go.Proofs.Tryz.prog 63 [.lf (.int .i64 q)] h [.one .ptr, .one (.int .i64)] R := by
  refine ok63 (Br.dec (fun x => k0 (.inl x)) fun x => Br.dec (fun y => k0 (.inr y)) fun y => New.mk fun b0 h1 hb0 hs1 e1 k1 => ?_)
  subst hb0
  exact k (by omega) (by omega) h1 ⟨⟨_, _, k1, Lst.nil 2 dirF DirQ h1 _, Lst.nil 2 pairF FilQ h1 _⟩, fun i hi => hi.elim, fun x => x⟩ e1
theorem c25 {h : Heap} (M : MaxL h) {q : Int} {R : Option (Nat × Nat) → Bool → Heap → Prop} (k0 : ∀ h', Ext0 h h' → R none true h')
    (k : ∀ h' lab f D d p, PW h h' lab (fun _ => False) f D d p 61 (Dk.new q) (Dc.new q) (fun _ => none) 0 → R (some (p, 0)) true h') : Call Go.Proofs.Tryz.prog 25 [.lf (.int .i64 q)] h [.one .ptr, .one .bool] R := by
  refine ok25 (c36 M (fun hq => c63 (fun _ => Br.ne (fun x => absurd rfl x) fun _ => Br.f rfl (Br.t rfl (k0 h (Ext.refl _ _)))) fun h1 h2 => by omega) fun q1 q2 f D lab h2 X2 e2 no => ?_)
  refine c63 (fun hq => by omega) fun _ _ h5 Y5 e5 => Br.ne (fun x => absurd rfl x) fun _ => Br.f rfl (Br.f rfl (New.mk fun p h7 hp hs7 e7 k7 => ?_))
  have M0 := M.lt
  have z2 := e2.size
  have z5 := e5.size
  have X7 := (X2.ext0 e5).ext0 e7
  have e07 := (e2.trans e5).trans e7
  have free : ∀ i, h2.size ≤ i → lab i = none := fun i hi => X2.R.free hi
  have ltd := Y5.ltd
  refine k h7 lab f D h2.size p ⟨⟨X7, ⟨Few.new q, Fine.new q⟩, ⟨q1, q2⟩, ⟨e07, no⟩, Y5.ext0 e7, by show (0 : Int) ≤ _; omega, z2, fun i hi => hi.elim, free _ (Nat.le_refl _), fun i hi => hi.elim, k7, free _ (by omega), by omega, fun x => x, by omega, M0⟩, ?_, Nat.le_refl 0⟩
  exact ⟨rfl, List.Perm.refl _, List.Pairwise.nil, fun a ws h => (by cases h), fun a a' b h => (by cases h), fun i x h => (by cases h), fun i j x h => (by cases h), .inl ⟨.inl (by show (0 : Int) < 1; omega), rfl, rfl⟩, .inl ⟨.inl (by show (0 : Int) < 1; omega), rfl, rfl⟩⟩

abbrev AcS := Ac × Slc × Slc × Slc
def acF : AcS → List Lf := fun o => [.int .i64 o.1.kind, .str (tx o.1.path), .str (tx o.1.to), .slc o.2.1, .int .i64 o.1.n, .int .i64 o.1.m, .slc o.2.2.1, .slc o.2.2.2]
theorem acF_sized : Sized 8 acF := fun _ => rfl

end Go.V.YtdeihieblljfcaaGreat
