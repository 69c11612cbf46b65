/- This text proves a part of the laws of seat YtdeihieblljfcaaGreat, under no condition: F4b F4c F4d. -/
import Derived.Test.YtdeihieblljfcaaGreatKT
import Derived.Test.YtdeihieblljfcaaGreatKL
import Derived.Test.YtdeihieblljfcaaGreatLB
set_option linter.unusedVariables false
set_option linter.unusedSimpArgs false
/-! What calls come to, told of small disks. -/
namespace Go.V.YtdeihieblljfcaaGreat
open Go Go.V

theorem pathOf_two {c : UInt8} {n : Tx} (hc : okName [c] = true) (h47 : c ≠ 47) (hn : okName n = true) : pathOf (c :: 47 :: n) = some ([c], n) := by
  have h1 : (c != 47) = true := by simpa using h47
  have ht : (c :: 47 :: n).takeWhile (· != 47) = [c] := by simp [List.takeWhile_cons, h1]
  have hd : (c :: 47 :: n).dropWhile (· != 47) = 47 :: n := by simp [List.dropWhile_cons, h1]
  unfold pathOf
  rw [ht, hd]
  rw [if_pos ⟨by simp, hc, hn⟩]; rfl
theorem pathE_two {σ : Dk} {c : UInt8} {n : Tx} {b : Nat} (hc : okName [c] = true) (h47 : c ≠ 47) (hn : okName n = true) (hb : look [c] σ.dirs = some b) : pathE σ (c :: 47 :: n) = (some (b, n), 0) := by
  unfold pathE; rw [pathOf_two hc h47 hn]; simp only [hb]
theorem fileE_two {σ : Dk} {l n : Tx} {b x : Nat} {dd : Dr} {m : List (Tx × Nat)} (hp : pathE σ l = (some (b, n), 0)) (hd : σ.dr b = some dd) (hm : σ.mp dd.now = some m) (hx : look n m = some x) : fileE σ l = (some x, 0) := by
  have hb : ((σ.dr b).bind fun d => σ.mp d.now) = some m := by rw [hd]; exact hm
  unfold fileE; rw [hp]; simp only [hb, hx]
theorem createR_eq {σ : Dk} {l n : Tx} {b : Nat} {dd : Dr} {m : List (Tx × Nat)} (hp : pathE σ l = (some (b, n), 0)) (hd : σ.dr b = some dd) (hm : σ.mp dd.now = some m) (hx : look n m = none) (hl : m.length < 1024) (r x : Nat) :
    createR σ l r x = if σ.change.1 ≠ 0 then (σ.change.1, σ.change.2.2) else (0, { σ.change.2.2.chg b dd r (putN n x m) with fl := upd σ.fl x ⟨[], [], []⟩ }) := by
  have hat : σ.at b = some (dd, m) := Dk.at_some.2 ⟨hd, hm⟩
  unfold createR; rw [hp]; simp only [hat]; rw [if_neg (by rw [hx]; simp), if_neg (by omega)]
theorem appendR_eq {σ : Dk} {l b : Tx} {x : Nat} {c : Fl} (hf : fileE σ l = (some x, 0)) (hx : σ.fl x = some c) (hq : (usedN σ : Int) + b.length ≤ σ.quota) :
    ∃ b', appendR σ l b = (σ.change.1, if (σ.change.1 = 0 ∨ σ.change.2.1 = true) ∧ b' ≠ [] then { σ.change.2.2 with fl := upd σ.fl x ⟨c.fast, c.opn ++ [(c.now.length, b')], overL c.now.length b' c.now⟩ } else σ.change.2.2) ∧ (σ.change.2.1 = false → b' = b) := by
  refine ⟨if σ.change.2.1 = true then b.take (b.length / 2) else b, ?_, fun h => by rw [if_neg (by rw [h]; simp)]⟩
  unfold appendR; rw [hf]; simp only [Dk.size, hx]
  unfold writesR; simp only [hx]
  rw [if_neg (by omega), if_neg (by omega)]
  generalize (if σ.change.2.1 = true then b.take (b.length / 2) else b) = b'
  split <;> rfl
theorem syncR_eq {σ : Dk} {l : Tx} {x : Nat} {c : Fl} (hf : fileE σ l = (some x, 0)) (hx : σ.fl x = some c) :
    syncR σ l = if σ.change.1 ≠ 0 then (σ.change.1, σ.change.2.2) else (0, { σ.change.2.2 with fl := upd σ.fl x ⟨c.now, [], c.now⟩ }) := by
  unfold syncR; rw [hf]; simp only [hx]
theorem syncDirR_eq {σ : Dk} {l : Tx} {b : Nat} {d : Dr} (ho : okName l = true) (hl : look l σ.dirs = some b) (hd : σ.dr b = some d) :
    syncDirR σ l = if σ.change.1 ≠ 0 then (σ.change.1, σ.change.2.2) else (0, { σ.change.2.2 with dr := upd σ.dr b ⟨d.now, []⟩ }) := by
  unfold syncDirR findE; rw [if_pos ho]; simp only [hl, hd]
theorem readE_eq {σ : Dk} {l : Tx} {x : Nat} {c : Fl} (hf : fileE σ l = (some x, 0)) (hx : σ.fl x = some c) : readE σ l = (c.now, 0) := by
  unfold readE; rw [hf]; simp only [hx]
theorem mkdirR_eq {σ : Dk} {l : Tx} (ho : okName l = true) (hl : look l σ.dirs = none) (hm : σ.dirs.length < 64) (r b : Nat) :
    mkdirR σ l r b = if σ.change.1 ≠ 0 then (σ.change.1, σ.change.2.2) else (0, { σ.change.2.2 with dirs := putN l b σ.dirs, mp := upd σ.mp r [], dr := upd σ.dr b ⟨r, []⟩ }) := by
  unfold mkdirR; rw [if_pos ho, if_neg (by rw [hl]; simp), if_neg (by omega)]

/-- A directory, some of the maps of names, some of the files. -/
structure Sm (σ : Dk) (dirs : List (Tx × Nat)) (ds : List (Nat × Dr)) (ms : List (Nat × List (Tx × Nat))) (fs : List (Nat × Fl)) : Prop where
  dirs : σ.dirs = dirs
  ds : ∀ p ∈ ds, σ.dr p.1 = some p.2
  ms : ∀ p ∈ ms, σ.mp p.1 = some p.2
  fs : ∀ p ∈ fs, σ.fl p.1 = some p.2
theorem Sm.change {σ : Dk} {dirs ds ms fs} (S : Sm σ dirs ds ms fs) : Sm σ.change.2.2 dirs ds ms fs := ⟨S.dirs, S.ds, S.ms, S.fs⟩

/-- The names of a small directory in order. -/
theorem sortT_eq {l : List Tx} (h : l.Pairwise (· ≤ ·)) : sortT l = l :=
  List.Perm.eq_of_pairwise (le := fun a b : Tx => a ≤ b) (fun x y _ _ h1 h2 => List.le_antisymm h1 h2) (sortT_sorted l) h (sortT_perm l)
theorem walkD_eq {σ : Dk} {d : Tx} {b : Nat} {dd : Dr} {m : List (Tx × Nat)} (hb : look d σ.dirs = some b) (hd : σ.dr b = some dd) (hm : σ.mp dd.now = some m) : walkD σ d = (keysOf m).map fun n => (d ++ 47 :: n, (look n m).getD 0) := by
  have hat : σ.at b = some (dd, m) := Dk.at_some.2 ⟨hd, hm⟩
  unfold walkD; rw [hb, Option.bind_some, hat]

end Go.V.YtdeihieblljfcaaGreat
set_option linter.unusedVariables false
set_option linter.unusedSimpArgs false
/-! The first example. -/
namespace Go.V.YtdeihieblljfcaaGreat
open Go Go.V

theorem Live.extS {S : Nat → Prop} {h0 h h' : Heap} {lab : Labs} {f D : Nat} {σ : Dk} {n : Nat} (L : Live h0 h lab f D σ n) (e : Ext S h h') (hS : ∀ i, S i → lab i = none ∧ h0.size ≤ i ∧ i ≠ 0) : Live h0 h' lab f D σ n :=
  ⟨⟨L.X.R.ext e fun i hi => (hS i hi).1, L.X.W, L.X.M.ext e fun h => (hS 0 h).2.2 rfl, L.X.l0⟩, L.G, L.q, ⟨L.fr.e.trans' e fun i hi hs => by have := (hS i hs).2.1; omega, L.fr.no⟩⟩

/-- Bytes that were just made. -/
theorem freshBytes {h0 h : Heap} {lab : Labs} {f D : Nat} {σ : Dk} {n : Nat} (L : Live h0 h lab f D σ n) (l : Tx) {K : Nat → Heap → Prop}
    (k : ∀ b h', Live h0 h' lab f D σ n → Arr 1 dF h' ⟨some (b, 0), l.length, l.length⟩ l → lab b = none → h.size ≤ b → K b h') :
    New 5 (l.flatMap dF) h fun b h1 => MarkC h1 (some (b, 0)) fun h2 => K b h2 := by
  refine New.mk fun b h1 hb hs1 e1 k1 => MarkC.mk rfl k1 fun h2 hs2 e2 hc => ?_
  have lb : lab b = none := L.X.R.free (by omega)
  have A := (Own.new dF_sized (l := l) k1).arr dF_sized
  have hz := L.fr.e.size
  have hM := L.X.M.lt
  refine k b h2 ((L.ext0 e1).extS e2 fun i hi => by rw [show i = b from hi]; exact ⟨lb, by omega, by omega⟩) ⟨A.len, A.ne, fun b' off hb' i x hx => ?_, A.pl⟩ lb (by omega)
  cases hb'
  exact hc _ _ (A.at_ b 0 rfl i x hx)

abbrev nD : Tx := [100]
abbrev nA : Tx := [97]
abbrev pDA : Tx := [100, 47, 97]
theorem calm_new (q : Int) : Calm (Dk.new q) := ⟨by show (0 : Int) < 1; omega, by show (0 : Int) < 1; omega⟩
theorem br_zero {i : Int} (hi : i = 0) {X Y : Prop} (y : Y) : Br (i != 0) X Y := Br.f (by rw [hi]; rfl) y

theorem c9 {h : Heap} (M : MaxL h) {R : Bool → Heap → Prop} (k : ∀ h', Ext0 h h' → R true h') : Call Go.Proofs.Tryz.prog 9 [] h [.one .bool] R := by
  refine ok9 (c36 M (fun x => by omega) fun _ _ f D lab h2 X2 e2 hno => ?_)
  have L2 : Live h h2 lab f D (Dk.new 100) 0 := ⟨X2, ⟨Few.new _, Fine.new _⟩, by show (100 : Int) ≤ 268435456; omega, ⟨e2, hno⟩⟩
  refine ⟨fun c hh => c = false ∧ ∃ lab σ b r x, Live h hh lab f D σ 30 ∧ σ.dirs = [(nD, b)] ∧ σ.dr b = some ⟨r, []⟩ ∧ σ.mp r = some [(nA, x)] ∧ σ.fl x = some ⟨[120, 121, 122], [(1, [85, 86])], [120, 85, 86]⟩, ?_, ?_⟩
  · refine br_zero rfl (Br.f rfl (L2.mkdir (l := nD) (by omega) fun r b h5 lab5 f1 f2 L5 => ?_))
    have hm : mkdirR (Dk.new 100) nD r b = (0, { Dk.new 100 with dirs := [(nD, b)], mp := upd (fun _ => none) r [], dr := upd (fun _ => none) b ⟨r, []⟩ }) := by
      rw [mkdirR_eq (by decide) rfl (by show (0 : Nat) < 64; omega), (calm_new 100).change]; rfl
    rw [hm] at L5 ⊢
    simp only at L5 ⊢
    generalize hσ1 : ({ Dk.new 100 with dirs := [(nD, b)], mp := upd (fun _ => none) r [], dr := upd (fun _ => none) b ⟨r, []⟩ } : Dk) = σ1 at L5
    have q1 : σ1.quota = 100 := by rw [← hσ1]; rfl
    have d1 : σ1.dirs = [(nD, b)] := by rw [← hσ1]
    have r1 : σ1.dr b = some ⟨r, []⟩ := by rw [← hσ1]; exact upd_same (fun _ => none) b (⟨r, []⟩ : Dr)
    have m1 : σ1.mp r = some [] := by rw [← hσ1]; exact upd_same (fun _ => none) r ([] : List (Tx × Nat))
    have calm1 : Calm σ1 := by rw [← hσ1]; exact calm_new 100
    have p1 : pathE σ1 pDA = (some (b, nA), 0) := pathE_two (by decide) (by decide) (by decide) (by rw [d1]; rfl)
    refine br_zero rfl (L5.create (l := pDA) (by omega) (by decide) fun r2 x h7 lab7 f3 f4 L7 => ?_)
    have hc : createR σ1 pDA r2 x = (0, { σ1.chg b ⟨r, []⟩ r2 [(nA, x)] with fl := upd σ1.fl x ⟨[], [], []⟩ }) := by
      rw [createR_eq p1 r1 m1 rfl (by decide), calm1.change]; rfl
    rw [hc] at L7 ⊢
    simp only at L7 ⊢
    generalize hσ2 : ({ σ1.chg b ⟨r, []⟩ r2 [(nA, x)] with fl := upd σ1.fl x ⟨[], [], []⟩ } : Dk) = σ2 at L7
    have q2 : σ2.quota = 100 := by rw [← hσ2]; exact q1
    have d2 : σ2.dirs = [(nD, b)] := by rw [← hσ2]; exact d1
    have r2' : σ2.dr b = some ⟨r2, [r]⟩ := by rw [← hσ2]; exact upd_same _ _ _
    have m2 : σ2.mp r2 = some [(nA, x)] := by rw [← hσ2]; exact upd_same _ _ _
    have x2 : σ2.fl x = some ⟨[], [], []⟩ := by rw [← hσ2]; exact upd_same _ _ _
    have calm2 : Calm σ2 := by rw [← hσ2]; exact calm1
    have p2 : pathE σ2 pDA = (some (b, nA), 0) := pathE_two (by decide) (by decide) (by decide) (by rw [d2]; rfl)
    have fe2 := fileE_two p2 r2' m2 (x := x) rfl
    have w2 : ∀ {τ : Dk} {c : Fl}, τ.dirs = [(nD, b)] → τ.dr b = some ⟨r2, [r]⟩ → τ.mp r2 = some [(nA, x)] → τ.fl x = some c → usedN τ = c.now.length := fun {τ c} a1 a2 a3 a4 => by
      have hk : keysOf τ.dirs = [nD] := by rw [a1]; exact sortT_eq (by simp)
      have hw : walkL τ = [(nD ++ 47 :: nA, x)] := by
        unfold walkL
        rw [hk, List.flatMap_cons, List.flatMap_nil, List.append_nil, walkD_eq (b := b) (by rw [a1]; rfl) a2 a3]
        rw [show keysOf [(nA, x)] = [nA] from sortT_eq (by simp)]
        rfl
      unfold usedN
      rw [hw]
      show ((distinct [x]).map τ.size).sum = _
      rw [show distinct [x] = [x] from rfl]
      simp [Dk.size, a4]
    refine br_zero rfl (freshBytes L7 [120, 121, 122] fun b8 h10 L10 A10 lb8 _ => ?_)
    refine L10.append (l := pDA) (by omega) (by decide) A10 (Nat.le_refl _) (fun y off hy => by cases hy; exact .inl lb8) (by decide) fun h12 lab12 L12 s12 => ?_
    obtain ⟨b', hap, hb'⟩ := appendR_eq (b := [120, 121, 122]) fe2 x2 (by rw [w2 d2 r2' m2 x2, q2]; decide)
    rw [calm2.change] at hap hb'
    rw [hb' rfl, if_pos ⟨.inl rfl, by simp⟩] at hap
    rw [hap] at L12 ⊢
    simp only at L12 ⊢
    generalize hσ3 : ({ σ2 with fl := upd σ2.fl x ⟨[], [] ++ [(([] : Tx).length, [120, 121, 122])], overL ([] : Tx).length [120, 121, 122] []⟩ } : Dk) = σ3 at L12
    have q3 : σ3.quota = 100 := by rw [← hσ3]; exact q2
    have d3 : σ3.dirs = [(nD, b)] := by rw [← hσ3]; exact d2
    have r3 : σ3.dr b = some ⟨r2, [r]⟩ := by rw [← hσ3]; exact r2'
    have m3 : σ3.mp r2 = some [(nA, x)] := by rw [← hσ3]; exact m2
    have x3 : σ3.fl x = some ⟨[], [(0, [120, 121, 122])], [120, 121, 122]⟩ := by rw [← hσ3]; exact upd_same _ _ _
    have calm3 : Calm σ3 := by rw [← hσ3]; exact calm2
    have p3 : pathE σ3 pDA = (some (b, nA), 0) := pathE_two (by decide) (by decide) (by decide) (by rw [d3]; rfl)
    have fe3 := fileE_two p3 r3 m3 (x := x) rfl
    refine br_zero rfl (L12.sync (l := pDA) (by omega) (by decide) fun h14 L14 => ?_)
    have hs : syncR σ3 pDA = (0, { σ3 with fl := upd σ3.fl x ⟨[120, 121, 122], [], [120, 121, 122]⟩ }) := by
      rw [syncR_eq fe3 x3, calm3.change]; rfl
    rw [hs] at L14 ⊢
    simp only at L14 ⊢
    generalize hσ4 : ({ σ3 with fl := upd σ3.fl x ⟨[120, 121, 122], [], [120, 121, 122]⟩ } : Dk) = σ4 at L14
    have q4 : σ4.quota = 100 := by rw [← hσ4]; exact q3
    have d4 : σ4.dirs = [(nD, b)] := by rw [← hσ4]; exact d3
    have r4 : σ4.dr b = some ⟨r2, [r]⟩ := by rw [← hσ4]; exact r3
    have m4 : σ4.mp r2 = some [(nA, x)] := by rw [← hσ4]; exact m3
    have x4 : σ4.fl x = some ⟨[120, 121, 122], [], [120, 121, 122]⟩ := by rw [← hσ4]; exact upd_same _ _ _
    have calm4 : Calm σ4 := by rw [← hσ4]; exact calm3
    have p4 : pathE σ4 pDA = (some (b, nA), 0) := pathE_two (by decide) (by decide) (by decide) (by rw [d4]; rfl)
    have fe4 := fileE_two p4 r4 m4 (x := x) rfl
    refine br_zero rfl (freshBytes L14 [85, 86] fun b15 h17 L17 A17 lb15 _ => ?_)
    refine L17.write (l := pDA) (by omega) (by decide) (i := 1) (by omega) (by omega) A17 (Nat.le_refl _) (fun y off hy => by cases hy; exact .inl lb15) (by decide) fun h19 lab19 L19 s19 => ?_
    have hwr : writeR σ4 pDA 1 [85, 86] = (0, { σ4 with fl := upd σ4.fl x ⟨[120, 121, 122], [(1, [85, 86])], [120, 85, 86]⟩ }) := by
      unfold writeR; rw [fe4]; simp only
      unfold writesR; simp only [x4]
      rw [if_neg (by decide), if_neg (by rw [w2 d4 r4 m4 x4, q4]; decide), calm4.change]; rfl
    rw [hwr] at L19 ⊢
    simp only at L19 ⊢
    generalize hσ5 : ({ σ4 with fl := upd σ4.fl x ⟨[120, 121, 122], [(1, [85, 86])], [120, 85, 86]⟩ } : Dk) = σ5 at L19
    have d5 : σ5.dirs = [(nD, b)] := by rw [← hσ5]; exact d4
    have r5 : σ5.dr b = some ⟨r2, [r]⟩ := by rw [← hσ5]; exact r4
    have m5 : σ5.mp r2 = some [(nA, x)] := by rw [← hσ5]; exact m4
    have x5 : σ5.fl x = some ⟨[120, 121, 122], [(1, [85, 86])], [120, 85, 86]⟩ := by rw [← hσ5]; exact upd_same _ _ _
    have calm5 : Calm σ5 := by rw [← hσ5]; exact calm4
    refine br_zero rfl (L19.syncDir (l := nD) (by omega) fun h21 L21 => ?_)
    have hsd : syncDirR σ5 nD = (0, { σ5 with dr := upd σ5.dr b ⟨r2, []⟩ }) := by
      rw [syncDirR_eq (by decide) (by rw [d5]; rfl) r5, calm5.change]; rfl
    rw [hsd] at L21 ⊢
    exact ⟨rfl, lab19, _, b, r2, x, L21.mono (by omega), d5, upd_same _ _ _, m5, x5⟩
  · rintro c h23 ⟨rfl, lab, σ, b, r, x, L, d1, r1, m1, x1⟩
    refine Br.f rfl (New.mk fun b24 h25 hb24 hs25 e25 k25 => ?_)
    have L25 := L.ext0 e25
    refine L25.crash (by omega) (keeps := [1]) (names := []) ((Own.new iF_sized (l := [1]) k25).arr iF_sized) (Arr.nil 1 iF h25 0) (fun y off hy => by cases hy; exact ⟨L.X.R.free (by omega), by omega⟩) (fun y off hy => by cases hy) (by decide) (by decide) fun h26 lab26 L26 => ?_
    have hk : keysOf σ.dirs = [nD] := by rw [d1]; exact sortT_eq (by simp)
    have hcd : crashD σ [] (keysOf σ.dirs) = (0, σ) := by
      rw [hk]
      show dstep [] (0, σ) nD = _
      unfold dstep
      simp only [d1, show look nD [(nD, b)] = some b from rfl, Option.bind_some, r1, Option.map_some, if_pos]
    have hwk : walkL σ = [(nD ++ 47 :: nA, x)] := by
      unfold walkL
      rw [hk, List.flatMap_cons, List.flatMap_nil, List.append_nil, walkD_eq (b := b) (by rw [d1]; rfl) r1 m1]
      rw [show keysOf [(nA, x)] = [nA] from sortT_eq (by simp)]
      rfl
    have hcr : crashR σ [1] [] = { σ with fl := upd σ.fl x ⟨[120, 85, 122], [], [120, 85, 122]⟩, fail := ⟨0, 0, 0⟩, stop := ⟨0, 0, 0⟩ } := by
      unfold crashR
      rw [hcd]
      simp only [hwk]
      have : crashF σ [1] [(nD ++ 47 :: nA, x)] = ([x], 1, { σ with fl := upd σ.fl x ⟨[120, 85, 122], [], [120, 85, 122]⟩ }) := by
        show cstep [1] ([], 0, σ) (nD ++ 47 :: nA, x) = _
        unfold cstep
        simp only [x1]
        rfl
      rw [this]
    rw [hcr] at L26
    generalize hσ2 : ({ σ with fl := upd σ.fl x ⟨[120, 85, 122], [], [120, 85, 122]⟩, fail := ⟨0, 0, 0⟩, stop := ⟨0, 0, 0⟩ } : Dk) = σ2 at L26
    have d2 : σ2.dirs = [(nD, b)] := by rw [← hσ2]; exact d1
    have r2 : σ2.dr b = some ⟨r, []⟩ := by rw [← hσ2]; exact r1
    have m2 : σ2.mp r = some [(nA, x)] := by rw [← hσ2]; exact m1
    have x2 : σ2.fl x = some ⟨[120, 85, 122], [], [120, 85, 122]⟩ := by rw [← hσ2]; exact upd_same _ _ _
    have p2 : pathE σ2 pDA = (some (b, nA), 0) := pathE_two (by decide) (by decide) (by decide) (by rw [d2]; rfl)
    have fe2 := fileE_two p2 r2 m2 (x := x) rfl
    refine L26.read (l := pDA) (by decide) fun s27 h29 o29 f29 L29 => ?_
    rw [readE_eq fe2 x2] at o29 ⊢
    refine Br.t rfl ⟨tx [120, 85, 122], (o29.arr dF_sized).bytes (fun _ => rfl), ?_⟩
    have : strEq (tx [120, 85, 122]) (ByteArray.mk #[(120 : UInt8), (85 : UInt8), (122 : UInt8)]) = true := by
      rw [show (ByteArray.mk #[(120 : UInt8), (85 : UInt8), (122 : UInt8)]) = tx [120, 85, 122] from rfl, tx_eq]; simp
    rw [this]
    exact k h29 L29.fr.e

end Go.V.YtdeihieblljfcaaGreat
set_option linter.unusedVariables false
set_option linter.unusedSimpArgs false
/-! Image. -/
namespace Go.V.YtdeihieblljfcaaGreat
open Go Go.V

abbrev NdS := Tx × Slc × Int × Tx
abbrev Nd := Tx × Tx × Int × Tx
def nF : NdS → List Lf := fun o => [.str (tx o.1), .slc o.2.1, .int .i64 o.2.2.1, .str (tx o.2.2.2)]
theorem nF_sized : Sized 4 nF := fun _ => rfl
def firstOf (w : List (Tx × Nat)) (x : Nat) : Tx := ((w.find? fun e => decide (e.2 = x)).map (·.1)).getD []
def ndOf (σ : Dk) (w : List (Tx × Nat)) (e : Tx × Nat) : Nd := (e.1, ((σ.fl e.2).map (·.now)).getD [], ((σ.fl e.2).map fun c => unsW c.opn).getD 0, firstOf w e.2)
/-- All files. -/
def imageL (σ : Dk) : List Nd := (walkL σ).map (ndOf σ (walkL σ))

theorem firstOf_new {pre : List (Tx × Nat)} {path : Tx} {x : Nat} {rest : List (Tx × Nat)} (h : x ∉ pre.map (·.2)) : firstOf (pre ++ (path, x) :: rest) x = path := by
  unfold firstOf
  rw [List.find?_append, List.find?_eq_none.2 fun e he => by simpa using fun z => h (List.mem_map.2 ⟨e, he, z⟩)]
  simp

/-- The first path of each file that was met. -/
def FirstM (h : Heap) (b : Nat) (xs : List Nat) (fo : Nat → Tx) : Prop := ∃ L : List Nat, (∀ x, x ∈ L ↔ x ∈ xs) ∧ MapR h b .ptr (.one .str) sF (L.map fun p => ((some (p, 0), fo p) : Option (Nat × Nat) × Tx))
theorem FirstM.ext {S : Nat → Prop} {h h' : Heap} {b : Nat} {xs : List Nat} {fo : Nat → Tx} (M : FirstM h b xs fo) (e : Ext S h h') (hs : ¬ S b) : FirstM h' b xs fo := let ⟨L, hL, M⟩ := M; ⟨L, hL, MapR.ext M e hs⟩
theorem FirstM.lt {h : Heap} {b : Nat} {xs : List Nat} {fo : Nat → Tx} (M : FirstM h b xs fo) : b < h.size := let ⟨_, _, M⟩ := M; MapR.lt M
theorem FirstM.mono {h : Heap} {b : Nat} {xs ys : List Nat} {fo : Nat → Tx} (M : FirstM h b xs fo) (e : ∀ x, x ∈ xs ↔ x ∈ ys) : FirstM h b ys fo := let ⟨L, hL, M⟩ := M; ⟨L, fun x => (hL x).trans (e x), M⟩
theorem FirstM.look {h : Heap} {b : Nat} {xs : List Nat} {fo : Nat → Tx} (M : FirstM h b xs fo) {x : Nat} (hm : x ∈ xs) (hp : ∀ y ∈ xs, plainAt h y) : LookR h .ptr (.one .str) [.str (ByteArray.mk #[])] (some b) (some (x, 0)) [.str (tx (fo x))] true := by
  obtain ⟨L, hL, M⟩ := M
  exact MapR.hit M trivial (k := some (x, 0)) (v := fo x) (List.mem_map.2 ⟨x, (hL x).2 hm, rfl⟩) (fun e he => by
    obtain ⟨p, hpL, rfl⟩ := List.mem_map.1 he
    exact .inr ⟨hp x hm, hp p ((hL p).1 hpL)⟩) _ rfl
theorem FirstM.put {h : Heap} {b : Nat} {xs : List Nat} {fo : Nat → Tx} (M : FirstM h b xs fo) {x : Nat} (hn : x ∉ xs) (hx : plainAt h x) (hp : ∀ y ∈ xs, plainAt h y) {K : Heap → Prop} (k : ∀ h', h'.size = h.size → FirstM h' b (xs ++ [x]) fo → Ext (fun i => i = b) h h' → K h') :
    UpdC .ptr (.one .str) h (some b) (some (x, 0)) [.str (tx (fo x))] K := by
  obtain ⟨L, hL, M⟩ := M
  have ko : KeysOk h .ptr (some (x, 0)) (L.map fun p => ((some (p, 0), fo p) : Option (Nat × Nat) × Tx)) := fun e he => by
    obtain ⟨p, hpL, rfl⟩ := List.mem_map.1 he
    exact .inr ⟨hx, hp p ((hL p).1 hpL)⟩
  refine MapR.put M trivial ko (v := fo x) rfl fun h' hs M' e => k h' hs ⟨L ++ [x], fun y => by rw [List.mem_append, List.mem_append, hL], ?_⟩ e
  rw [aput_new (kt := .ptr) trivial] at M'
  · simpa using M'
  · intro y hy
    obtain ⟨p, hpL, rfl⟩ := List.mem_map.1 hy
    intro z; simp at z; subst z; exact hn ((hL p).1 hpL)

/-- Nodes in memory, each with bytes of its own. -/
structure Im (h : Heap) (B : Nat) (s : Slc) (os : List NdS) (L : List Nd) : Prop where
  len : os.length = L.length
  at_ : ∀ (k : Nat) o n, os[k]? = some o → L[k]? = some n → o.1 = n.1 ∧ Own 1 dF h o.2.1 n.2.1 ∧ o.2.2 = n.2.2
  ge : ∀ o ∈ os, ∀ b off, o.2.1.a = some (b, off) → B ≤ b ∧ b < h.size
  dj : ∀ (k k' : Nat) o o' b off off', os[k]? = some o → os[k']? = some o' → o.2.1.a = some (b, off) → o'.2.1.a = some (b, off') → k = k'
  sd : ∀ o ∈ os, ∀ b off off', s.a = some (b, off) → o.2.1.a = some (b, off') → False
theorem Im.ext {S : Nat → Prop} {h h' : Heap} {B : Nat} {s : Slc} {os : List NdS} {L : List Nd} (I : Im h B s os L) (e : Ext S h h') (hs : ∀ o ∈ os, ∀ b off, o.2.1.a = some (b, off) → ¬ S b) : Im h' B s os L :=
  ⟨I.len, fun k o n ho hn => let ⟨h1, h2, h3⟩ := I.at_ k o n ho hn; ⟨h1, h2.ext e fun ⟨b, off, hb, hx⟩ => hs o (List.mem_of_getElem? ho) b off hb hx, h3⟩, fun o ho b off hb => ⟨(I.ge o ho b off hb).1, Nat.lt_of_lt_of_le (I.ge o ho b off hb).2 e.size⟩, I.dj, I.sd⟩
structure ImgR (h0 h : Heap) (s : Slc) (L : List Nd) : Prop where
  ex : ∃ os, Own 4 nF h s os ∧ Im h h0.size s os L
  ge : ∀ b off, s.a = some (b, off) → h0.size ≤ b
  ext : Ext0 h0 h

theorem c12 {h : Heap} {lab : Labs} {f D : Nat} {σ : Dk} (X : DW h lab f D σ) {n : Nat} (G : FF σ n) (hn : n ≤ 4398046511104) {R : Slc → Heap → Prop}
    (k : ∀ s h', ImgR h h' s (imageL σ) → R s h') : Call Go.Proofs.Tryz.prog 12 [.lf (.ptr (some (f, 0)))] h [.one .slc] R := by
  refine ok12 (New.mk fun b0 h1 hb0 hs1 e1 k1 => NewM.mk fun b2 h3 hb2 hs3 e3 k3 => New.mk fun b4 h5 hb4 hs5 e5 k5 => StC.one k5 (by simp) fun h6 hs6 k6 e6 => ?_)
  have e06 : Ext0 h h6 := ((e1.trans e3).trans e5).tmp e6 (by omega)
  have X6 := X.ext0 e06
  have nl : ∀ i, h.size ≤ i → lab i = none := fun i hi => X.R.free hi
  have k6' : Blk h6 b4 96 [.map (some b2)] := by simpa using k6
  have k0 : Blk h6 b0 29 [.slc ⟨none, 0, 0⟩] := ((k1.ext e3).ext e5).ext e6 (by omega)
  have M6 : FirstM h6 b2 [] (firstOf (walkL σ)) := ⟨[], fun x => Iff.rfl, ((MapR.new k3).ext e5).ext e6 (by omega)⟩
  have wl := walkL_len X.W
  let W := walkL σ
  let GG : Slc → List NdS → Nat → Prop := fun s os i => i = b0 ∨ i = b2 ∨ i = b4 ∨ (∃ off, s.a = some (i, off)) ∨ ∃ o ∈ os, ∃ off, o.2.1.a = some (i, off)
  refine c45 X6 (J := fun pre hh Gs => ∃ s os, Ext (fun i => i = b0 ∨ i = b2) h6 hh ∧ Blk hh b0 29 [.slc s] ∧ FirstM hh b2 (pre.map (·.2)) (firstOf W) ∧ Blk hh b4 96 [.map (some b2)] ∧ Own 4 nF hh s os ∧ Im hh h6.size s os (pre.map (ndOf σ W)) ∧ (∀ b off, s.a = some (b, off) → h6.size ≤ b) ∧ Gs = GG s os)
    (G0 := fun i => i = b0 ∨ i = b2 ∨ i = b4) ?_ ?_ ?_ ?_ ?_ ?_
  · have z6 : h6.size = h.size + 3 := by omega
    rintro i (rfl | rfl | rfl)
    · exact ⟨by omega, by rw [nl _ (by omega)]; simp, by rw [nl _ (by omega)]; simp, by rw [nl _ (by omega)]; simp, by rw [nl _ (by omega)]; simp⟩
    · exact ⟨by omega, by rw [nl _ (by omega)]; simp, by rw [nl _ (by omega)]; simp, by rw [nl _ (by omega)]; simp, by rw [nl _ (by omega)]; simp⟩
    · exact ⟨by omega, by rw [nl _ (by omega)]; simp, by rw [nl _ (by omega)]; simp, by rw [nl _ (by omega)]; simp, by rw [nl _ (by omega)]; simp⟩
  · refine ⟨⟨none, 0, 0⟩, [], Ext.refl _ _, k0, M6, k6', Own.nil _ _ _, ⟨rfl, fun k o n h => by simp at h, fun o h => by (cases h), fun k k' o o' b off off' h => by simp at h, fun o h => by (cases h)⟩, fun b off x => (by cases x), ?_⟩
    funext i
    apply propext
    constructor
    · rintro (h | h | h)
      · exact .inl h
      · exact .inr (.inl h)
      · exact .inr (.inr (.inl h))
    · rintro (h | h | h | ⟨_, h⟩ | ⟨o, ho, _⟩)
      · exact .inl h
      · exact .inr (.inl h)
      · exact .inr (.inr h)
      · cases h
      · cases ho
  · rintro pre ha hb Gs S ⟨s, os, E, kb, M, kf, o, I, hge, rfl⟩ es hS
    refine ⟨s, os, E.trans' es fun i hi hs => by have := (hS i hs).2; omega, kb.ext es (fun x => (hS _ x).1 (.inl rfl)), M.ext es (fun x => (hS _ x).1 (.inr (.inl rfl))), kf.ext es (fun x => (hS _ x).1 (.inr (.inr (.inl rfl)))), o.ext es fun ⟨b, off, hb', hx⟩ => (hS _ hx).1 (.inr (.inr (.inr (.inl ⟨off, hb'⟩)))),
      I.ext es fun o ho b off hb' hx => (hS _ hx).1 (.inr (.inr (.inr (.inr ⟨o, ho, off, hb'⟩)))), hge, rfl⟩
  · rintro pre ha Gs ⟨s, os, E, _⟩ x c hc
    exact filePlain (X6.R.ext E fun b hb => by rcases hb with rfl | rfl <;> exact nl _ (by omega)) hc
  · rintro pre path x rest ha Gs hw ⟨c, hc⟩ ⟨s, os, E, kb, M, kf, o, I, hge, rfl⟩ _ K kk
    have Ra : DR ha lab f D σ := X6.R.ext E fun b hb => by rcases hb with rfl | rfl <;> exact nl _ (by omega)
    have za := E.size
    have hpre : pre.length < 65536 := by
      have := wl
      rw [hw, List.length_append, List.length_cons] at this; omega
    have hol : os.length = pre.length := by rw [I.len, List.length_map]
    have plain : ∀ {hh : Heap}, Ext (fun i => i = b0 ∨ i = b2) h6 hh → ∀ y ∈ pre.map (·.2) ++ [x], plainAt hh y := fun {hh} e y hy => by
      have Rh : DR hh lab f D σ := X6.R.ext e fun b hb => by rcases hb with rfl | rfl <;> exact nl _ (by omega)
      have : ∃ p, (p, y) ∈ walkL σ := by
        rcases List.mem_append.1 hy with hy | hy
        · obtain ⟨q, hq, rfl⟩ := List.mem_map.1 hy
          exact ⟨q.1, by rw [hw]; exact List.mem_append_left _ hq⟩
        · rw [List.mem_singleton.1 hy]; exact ⟨path, by rw [hw]; simp⟩
      obtain ⟨q, hq⟩ := this
      obtain ⟨c', hc'⟩ : ∃ c, σ.fl y = some c := by
        unfold walkL at hq
        obtain ⟨d', hd', hq⟩ := List.mem_flatMap.1 hq
        unfold walkD at hq
        split at hq
        · rename_i dd m hm
          obtain ⟨nm, hnm, he⟩ := List.mem_map.1 hq
          obtain ⟨z, hz⟩ := look_isSome (keysOf_mem.1 hnm)
          rw [hz] at he
          cases he
          obtain ⟨bb, hbb, hat⟩ := Option.bind_eq_some_iff.1 hm
          exact X.W.files _ _ (Dk.at_some.1 hat).2 (nm, _) (look_mem hz)
        · cases hq
      exact filePlain Rh hc'
    have hfo : firstOf W x = if x ∈ pre.map (·.2) then firstOf W x else path := by
      split
      · rfl
      · rename_i hx
        show firstOf (walkL σ) x = path
        rw [hw]; exact firstOf_new hx
    refine .inl ⟨46, [], [.lf (.ptr (some (b4, 0))), .lf (.ptr (some (b0, 0)))], _, _, rfl, Go.Proofs.Tryz.func46, rfl, ok46 ?_⟩
    refine ⟨fun hh => FirstM hh b2 (pre.map (·.2) ++ [x]) (firstOf W) ∧ Ext (fun i => i = b2) ha hh ∧ hh.size = ha.size, ?_, ?_⟩
    · refine Br.mk (fun hf => ⟨_, kf.cell rfl, ?_⟩) fun hf => ⟨M.mono fun y => ?_, Ext.refl _ _, rfl⟩
      · have hni : x ∉ pre.map (·.2) := by simpa using hf
        rw [if_neg hni] at hfo
        have := M.put (x := x) hni (plain E x (by simp)) (fun y hy => plain E y (List.mem_append_left _ hy)) (K := fun h2 => FirstM h2 b2 (pre.map (·.2) ++ [x]) (firstOf W) ∧ Ext (fun i => i = b2) ha h2 ∧ h2.size = ha.size) fun h2 hs2 M2 e2 => ⟨M2, e2, hs2⟩
        rw [hfo] at this
        exact this
      · have hi : x ∈ pre.map (·.2) := by simpa using hf
        rw [List.mem_append, List.mem_singleton]
        exact ⟨.inl, fun z => z.elim id fun e => by rw [e]; exact hi⟩
    rintro h3' ⟨M3, e3', z3⟩
    have E3 : Ext (fun i => i = b0 ∨ i = b2) h6 h3' := E.trans (e3'.mono fun i hi => .inr hi)
    have R3 : DR h3' lab f D σ := X6.R.ext E3 fun b hb => by rcases hb with rfl | rfl <;> exact nl _ (by omega)
    have kb3 := kb.ext e3' (by omega)
    have kf3 := kf.ext e3' (by omega)
    have o3 : Own 4 nF h3' s os := o.ext e3' fun ⟨b, off, hb', hx⟩ => by have := hge _ _ hb'; have : b = b2 := hx; omega
    have I3 : Im h3' h6.size s os (pre.map (ndOf σ W)) := I.ext e3' fun o' ho b off hb' hx => by have := (I.ge o' ho b off hb').1; have : b = b2 := hx; omega
    obtain ⟨sn, kn, yn⟩ := (R3.fls x c hc).1.now
    have hno := (G.Z x c hc).len
    have L3 := M3.look (x := x) (by simp) (plain E3)
    refine ⟨s, kb3.cell rfl, NilC.mk rfl ⟨sn, kn, _, kf3.cell rfl, _, _, L3, ?_⟩⟩
    refine c47 yn.arr (by omega) fun s11 h12 o12 f12 => ?_
    have z12 := f12.ext.size
    have E12 := E3.then0 f12.ext
    refine ⟨(M3.ext f12.ext id).look (x := x) (by simp) (plain E12), (kf3.ext f12.ext).cell rfl, (kb3.ext f12.ext).cell rfl, ?_⟩
    refine c48 (R3.ext0 f12.ext) hc (by have := G.F.opn _ _ hc; omega) fun h14 e14 => ?_
    have E14 := E12.then0 e14
    have M14 := (M3.ext f12.ext id).ext e14 id
    have kb14 := (kb3.ext f12.ext).ext e14
    have kf14 := (kf3.ext f12.ext).ext e14
    have z14 := e14.size
    refine ⟨M14.look (x := x) (by simp) (plain E14), kf14.cell rfl, kb14.cell rfl, New.mk fun b15 h16 hb15 hs16 e16 k16 => ⟨(kb14.ext e16).cell rfl, ?_⟩⟩
    have e316 : Ext0 h3' h16 := (f12.ext.trans e14).trans e16
    refine AppC.grow nF_sized (by decide) rfl (o3.ext0 e316) ((Own.new nF_sized (l := [(path, s11, unsW c.opn, firstOf W x)]) k16).arr nF_sized) (by simp; omega) fun s17 h18 o18 g18 => ?_
    have sge : ∀ b off, s.a = some (b, off) → h6.size ≤ b ∧ b < h3'.size := fun b off hb' => ⟨hge _ _ hb', (o3.lt _ _ hb').1⟩
    have kb18 : Blk h18 b0 29 [.slc s] := (kb14.ext e16).ext g18.ext fun ⟨off, x⟩ => by have := (sge _ _ x).1; omega
    have z18 := g18.ext.size
    refine StC.one kb18 (by simp) fun h19 hs19 k19 e19 => ?_
    have s17ge : ∀ b off, s17.a = some (b, off) → h6.size ≤ b ∧ (b < h3'.size → s.a = s17.a) ∧ (b < h3'.size ∨ h16.size ≤ b) := fun b off hb' => by
      rcases g18.new with y | ⟨b', y, w⟩
      · rw [y] at hb'; exact ⟨(sge _ _ hb').1, fun _ => y.symm, .inl (sge _ _ hb').2⟩
      · rw [y] at hb'; cases hb'; exact ⟨by omega, fun z => by omega, .inr w⟩
    have s11g : ∀ b off, s11.a = some (b, off) → h3'.size ≤ b ∧ b < h12.size := fun b off hb' => ⟨f12.new _ _ hb', (o12.lt _ _ hb').1⟩
    have E19 : Ext (fun i => i = b0 ∨ i = b2) h6 h19 := (((E14.then0 e16).trans' g18.ext fun i hi ⟨off, y⟩ => by have := (sge _ _ y).1; omega)).trans (e19.mono fun i hi => .inl hi)
    have o11 : Own 1 dF h19 s11 c.now := (((o12.ext0 e14).ext0 e16).ext g18.ext fun ⟨b, off, hb', off', y⟩ => by have := s11g _ _ hb'; have := sge _ _ y; omega).ext e19 fun ⟨b, off, hb', y⟩ => by have := s11g _ _ hb'; have : b = b0 := y; omega
    have I19 : Im h19 h6.size s os (pre.map (ndOf σ W)) := ((I3.ext e316 fun _ _ _ _ _ => id).ext g18.ext fun o' ho b off hb' ⟨off', y⟩ => I.sd o' ho b off' off y hb').ext e19 fun o' ho b off hb' hx => by have := (I.ge o' ho b off hb').1; have : b = b0 := hx; omega
    have M19 : FirstM h19 b2 ((pre ++ [(path, x)]).map (·.2)) (firstOf W) := by
      rw [List.map_append, List.map_singleton]
      exact ((M14.ext e16 id).ext g18.ext fun ⟨off, y⟩ => by have := (sge _ _ y).1; omega).ext e19 (by omega)
    have Inew : Im h19 h6.size s17 (os ++ [(path, s11, unsW c.opn, firstOf W x)]) ((pre ++ [(path, x)]).map (ndOf σ W)) := by
      have hnd : ndOf σ W (path, x) = (path, c.now, unsW c.opn, firstOf W x) := by unfold ndOf; rw [hc]; rfl
      have oslt : ∀ o' ∈ os, ∀ b off, o'.2.1.a = some (b, off) → b < ha.size := fun o' ho b off hb' => (I.ge o' ho b off hb').2
      have get : ∀ (j : Nat) o', (os ++ [((path, s11, unsW c.opn, firstOf W x) : NdS)])[j]? = some o' → (j < os.length ∧ os[j]? = some o') ∨ (j = os.length ∧ o' = (path, s11, unsW c.opn, firstOf W x)) := fun j o' hj => by
        by_cases hjl : j < os.length
        · rw [List.getElem?_append_left hjl] at hj; exact .inl ⟨hjl, hj⟩
        · rw [List.getElem?_append_right (by omega)] at hj
          cases hz : j - os.length with
          | zero => rw [hz] at hj; exact .inr ⟨by omega, by simpa using hj.symm⟩
          | succ z => rw [hz] at hj; simp at hj
      refine ⟨by rw [List.length_append, I.len]; simp, fun j o' nn hj hn' => ?_, fun o' ho b off hb' => ?_, fun j j' o' o'' b off off' hj hj' h1 h2 => ?_, fun o' ho b off off' h1 h2 => ?_⟩
      · rw [List.map_append, List.map_singleton, hnd] at hn'
        rcases get j o' hj with ⟨hjl, hj⟩ | ⟨rfl, rfl⟩
        · rw [List.getElem?_append_left (by rw [← I.len]; exact hjl)] at hn'
          exact I19.at_ j o' nn hj hn'
        · rw [List.getElem?_append_right (by rw [I.len]; omega), I.len, Nat.sub_self] at hn'
          have : nn = (path, c.now, unsW c.opn, firstOf W x) := by simpa using hn'.symm
          subst this
          exact ⟨rfl, o11, rfl⟩
      · rcases List.mem_append.1 ho with ho | ho
        · exact I19.ge o' ho b off hb'
        · rw [List.mem_singleton.1 ho] at hb'
          have := s11g _ _ hb'
          exact ⟨by omega, by omega⟩
      · rcases get j o' hj with ⟨hjl, hj⟩ | ⟨rfl, rfl⟩
        · rcases get j' o'' hj' with ⟨hjl', hj'⟩ | ⟨rfl, rfl⟩
          · exact I.dj j j' o' o'' b off off' hj hj' h1 h2
          · have := oslt o' (List.mem_of_getElem? hj) _ _ h1; have := s11g _ _ h2; omega
        · rcases get j' o'' hj' with ⟨hjl', hj'⟩ | ⟨rfl, rfl⟩
          · have := oslt o'' (List.mem_of_getElem? hj') _ _ h2; have := s11g _ _ h1; omega
          · rfl
      · rcases List.mem_append.1 ho with ho | ho
        · obtain ⟨g1, g2, g3⟩ := s17ge _ _ h1
          have := oslt o' ho _ _ h2
          exact I.sd o' ho b off off' (by rw [g2 (by omega)]; exact h1) h2
        · rw [List.mem_singleton.1 ho] at h2
          have := s11g _ _ h2
          obtain ⟨g1, g2, g3⟩ := s17ge _ _ h1
          rcases g3 with g3 | g3 <;> omega
    refine kk h19 _ ⟨s17, _, E19, by simpa using k19, M19, ((kf14.ext e16).ext g18.ext fun ⟨off, y⟩ => by have := (sge _ _ y).1; omega).ext e19 (by omega), o18.ext e19 fun ⟨b, off, hb', y⟩ => by have := (s17ge _ _ hb').1; have : b = b0 := y; omega, Inew, fun b off hb' => (s17ge _ _ hb').1, rfl⟩ ?_ fun i hi => ?_
    · refine ((e3'.mono fun i hi => .inr (.inl hi)).trans' (((f12.ext.trans e14).trans e16).of0.trans g18.ext) fun i hi ⟨off, y⟩ => .inr (.inr (.inr (.inl ⟨off, y⟩)))).trans (e19.mono fun i hi => .inl hi)
    · have hz : h16.size ≤ h19.size := by omega
      rcases hi with hi | hi | hi | ⟨off, hi⟩ | ⟨o', ho, off, hi⟩
      · exact ⟨.inl (.inl hi), by omega⟩
      · exact ⟨.inl (.inr (.inl hi)), by omega⟩
      · exact ⟨.inl (.inr (.inr (.inl hi))), by omega⟩
      · refine ⟨?_, by have := (o18.lt _ _ hi).1; omega⟩
        obtain ⟨g1, g2, g3⟩ := s17ge _ _ hi
        rcases g3 with g3 | g3
        · exact .inl (.inr (.inr (.inr (.inl ⟨off, by rw [g2 g3]; exact hi⟩))))
        · exact .inr (by omega)
      · rcases List.mem_append.1 ho with ho | ho
        · exact ⟨.inl (.inr (.inr (.inr (.inr ⟨o', ho, off, hi⟩)))), (I19.ge o' ho _ _ hi).2⟩
        · rw [List.mem_singleton.1 ho] at hi
          have := s11g _ _ hi
          exact ⟨.inr (by omega), by omega⟩
  · rintro h7 Gs ⟨s, os, E, kb, M, kf, o, I, hge, rfl⟩ _
    have z6 : h.size ≤ h6.size := e06.size
    refine ⟨s, kb.cell rfl, k s h7 ⟨⟨os, o, I.len, I.at_, fun o' ho b off hb' => ⟨by have := (I.ge o' ho b off hb').1; omega, (I.ge o' ho b off hb').2⟩, I.dj, I.sd⟩, fun b off hb' => by have := hge _ _ hb'; omega, e06.trans' E fun i hi hx => by rcases hx with hx | hx <;> omega⟩⟩

end Go.V.YtdeihieblljfcaaGreat
