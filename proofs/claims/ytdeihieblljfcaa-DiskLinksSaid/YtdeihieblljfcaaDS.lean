/- This text proves a part of the laws of seat Ytdeihieblljfcaa, under no condition: D3f. -/
import Derived.Test.YtdeihieblljfcaaDP
set_option linter.unusedVariables false
set_option linter.unusedSimpArgs false
/-! DiskLinks. -/
namespace Go.V.Ytdeihieblljfcaa
open Go Go.V

abbrev nE : Tx := [101]
abbrev nB : Tx := [98]
abbrev pEB : Tx := [101, 47, 98]

/-- A disk of two directories. -/
structure S2 (σ : Dk) (bd be : Nat) (dd de : Dr) (md me : List (Tx × Nat)) : Prop where
  hq : σ.quota = 268435456
  calm : Calm σ
  hd : σ.dirs = [(nD, bd), (nE, be)]
  hdd : σ.dr bd = some dd
  hde : σ.dr be = some de
  hmd : σ.mp dd.now = some md
  hme : σ.mp de.now = some me
theorem S2.walk {σ : Dk} {bd be : Nat} {dd de : Dr} {md me : List (Tx × Nat)} (S : S2 σ bd be dd de md me) :
    walkL σ = ((keysOf md).map fun n => (nD ++ 47 :: n, (look n md).getD 0)) ++ ((keysOf me).map fun n => (nE ++ 47 :: n, (look n me).getD 0)) := by
  have hk : keysOf σ.dirs = [nD, nE] := by rw [S.hd]; exact sortT_eq (show List.Pairwise (fun a b : Tx => a ≤ b) [nD, nE] by decide)
  unfold walkL
  rw [hk, List.flatMap_cons, List.flatMap_cons, List.flatMap_nil, List.append_nil, walkD_eq (b := bd) (by rw [S.hd]; rfl) S.hdd S.hmd, walkD_eq (b := be) (by rw [S.hd]; rfl) S.hde S.hme]
theorem S2.used {σ : Dk} {bd be : Nat} {dd de : Dr} {md me : List (Tx × Nat)} (S : S2 σ bd be dd de md me) :
    usedN σ = sizes σ (((keysOf md).map fun n => (look n md).getD 0) ++ ((keysOf me).map fun n => (look n me).getD 0)) := by
  unfold usedN; rw [S.walk, List.map_append, List.map_map, List.map_map]; rfl
theorem key1 {n : Tx} {x : Nat} : keysOf [(n, x)] = [n] := sortT_eq (by simp)
theorem key0 : keysOf [] = [] := sortT_eq (by simp)
theorem S2.pD {σ : Dk} {bd be : Nat} {dd de : Dr} {md me : List (Tx × Nat)} (S : S2 σ bd be dd de md me) : pathE σ pDA = (some (bd, nA), 0) :=
  pathE_two (by decide) (by decide) (by decide) (by rw [S.hd]; rfl)
theorem S2.pE {σ : Dk} {bd be : Nat} {dd de : Dr} {md me : List (Tx × Nat)} (S : S2 σ bd be dd de md me) : pathE σ pEB = (some (be, nB), 0) :=
  pathE_two (by decide) (by decide) (by decide) (by rw [S.hd]; rfl)

theorem removeR_eq {σ : Dk} {l n : Tx} {x b : Nat} {dd : Dr} {m : List (Tx × Nat)} (hp : pathE σ l = (some (b, n), 0)) (hd : σ.dr b = some dd) (hm : σ.mp dd.now = some m) (hx : look n m = some x) (r : Nat) :
    removeR σ l r = if σ.change.1 ≠ 0 then (σ.change.1, σ.change.2.2) else (0, σ.change.2.2.chg b dd r (delN n m)) := by
  have hat : σ.at b = some (dd, m) := Dk.at_some.2 ⟨hd, hm⟩
  unfold removeR; rw [fileE_two hp hd hm hx]; simp only [hp, hat]
theorem linkR_eq {σ : Dk} {l l' x y : Tx} {a b it : Nat} {da db : Dr} {ma mb : List (Tx × Nat)} (hp : pathE σ l = (some (a, x), 0)) (hp' : pathE σ l' = (some (b, y), 0)) (hda : σ.dr a = some da) (hma : σ.mp da.now = some ma) (hdb : σ.dr b = some db) (hmb : σ.mp db.now = some mb)
    (hx : look x ma = some it) (hy : look y mb = none) (hl : mb.length < 1024) (r : Nat) : linkR σ l l' r = if σ.change.1 ≠ 0 then (σ.change.1, σ.change.2.2) else (0, σ.change.2.2.chg b db r (putN y it mb)) := by
  have hat : σ.at a = some (da, ma) := Dk.at_some.2 ⟨hda, hma⟩
  have hat' : σ.at b = some (db, mb) := Dk.at_some.2 ⟨hdb, hmb⟩
  have h2 : twoE σ l l' = (some (a, x, b, y, it), 0) := by unfold twoE; rw [hp]; simp only [hp', hat, hx]
  unfold linkR; rw [h2]; simp only [hat']
  rw [if_neg (by rw [hy]; simp), if_neg (by omega)]
theorem writeR_eq {σ : Dk} {l b : Tx} {x i : Nat} {c : Fl} (hf : fileE σ l = (some x, 0)) (hx : σ.fl x = some c) (hc : Calm σ) (hi : i ≤ c.now.length) (hq : (usedN σ : Int) + b.length ≤ σ.quota) :
    writeR σ l (i : Int) b = (0, if b ≠ [] then { σ with fl := upd σ.fl x ⟨c.fast, c.opn ++ [(i, b)], overL i b c.now⟩ } else σ) := by
  unfold writeR; rw [hf]; simp only
  unfold writesR; simp only [hx]
  rw [if_neg (by omega), if_neg (by omega), hc.change]
  simp only [true_or, true_and, Int.toNat_natCast]
  by_cases hb : b = []
  · simp [hb]
  · simp [hb]

theorem Live.removeS {h0 h : Heap} {lab : Labs} {f D : Nat} {σ : Dk} {n : Nat} (L : Live h0 h lab f D σ n) (hn : n ≤ 1000000000) {l : Tx} (hl : l.length < 4294967281) {R : Int → Heap → Prop}
    (k : ∀ r h' lab', σ.mp r = none → Live h0 h' lab' f D (removeR σ l r).2 (n + 3) → Stp lab h lab' h' → R (removeR σ l r).1 h') :
    Call Go.Proofs.Try.prog 21 [.lf (.ptr (some (f, 0))), .lf (.str (tx l))] h [.one (.int .i64)] R :=
  c21 L.X L.G.F (by omega) hl fun r h' lab' f1 X' s => k r h' lab' f1 ⟨X', L.G.remove l r, by rw [removeR_q]; exact L.q, L.fr.go s⟩ s
theorem Live.same {h0 h : Heap} {lab : Labs} {f D : Nat} {σ : Dk} {n : Nat} (L : Live h0 h lab f D σ n) {l l' : Tx} (hl : l.length < 4294967281) (hl' : l'.length < 4294967281) {R : Bool → Heap → Prop}
    (k : ∀ h', Ext0 h h' → R (sameE σ l l') h') : Call Go.Proofs.Try.prog 19 [.lf (.ptr (some (f, 0))), .lf (.str (tx l)), .lf (.str (tx l'))] h [.one .bool] R := c19 L.X hl hl' k
theorem Live.used {h0 h : Heap} {lab : Labs} {f D : Nat} {σ : Dk} {n : Nat} (L : Live h0 h lab f D σ n) {R : Int → Heap → Prop} (k : ∀ h', Ext0 h h' → R (usedN σ : Int) h') : Call Go.Proofs.Try.prog 20 [.lf (.ptr (some (f, 0)))] h [.one (.int .i64)] R := c20 L.X L.G.Z k

theorem c4 {h : Heap} (M : MaxL h) {s0 s1 : Slc} {a b : Tx} {at' : Int} (A0 : Arr 1 dF h s0 a) (A1 : Arr 1 dF h s1 b) (c0 : s0.len ≤ s0.cap) (c1 : s1.len ≤ s1.cap)
    (b0 : ∀ b off, s0.a = some (b, off) → b < h.size) (b1 : ∀ b off, s1.a = some (b, off) → b < h.size) (h0 : 0 ≤ at') (h1' : at' ≤ 65535) {R : Bool → Heap → Prop} (k : ∀ h', Ext0 h h' → R true h') :
    Call Go.Proofs.Try.prog 4 [.lf (.slc s0), .lf (.slc s1), .lf (.int .u16 at')] h [.one .bool] R := by
  have hl0 := A0.len
  have hl1 := A1.len
  refine ok4 (c6 M fun h1 e1 => Br.f rfl ?_)
  refine ⟨fun c hh => hh = h1 ∧ (c = true ↔ (a.length > 4194304 ∨ b.length > 4194304)), Br.dec (fun x => ⟨rfl, fun _ => .inl (by omega), fun _ => rfl⟩) fun x => ⟨rfl, by rw [decide_eq_true_eq]; omega⟩, ?_⟩
  rintro c h4 ⟨rfl, hc⟩
  refine Br.mk (fun _ => k h4 e1) fun hcf => ?_
  have hsm : ¬ (a.length > 4194304 ∨ b.length > 4194304) := fun z => by rw [hc.2 z] at hcf; cases hcf
  have M4 : MaxL h4 := M.ext e1 id
  refine c7 M4 (fun x => by omega) fun _ _ f D lab h7 X7 e7 hno => ?_
  have L7 : Live h4 h7 lab f D (Dk.new 268435456) 0 := ⟨X7, ⟨Few.new _, Fine.new _⟩, Int.le_refl _, ⟨e7, hno⟩⟩
  have arg : ∀ {hh : Heap} {lb : Labs}, Fr h4 lb hh → ∀ {s : Slc} {l : Tx}, Arr 1 dF h s l → Arr 1 dF hh s l := fun {hh lb} F {s l} A => (A.ext0 e1).ext0 F.e
  have argL : ∀ {hh : Heap} {lb : Labs}, Fr h4 lb hh → ∀ {s : Slc}, (∀ b off, s.a = some (b, off) → b < h.size) → ∀ b off, s.a = some (b, off) → lb b = none ∧ b < hh.size := fun {hh lb} F {s} hb b off hs => by
    have := hb b off hs; have := e1.size; have := F.e.size
    exact ⟨F.no b (by omega), by omega⟩
  -- The beginning.
  refine ⟨fun c hh => c = false ∧ ∃ lab σ bd be x dd de o, Live h4 hh lab f D σ 40 ∧ S2 σ bd be dd de [(nA, x)] [(nB, x)] ∧ bd ≠ be ∧ dd.now ≠ de.now ∧ σ.fl x = some ⟨[], o, a⟩, ?_, ?_⟩
  · refine br_zero rfl (Br.f rfl (L7.mkdir (l := nD) (by omega) fun r bd h5 lab5 f1 f2 L5 => ?_))
    have hm : mkdirR (Dk.new 268435456) nD r bd = (0, { Dk.new 268435456 with dirs := [(nD, bd)], mp := upd (fun _ => none) r [], dr := upd (fun _ => none) bd ⟨r, []⟩ }) := by
      rw [mkdirR_eq (by decide) rfl (by show (0 : Nat) < 64; omega), (calm_new 268435456).change]; rfl
    rw [hm] at L5 ⊢
    simp only at L5 ⊢
    generalize hσ1 : ({ Dk.new 268435456 with dirs := [(nD, bd)], mp := upd (fun _ => none) r [], dr := upd (fun _ => none) bd ⟨r, []⟩ } : Dk) = σ1 at L5
    have q1 : σ1.quota = 268435456 := by rw [← hσ1]; rfl
    have d1 : σ1.dirs = [(nD, bd)] := by rw [← hσ1]
    have r1 : σ1.dr bd = some ⟨r, []⟩ := by rw [← hσ1]; exact upd_same (fun _ => none) bd (⟨r, []⟩ : Dr)
    have m1 : σ1.mp r = some [] := by rw [← hσ1]; exact upd_same (fun _ => none) r ([] : List (Tx × Nat))
    have calm1 : Calm σ1 := by rw [← hσ1]; exact calm_new 268435456
    refine br_zero rfl (L5.mkdir (l := nE) (by omega) fun re be h6 lab6 g1 g2 L6 => ?_)
    have hm2 : mkdirR σ1 nE re be = (0, { σ1 with dirs := [(nD, bd), (nE, be)], mp := upd σ1.mp re [], dr := upd σ1.dr be ⟨re, []⟩ }) := by
      rw [mkdirR_eq (by decide) (by rw [d1]; rfl) (by rw [d1]; show (1 : Nat) < 64; omega), calm1.change, d1]; rfl
    rw [hm2] at L6 ⊢
    simp only at L6 ⊢
    have hbe : bd ≠ be := fun z => by rw [← z, r1] at g2; cases g2
    have hre : r ≠ re := fun z => by rw [← z, m1] at g1; cases g1
    generalize hσ2 : ({ σ1 with dirs := [(nD, bd), (nE, be)], mp := upd σ1.mp re [], dr := upd σ1.dr be ⟨re, []⟩ } : Dk) = σ2 at L6
    have S : S2 σ2 bd be ⟨r, []⟩ ⟨re, []⟩ [] [] := by
      rw [← hσ2]
      exact ⟨q1, calm1, rfl, by show upd _ _ _ _ = _; rw [upd_ne hbe]; exact r1, upd_same _ _ _, by show upd _ _ _ _ = _; rw [upd_ne hre]; exact m1, upd_same _ _ _⟩
    refine br_zero rfl (L6.create (l := pDA) (by omega) (by decide) fun r2 x h8 lab8 f3 f4 L8 => ?_)
    have hc : createR σ2 pDA r2 x = (0, { σ2.chg bd ⟨r, []⟩ r2 [(nA, x)] with fl := upd σ2.fl x ⟨[], [], []⟩ }) := by
      rw [createR_eq S.pD S.hdd S.hmd rfl (by decide), S.calm.change]; rfl
    rw [hc] at L8 ⊢
    simp only at L8 ⊢
    have hr2 : re ≠ r2 := fun z => by rw [← z, S.hme] at f3; cases f3
    generalize hσ3 : ({ σ2.chg bd ⟨r, []⟩ r2 [(nA, x)] with fl := upd σ2.fl x ⟨[], [], []⟩ } : Dk) = σ3 at L8
    have S3 : S2 σ3 bd be ⟨r2, [r]⟩ ⟨re, []⟩ [(nA, x)] [] := by
      rw [← hσ3]
      exact ⟨S.hq, S.calm, S.hd, upd_same _ _ _, by show upd _ _ _ _ = _; rw [upd_ne hbe.symm]; exact S.hde, upd_same _ _ _, by show upd _ _ _ _ = _; rw [upd_ne hr2]; exact S.hme⟩
    have x3 : σ3.fl x = some ⟨[], [], []⟩ := by rw [← hσ3]; exact upd_same _ _ _
    refine br_zero rfl (L8.link (l := pDA) (l' := pEB) (by omega) (by decide) (by decide) fun r3 h9 lab9 f5 L9 => ?_)
    have hlk : linkR σ3 pDA pEB r3 = (0, σ3.chg be ⟨re, []⟩ r3 [(nB, x)]) := by
      rw [linkR_eq S3.pD S3.pE S3.hdd S3.hmd S3.hde S3.hme (it := x) rfl rfl (by decide), S3.calm.change]; rfl
    rw [hlk] at L9 ⊢
    simp only at L9 ⊢
    have hr3 : r2 ≠ r3 := fun z => by rw [← z, S3.hmd] at f5; cases f5
    generalize hσ4 : σ3.chg be ⟨re, []⟩ r3 [(nB, x)] = σ4 at L9
    have S4 : S2 σ4 bd be ⟨r2, [r]⟩ ⟨r3, [re]⟩ [(nA, x)] [(nB, x)] := by
      rw [← hσ4]
      exact ⟨S3.hq, S3.calm, S3.hd, by show upd _ _ _ _ = _; rw [upd_ne hbe]; exact S3.hdd, upd_same _ _ _, by show upd _ _ _ _ = _; rw [upd_ne hr3]; exact S3.hmd, upd_same _ _ _⟩
    have x4 : σ4.fl x = some ⟨[], [], []⟩ := by rw [← hσ4]; exact x3
    refine br_zero rfl ?_
    refine L9.append (l := pEB) (by omega) (by decide) (arg L9.fr A0) c0 (fun y off hy => .inl (argL L9.fr b0 y off hy).1) (by omega) fun h12 lab12 L12 s12 => ?_
    have fe4 := fileE_two S4.pE S4.hde S4.hme (x := x) rfl
    have u4 : usedN σ4 = 0 := by
      rw [S4.used, key1, key1]
      show ((distinct [x, x]).map σ4.size).sum = 0
      rw [show distinct [x, x] = [x] by simp [distinct]]
      simp [Dk.size, x4]
    obtain ⟨b', hap, hb'⟩ := appendR_eq (b := a) fe4 x4 (by rw [S4.hq, u4]; omega)
    rw [S4.calm.change] at hap hb'
    rw [hb' rfl] at hap
    simp only [true_or, true_and] at hap
    have h1 : (appendR σ4 pEB a).1 = 0 := by rw [hap]
    rw [h1]
    have S5 : S2 (appendR σ4 pEB a).2 bd be ⟨r2, [r]⟩ ⟨r3, [re]⟩ [(nA, x)] [(nB, x)] := by
      rw [hap]; simp only
      split <;> exact ⟨S4.hq, S4.calm, S4.hd, S4.hdd, S4.hde, S4.hmd, S4.hme⟩
    have x5 : ∃ o, (appendR σ4 pEB a).2.fl x = some ⟨[], o, a⟩ := by
      rw [hap]; simp only
      split
      · exact ⟨_, by show upd _ _ _ _ = _; rw [upd_same, over_end]; rfl⟩
      · rename_i h0
        have h0 : a = [] := Classical.byContradiction h0
        exact ⟨[], by rw [h0]; exact x4⟩
    obtain ⟨o, x5⟩ := x5
    exact ⟨rfl, lab12, _, bd, be, x, _, _, o, L12.mono (by omega), S5, hbe, hr3, x5⟩
  rintro c h20 ⟨rfl, lab0, σ, bd, be, x, dd, de, o, L0, S, hbe, hrr, hx⟩
  refine Br.f rfl ⟨fun z => by rw [wi64 (by omega) (by omega)] at z; omega, ?_⟩
  obtain ⟨t, rfl⟩ := Int.eq_ofNat_of_zero_le h0
  generalize hN : t % (a.length + 1) = N
  have hNl : N ≤ a.length := by have := Nat.mod_lt t (show 0 < a.length + 1 by omega); omega
  have hT : Int.tmod (IntKind.wrap .i64 (t : Int)) (IntKind.wrap .i64 ((s0.len : Int) + 1)) = (N : Int) := by
    rw [wi64 (by omega) (by omega), wi64 (by omega) (by omega), hl0, ← hN]; rfl
  have hT2 : IntKind.wrap .i64 ((N : Int) + (s1.len : Int)) = ((N + b.length : Nat) : Int) := by rw [wi64 (by omega) (by omega), hl1]; omega
  rw [hT, hT2]
  have fd := fileE_two S.pD S.hdd S.hmd (x := x) rfl
  have fe := fileE_two S.pE S.hde S.hme (x := x) rfl
  have u0 : ∀ {τ : Dk} {c : Fl} {dd de : Dr}, S2 τ bd be dd de [(nA, x)] [(nB, x)] → τ.fl x = some c → usedN τ = c.now.length := fun {τ c dd de} T hc => by
    rw [T.used, key1, key1]
    show ((distinct [x, x]).map τ.size).sum = _
    rw [show distinct [x, x] = [x] by simp [distinct]]
    simp [Dk.size, hc]
  generalize hl : overL N b a = l
  have hll : l.length = max a.length (N + b.length) := by rw [← hl]; exact overL_len hNl
  refine ⟨fun c hh => c = false ∧ ∃ lab σ o, Live h4 hh lab f D σ 60 ∧ S2 σ bd be dd de [(nA, x)] [(nB, x)] ∧ σ.fl x = some ⟨[], o, l⟩, ?_, ?_⟩
  · refine L0.write (l := pDA) (by omega) (by decide) (by omega) (by omega) (arg L0.fr A1) c1 (fun y off hy => .inl (argL L0.fr b1 y off hy).1) (by omega) fun h23 lab23 L23 s23 => ?_
    have hw := writeR_eq (b := b) (i := N) fd hx S.calm hNl (by rw [S.hq, u0 S hx]; show (a.length : Int) + b.length ≤ _; omega)
    have w1 : (writeR σ pDA (N : Int) b).1 = 0 := by rw [hw]
    have Sw : S2 (writeR σ pDA (N : Int) b).2 bd be dd de [(nA, x)] [(nB, x)] := by
      rw [hw]; simp only
      split <;> exact ⟨S.hq, S.calm, S.hd, S.hdd, S.hde, S.hmd, S.hme⟩
    have xw : ∃ o, (writeR σ pDA (N : Int) b).2.fl x = some ⟨[], o, l⟩ := by
      rw [hw]; simp only
      split
      · exact ⟨_, by show upd _ _ _ _ = _; rw [upd_same]; show some (Fl.mk [] _ (overL N b a)) = _; rw [hl]⟩
      · rename_i h0
        have h0 : b = [] := Classical.byContradiction h0
        refine ⟨o, ?_⟩
        rw [hx, ← hl, h0]
        unfold overL; simp
    rw [w1]
    obtain ⟨o2, xw⟩ := xw
    refine br_zero rfl (L23.same (l := pDA) (l' := pEB) (by decide) (by decide) fun h25 e25 => ?_)
    have hsame : sameE (writeR σ pDA (N : Int) b).2 pDA pEB = true := by
      unfold sameE
      rw [fileE_two Sw.pD Sw.hdd Sw.hmd (x := x) rfl, fileE_two Sw.pE Sw.hde Sw.hme (x := x) rfl]
      simp
    rw [hsame]
    have L25 := L23.ext0 e25
    refine Br.f rfl (L25.used fun h27 e27 => ⟨?_, lab23, _, o2, (L25.ext0 e27).mono (by omega), Sw, xw⟩)
    rw [u0 Sw xw]
    show ((l.length : Int) != _) = false
    rw [hll, hl0]
    have : ((max a.length (N + b.length) : Nat) : Int) = (if ((N + b.length : Nat) : Int) > (a.length : Int) then ((N + b.length : Nat) : Int) else (a.length : Int)) := by split <;> omega
    rw [this]; simp
  rintro c h29 ⟨rfl, lab1, σ1, o1, L1, T, x1⟩
  have fd1 := fileE_two T.pD T.hdd T.hmd (x := x) rfl
  have fe1 := fileE_two T.pE T.hde T.hme (x := x) rfl
  refine Br.f rfl (L1.read (l := pDA) (by decide) fun s30 h32 o30 f30 L32 => ?_)
  refine L32.read (l := pEB) (by decide) fun s33 h35 o33 f33 L35 => ?_
  rw [readE_eq fd1 x1] at o30 ⊢
  rw [readE_eq fe1 x1] at o33 ⊢
  simp only at o30 o33 ⊢
  have o30' : Own 1 dF h35 s30 l := o30.ext0 f33.ext
  have hs30 := o30'.len
  have hc30 := o30'.lec
  have lab30 : ∀ b off, s30.a = some (b, off) → lab1 b = none ∧ b < h35.size := fun b off hb => ⟨L1.X.R.free (f30.new b off hb), (o30'.lt b off hb).1⟩
  have A30 := o30'.arr dF_sized
  have A35 : Arr 1 dF h35 s0 a := arg L35.fr A0
  have B35 : Arr 1 dF h35 s1 b := arg L35.fr A1
  refine ⟨fun c hh => c = false ∧ hh = h35, ?_, ?_⟩
  · refine br_zero rfl (br_zero rfl ⟨tx l, A30.bytes (fun _ => rfl), tx l, (o33.arr dF_sized).bytes (fun _ => rfl), ?_⟩)
    rw [tx_eq, decide_eq_true rfl]
    have e1 : (l.take (N + b.length)).drop N = b := by
      rw [← hl]; unfold overL
      have hz : (a.take N).length = N := by rw [List.length_take]; omega
      rw [List.append_assoc, List.take_append, hz, List.take_of_length_le (l := a.take N) (by omega)]
      rw [show N + b.length - N = b.length by omega, List.take_append_of_le_length (Nat.le_refl _), List.take_length]
      rw [List.drop_append_of_le_length (by omega), List.drop_of_length_le (by omega)]; rfl
    have e2 : l.take N = a.take N := by
      rw [← hl]; unfold overL
      have hz : (a.take N).length = N := by rw [List.length_take]; omega
      rw [List.append_assoc, List.take_append_of_le_length (by omega), List.take_of_length_le (by omega)]
    refine Br.f rfl ⟨by omega, by omega, by omega, by rw [Int.toNat_natCast]; omega, ?_⟩
    simp only [Int.toNat_natCast]
    have V1 := A30.sub (lo := N) (hi := N + b.length) (m := s30.cap) (by omega) (by omega) (by omega)
    rw [e1] at V1
    refine ⟨_, V1.bytes (fun _ => rfl), _, B35.bytes (fun _ => rfl), ?_⟩
    rw [decide_eq_true (by rfl : b = b) |> fun h => show strEq _ _ = true by rw [show (⟨b.toArray⟩ : ByteArray) = tx b from rfl, tx_eq]; exact h]
    have V2 := A30.sub (lo := 0) (hi := N) (m := s30.cap) (by omega) (by omega) (by omega)
    have V3 := A35.sub (lo := 0) (hi := N) (m := s0.cap) (by omega) (by omega) (by omega)
    rw [List.drop_zero, e2] at V2
    rw [List.drop_zero] at V3
    refine Br.f rfl ⟨by omega, by omega, _, V2.bytes (fun _ => rfl), by omega, by omega, _, V3.bytes (fun _ => rfl), ?_, trivial⟩
    have : strEq (⟨(a.take N).toArray⟩ : ByteArray) ⟨(a.take N).toArray⟩ = true := by
      rw [show (⟨(a.take N).toArray⟩ : ByteArray) = tx (a.take N) from rfl, tx_eq]; simp
    rw [this]; rfl
  rintro c h44 ⟨rfl, rfl⟩
  refine Br.f rfl ⟨fun c hh => c = false ∧ ∃ lab σ dd2 o, Live h4 hh lab f D σ 80 ∧ S2 σ bd be dd2 de [] [(nB, x)] ∧ σ.fl x = some ⟨[], o, l⟩ ∧ Arr 1 dF hh s30 l, ?_, ?_⟩
  · refine L35.removeS (l := pDA) (by omega) (by decide) fun r h47 lab47 f1 L47 s47 => ?_
    have hrm : removeR σ1 pDA r = (0, σ1.chg bd dd r []) := by
      rw [removeR_eq T.pD T.hdd T.hmd (x := x) rfl, T.calm.change]; rfl
    rw [hrm] at L47 ⊢
    simp only at L47 ⊢
    have hr1 : de.now ≠ r := fun z => by rw [← z, T.hme] at f1; cases f1
    generalize hσ2 : σ1.chg bd dd r [] = σ2 at L47
    have T2 : S2 σ2 bd be ⟨r, dd.was ++ [dd.now]⟩ de [] [(nB, x)] := by
      rw [← hσ2]
      exact ⟨T.hq, T.calm, T.hd, upd_same _ _ _, by show upd _ _ _ _ = _; rw [upd_ne hbe.symm]; exact T.hde, upd_same _ _ _, by show upd _ _ _ _ = _; rw [upd_ne hr1]; exact T.hme⟩
    have x2 : σ2.fl x = some ⟨[], o1, l⟩ := by rw [← hσ2]; exact x1
    have A47 : Arr 1 dF h47 s30 l := A30.ext s47.ext fun ⟨b, off, hb, hn⟩ => hn (lab30 b off hb).1
    refine br_zero rfl (L47.same (l := pDA) (l' := pEB) (by decide) (by decide) fun h49 e49 => ?_)
    have hsame : sameE σ2 pDA pEB = false := by
      unfold sameE
      rw [fileE_no T2.pD T2.hdd T2.hmd rfl]
    exact ⟨hsame, lab47, σ2, _, o1, (L47.ext0 e49).mono (by omega), T2, x2, A47.ext0 e49⟩
  rintro c h51 ⟨rfl, lab2, σ2, dd2, o2, L51, T2, x2, A51⟩
  have fe2 := fileE_two T2.pE T2.hde T2.hme (x := x) rfl
  refine Br.f rfl (L51.read (l := pEB) (by decide) fun s52 h54 o52 f52 L54 => ?_)
  rw [readE_eq fe2 x2] at o52 ⊢
  refine Br.t rfl ⟨tx l, (o52.arr dF_sized).bytes (fun _ => rfl), tx l, (A51.ext0 f52.ext).bytes (fun _ => rfl), ?_⟩
  rw [tx_eq, decide_eq_true rfl]
  refine Br.t rfl (L54.remove (l := pEB) (by omega) (by decide) fun r h58 lab58 f1 L58 => ?_)
  have hrm : removeR σ2 pEB r = (0, σ2.chg be de r []) := by
    rw [removeR_eq T2.pE T2.hde T2.hme (x := x) rfl, T2.calm.change]; rfl
  rw [hrm] at L58 ⊢
  simp only at L58 ⊢
  have hr1 : dd2.now ≠ r := fun z => by rw [← z, T2.hmd] at f1; cases f1
  have T3 : S2 (σ2.chg be de r []) bd be dd2 ⟨r, de.was ++ [de.now]⟩ [] [] :=
    ⟨T2.hq, T2.calm, T2.hd, by show upd _ _ _ _ = _; rw [upd_ne hbe]; exact T2.hdd, upd_same _ _ _, by show upd _ _ _ _ = _; rw [upd_ne hr1]; exact T2.hmd, upd_same _ _ _⟩
  refine Br.t rfl (L58.used fun h60 e60 => ?_)
  have hu : usedN (σ2.chg be de r []) = 0 := by rw [T3.used, key0]; rfl
  rw [hu]
  exact k h60 (e1.trans (L58.fr.ext0 e60).e)

end Go.V.Ytdeihieblljfcaa
