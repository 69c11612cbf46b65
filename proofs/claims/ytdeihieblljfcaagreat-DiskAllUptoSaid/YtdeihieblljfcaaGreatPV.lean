/- This text proves a part of the laws of seat YtdeihieblljfcaaGreat, under no condition: F3f F3g. -/
import Derived.Test.YtdeihieblljfcaaGreatPU
set_option linter.unusedVariables false
set_option linter.unusedSimpArgs false
/-! The document's disk: names change. -/
namespace Go.V.YtdeihieblljfcaaGreat
open Go Go.V

theorem Lst.sub {α β : Type} {sz : Nat} {f : α → List Lf} {Q : Heap → Bl → α → β → Prop} {h : Heap} {M : Bl} {s : Slc} {l : List β} (L : Lst sz f Q h M s l) {lo hi m : Nat} (h1 : lo ≤ hi) (h2 : hi ≤ l.length) (h3 : hi ≤ m) :
    Lst sz f Q h M (s.sub sz lo hi m) ((l.take hi).drop lo) := by
  obtain ⟨os, A, hl, ho⟩ := L.ex
  refine ⟨⟨(os.take hi).drop lo, ?_, by rw [hl, ← List.map_take, ← List.map_drop], fun o hx => ho o (List.mem_of_mem_take (List.mem_of_mem_drop hx))⟩, fun b off hb => ?_, ?_⟩
  · have := A.sub h1 (by rw [hl] at h2; simpa using h2) h3
    rw [← List.map_take, ← List.map_drop] at this; exact this
  · unfold Slc.sub at hb; simp only at hb
    split at hb
    · exact L.m b off hb
    · cases hs : s.a with
      | none => rw [hs] at hb; cases hb
      | some p => obtain ⟨b', o⟩ := p; rw [hs] at hb; cases hb; exact L.m _ _ hs
  · show hi - lo ≤ m - lo; omega

structure OkD (δ : Dc) (n : Nat) : Prop where
  W : WD δ
  sc : ScD δ
  wn : ∀ p ∈ δ.dirs, p.2.length ≤ n
  fn : δ.files.length ≤ n

theorem nmOf {h h' : Heap} {s t : Slc} {l : Nm} (M : Bl) (oa : Own 1 sF h' s (l.map (·.1))) (ob : Own 1 jF h' t (l.map (·.2))) (ga : ∀ b off, s.a = some (b, off) → h.size ≤ b) (gb : ∀ b off, t.a = some (b, off) → h.size ≤ b) : NmR h' (grow M h h') (s, t) l :=
  ⟨oa.arr sF_sized, ob.arr jF_sized, fun b off hb => .inr ⟨ga b off hb, (oa.lt _ _ hb).1⟩, fun b off hb => .inr ⟨gb b off hb, (ob.lt _ _ hb).1⟩⟩

theorem chgW {h : Heap} {M : Bl} {d : Nat} {δ : Dc} (X : DD h M d δ) (W : WD δ) {i : Nat} {nm : Tx} {ws : List Nm} {m : Nm} (hi : δ.dirs[i]? = some (nm, ws)) (hm : nowD δ i = some m) (hml : m.length ≤ 1000000) (hw : ws.length ≤ 2199023255552) {n : Tx} {x : Int} {R : Heap → Prop}
    (k : ∀ h' M', DD h' M' d (chgD δ i (withD n x m)) → DStp M h M' h' d → R h') :
    Call Go.Proofs.Tryz.prog 130 [.lf (.ptr (some (d, 0))), .lf (.int .i64 (i : Int))] h [.agg [.slc, .slc]] fun s s' h1 => Call Go.Proofs.Tryz.prog 134 [.agg [.slc s, .slc s'], .lf (.str (tx n)), .lf (.int .i64 x)] h1 [.agg [.slc, .slc]] fun t t' h2 =>
      Call Go.Proofs.Tryz.prog 133 [.lf (.ptr (some (d, 0))), .lf (.int .i64 (i : Int)), .agg [.slc t, .slc t']] h2 [] fun h3 => R h3 := by
  refine c130 X hm W.bw fun p h1 N e1 => c134 N hml fun s t h2 oa ob ga gb e2 => ?_
  have U := (X.ext0 e1).up e2
  refine c133 U.1 hi (p := (s, t)) (nmOf M oa ob ga gb) (by have := W.few; omega) hw fun h3 M3 X3 D3 => k h3 M3 X3 (((DStp.of0 M d e1).trans U.2).trans D3)

def dirE (δ : Dc) (l : Tx) : Option Nat × Int := if okName l = true then (match ixOf l δ.dirs with | none => (none, 6) | some i => (some i, 0)) else (none, 1)
theorem c148 {h : Heap} {M : Bl} {d : Nat} {δ : Dc} (X : DD h M d δ) (W : WD δ) {l : Tx} {R : Int → Int → Heap → Prop} (k1 : ∀ e, dirE δ l = (none, e) → e ≠ 0 → R 0 e h) (k2 : ∀ i : Nat, dirE δ l = (some i, 0) → R (i : Int) 0 h) :
    Call Go.Proofs.Tryz.prog 148 [.lf (.ptr (some (d, 0))), .lf (.str (tx l))] h [.one (.int .i64), .one (.int .i64)] R := by
  refine ok148 (c127 (Br.not (fun hf => k1 1 (by unfold dirE; rw [if_neg (by rw [hf]; simp)]) (by omega)) fun ht => ?_))
  have hd : dirE δ l = match ixOf l δ.dirs with | none => (none, 6) | some i => (some i, 0) := by unfold dirE; rw [if_pos ht]
  exact c128 X (by have := W.few; omega) (fun hi i hneg => Br.t (by simpa using hneg) (k1 6 (by rw [hd, hi]) (by omega))) fun i hi => Br.f (by simp) (k2 i (by rw [hd, hi]))

theorem tw_len {α : Type} (p : α → Bool) : ∀ (l : List α) (m : Nat), m ≤ l.length → (∀ j x, j < m → l[j]? = some x → p x = true) → (∀ x, l[m]? = some x → p x = false) → (l.takeWhile p).length = m
  | [], m, hm, _, _ => by simp at hm; subst hm; rfl
  | x :: r, 0, _, _, h => by rw [List.takeWhile_cons, h x rfl]; rfl
  | x :: r, m + 1, hm, h1, h2 => by
    rw [List.takeWhile_cons, h1 0 x (by omega) rfl]
    show (r.takeWhile p).length + 1 = m + 1
    rw [tw_len p r m (by simpa using hm) (fun j y hj hy => h1 (j + 1) y (by omega) (by simpa using hy)) fun y hy => h2 y (by simpa using hy)]

def posD (l : Tx) (ds : List (Tx × List Nm)) : Nat := (ds.takeWhile fun p => decide (p.1 < l)).length
def insD (l : Tx) (ds : List (Tx × List Nm)) : List (Tx × List Nm) := ds.take (posD l ds) ++ (l, [[]]) :: ds.drop (posD l ds)
def mkdirD (δ : Dc) (l : Tx) : Int × Dc :=
  if okName l = true then
    if (ixOf l δ.dirs).isSome = true then (7, δ) else if 64 ≤ δ.dirs.length then (2, δ)
    else if (scriptD δ).1 ≠ 0 then ((scriptD δ).1, (scriptD δ).2.2)
    else (0, { (scriptD δ).2.2 with dirs := insD l δ.dirs })
  else (1, δ)
theorem c66 {h : Heap} {M : Bl} {d : Nat} {δ : Dc} (X : DD h M d δ) {n : Nat} (O : OkD δ n) {l : Tx} {R : Int → Heap → Prop}
    (k : ∀ h' M', DD h' M' d (mkdirD δ l).2 → DStp M h M' h' d → R (mkdirD δ l).1 h') : Call Go.Proofs.Tryz.prog 66 [.lf (.ptr (some (d, 0))), .lf (.str (tx l))] h [.one (.int .i64)] R := by
  have stay : ∀ e, mkdirD δ l = (e, δ) → R e h := fun e hc => by
    have := k h M (by rw [hc]; exact X) (DStp.refl M h d)
    rwa [hc] at this
  have few := O.W.few
  refine ok66 (c127 (Br.not (fun hf => stay 1 (by unfold mkdirD; rw [if_neg (by rw [hf]; simp)])) fun ht => ?_))
  refine c128 X (by omega) (fun hix i hneg => Br.f (by simpa using hneg) ?_) fun i hix => Br.t (by simp) (stay 7 (by unfold mkdirD; rw [if_pos ht, if_pos (by rw [hix]; rfl)]))
  obtain ⟨sd, sf, kb, A, B⟩ := X.ex
  have hal := Lst.len A
  refine NilC.mk rfl ⟨sd, kb.cell rfl, Br.dec (fun hge => stay 2 ?_) fun hlt => ?_⟩
  · unfold mkdirD; rw [if_pos ht, if_neg (by rw [hix]; simp), if_pos (by omega)]
  have hcr : mkdirD δ l = if (scriptD δ).1 ≠ 0 then ((scriptD δ).1, (scriptD δ).2.2) else (0, { (scriptD δ).2.2 with dirs := insD l δ.dirs }) := by
    unfold mkdirD; rw [if_pos ht, if_neg (by rw [hix]; simp), if_neg (by omega)]
  refine c129 X O.sc fun h8 X8 e8 => ?_
  have hk := scriptD_keep δ
  refine Br.ne (fun he => ?_) fun he => ?_
  · have := k h8 M (by rw [hcr, if_pos he]; exact X8) (DStp.of M e8)
    rw [hcr, if_pos he] at this; exact this
  rw [hcr, if_neg (fun y => y he)] at k
  generalize scriptD δ = a at *
  obtain ⟨e, hf, δ1⟩ := a
  simp only at X8 hk k
  obtain ⟨sd1, sf1, kb1, A1, B1⟩ := X8.ex
  rw [hk.2.1] at A1
  have hal1 := Lst.len A1
  have hcap1 := A1.cap
  refine ⟨fun i hh => hh = h8 ∧ i = (posD l δ.dirs : Int), ⟨fun i hh m => ∃ n : Nat, i = (n : Int) ∧ n ≤ δ.dirs.length ∧ hh = h8 ∧ (∀ j p, j < n → δ.dirs[j]? = some p → decide (p.1 < l) = true) ∧ m = δ.dirs.length - n, ⟨_, 0, rfl, Nat.zero_le _, rfl, fun j p hj => by omega, rfl⟩, ?_⟩, ?_⟩
  · rintro i h13 m ⟨n, rfl, hn, rfl, hg, rfl⟩
    refine NilC.mk rfl ⟨sd1, kb1.cell rfl, Br.dec (fun hlt2 => NilC.mk rfl ⟨sd1, kb1.cell rfl, ?_⟩) fun hge => ⟨rfl, ?_⟩⟩
    · have hlt' : n < δ.dirs.length := by omega
      have hget := List.getElem?_eq_getElem hlt'
      refine Lst.ix A1 rfl hget fun q x off hq hc => ⟨_, ⟨hc.1, trivial⟩, ?_⟩
      rw [strLt_tx, hq.1]
      refine Br.dec (fun hl => ⟨δ.dirs.length - (n + 1), by omega, n + 1, by rw [wi64 (by omega) (by omega)]; rfl, by omega, rfl, fun j p hj hp => ?_, rfl⟩) fun hl => ⟨rfl, ?_⟩
      · by_cases hjn : j < n
        · exact hg j p hjn hp
        · have : j = n := by omega
          subst this
          rw [hget] at hp; rw [← Option.some.inj hp]; exact decide_eq_true hl
      · unfold posD
        rw [tw_len _ δ.dirs n hn hg fun p hp => by rw [hget] at hp; rw [← Option.some.inj hp]; exact decide_eq_false hl]
    · unfold posD
      rw [tw_len _ δ.dirs n hn hg fun p hp => by rw [List.getElem?_eq_none (by omega)] at hp; cases hp]
  rintro i h26 ⟨rfl, rfl⟩
  have hpl : posD l δ.dirs ≤ δ.dirs.length := by unfold posD; exact (List.takeWhile_sublist _).length_le
  have hins : insD l δ.dirs = (δ.dirs.take (posD l δ.dirs) ++ [(l, [[]])]) ++ δ.dirs.drop (posD l δ.dirs) := by unfold insD; simp
  generalize posD l δ.dirs = q at *
  have tN : ((q : Nat) : Int).toNat = q := rfl
  refine New.mk fun b27 h28 hb27 hs28 e28 k28 => NilC.mk rfl ⟨sd1, (kb1.ext e28).cell rfl, by omega, by omega, ?_⟩
  rw [tN]
  have A28 : DirsL h28 M sd1 δ.dirs := DirsL.stab.go e28 (fun _ x => x.elim) (fun _ x => x) A1
  refine LO.app dirF_sized DirQ.stab (by decide) rfl (LO.new dirF_sized k28) (Lst.sub A28 (Nat.zero_le q) hpl (m := sd1.cap) (by omega)) (fun b off hb => by cases hb; exact X8.nM (by omega)) (by simp; omega) fun s32 h33 o33 g33 => ?_
  rw [List.nil_append, List.drop_zero] at o33
  have f28 : Fresh h26 h28 ⟨some (b27, 0), 0, 0⟩ := ⟨e28, fun b off x => by cases x; omega⟩
  have f33 := f28.grow g33
  refine New.mk fun b34 h35 hb34 hs35 e35 k35 => New.mk fun b36 h37 hb36 hs37 e37 k37 => ?_
  let M1 : Bl := fun i => M i ∨ i = b34
  have n1 : ∀ {s : Slc}, (∀ b off, s.a = some (b, off) → h26.size ≤ b ∧ b ≠ b34) → ∀ b off, s.a = some (b, off) → ¬ M1 b := fun hs b off hb hx => hx.elim (X8.nM (hs b off hb).1) (hs b off hb).2
  have hs32 : ∀ b off, s32.a = some (b, off) → h26.size ≤ b ∧ b ≠ b34 := fun b off hb => ⟨f33.new b off hb, by have := o33.lt _ _ hb; omega⟩
  have o37 : LO 2 dirF DirQ h37 M1 s32 (δ.dirs.take q) := o33.ext DirQ.stab (e35.trans e37) (fun _ x => x.elim) (fun _ x => .inl x) fun _ _ _ x => x
  have N37 : NmR h37 M1 (⟨none, 0, 0⟩, ⟨none, 0, 0⟩) [] := ⟨(Own.nil 1 sF h37).arr sF_sized, (Own.nil 1 jF h37).arr jF_sized, fun b off x => (by cases x), fun b off x => (by cases x)⟩
  have W37 : WyR h37 M1 ⟨some (b34, 0), 1, 1⟩ [[]] := ⟨⟨[((⟨none, 0, 0⟩, ⟨none, 0, 0⟩), [])], (Own.new pairF_sized (l := [((⟨none, 0, 0⟩, ⟨none, 0, 0⟩) : Slc × Slc)]) (k35.ext e37)).arr pairF_sized, rfl, fun o ho => by rw [List.mem_singleton.1 ho]; exact N37⟩, fun b off hb => by cases hb; exact .inr rfl, Nat.le_refl _⟩
  refine LO.app1 dirF_sized DirQ.stab (by decide) rfl o37 (n1 hs32) (a := (l, ⟨some (b34, 0), 1, 1⟩)) (y := (l, [[]])) k37 ⟨rfl, W37⟩ (by rw [List.length_take]; omega) fun s38 h39 o39 g39 => ?_
  have f39 : Fresh h26 h39 s38 := ((f33.ext0 e35).ext0 e37).grow g39
  have hs38 : ∀ b off, s38.a = some (b, off) → h26.size ≤ b ∧ b ≠ b34 := fun b off hb => by
    rcases g39.new with x | ⟨b', x, y⟩
    · rw [x] at hb; exact hs32 b off hb
    · rw [x] at hb; cases hb; exact ⟨by have := f39.new _ _ x; omega, by omega⟩
  refine NilC.mk rfl ⟨sd1, (kb1.ext f39.ext).cell rfl, by omega, by omega, ?_⟩
  have A39 : DirsL h39 M1 sd1 δ.dirs := DirsL.stab.go f39.ext (fun _ x => x.elim) (fun _ x => .inl x) A1
  have sub39 := Lst.sub A39 (hpl) (Nat.le_refl _) (m := sd1.cap) (by omega)
  rw [List.take_length, ← hal1] at sub39
  refine LO.app dirF_sized DirQ.stab (by decide) rfl o39 sub39 (n1 hs38) (by simp; omega) fun s43 h44 o44 g44 => NilC.mk rfl ?_
  have f44 := f39.grow g44
  rw [← hins] at o44
  have E44 := f44.ext
  refine StC.one (kb1.ext E44) (by simp) fun h47 hs47 k47 e47 => ?_
  have z := g44.ext.size
  have z2 := g39.ext.size
  have hM : ∀ j, M1 j → grow M h26 h44 j := fun j hj => hj.imp id fun y => ⟨by have := f33.ext.size; omega, by omega⟩
  have W1 := X8.wr (δ' := { δ1 with dirs := insD l δ.dirs }) E44 (sd := s43) (sf := sf1) (by simpa using k47) e47 (o44.lst dirF_sized DirQ.stab hM fun b off hb => .inr ⟨f44.new b off hb, o44.lt b off hb⟩) (FilL.stab.go E44 (fun _ x => x.elim) (grow_le _ _ _) B1)
  exact k h47 _ W1.1 ((DStp.of M e8).trans W1.2)

def rmdirD (δ : Dc) (l : Tx) : Int × Dc := match dirE δ l with
  | (none, e) => (e, δ)
  | (some i, _) => match nowD δ i with
    | none => (6, δ)
    | some m => if m ≠ [] then (8, δ) else if (scriptD δ).1 ≠ 0 then ((scriptD δ).1, (scriptD δ).2.2)
      else (0, { (scriptD δ).2.2 with dirs := δ.dirs.take i ++ δ.dirs.drop (i + 1) })
theorem WD.now {δ : Dc} (W : WD δ) {l : Tx} {i : Nat} (h : ixOf l δ.dirs = some i) : ∃ ws m, δ.dirs[i]? = some (l, ws) ∧ nowD δ i = some m ∧ m.length ≤ 1024 := by
  obtain ⟨ws, hw⟩ := ixOf_some h
  have hmem := List.mem_of_getElem? hw
  have hne := W.ways _ hmem
  cases hg : ws.getLast? with
  | none => rw [List.getLast?_eq_none_iff] at hg; exact absurd hg hne
  | some m => exact ⟨ws, m, hw, by unfold nowD; rw [hw]; exact hg, W.nl _ hmem m (List.mem_of_getLast? hg)⟩
theorem dirE_some {δ : Dc} {l : Tx} {i : Nat} {e : Int} (h : dirE δ l = (some i, e)) : okName l = true ∧ ixOf l δ.dirs = some i := by
  unfold dirE at h
  split at h
  · rename_i ho
    split at h
    · cases h
    · rename_i hi; cases h; exact ⟨ho, hi⟩
  · cases h

theorem c68 {h : Heap} {M : Bl} {d : Nat} {δ : Dc} (X : DD h M d δ) {n : Nat} (O : OkD δ n) {l : Tx} {R : Int → Heap → Prop}
    (k : ∀ h' M', DD h' M' d (rmdirD δ l).2 → DStp M h M' h' d → R (rmdirD δ l).1 h') : Call Go.Proofs.Tryz.prog 68 [.lf (.ptr (some (d, 0))), .lf (.str (tx l))] h [.one (.int .i64)] R := by
  have stay : ∀ e h', rmdirD δ l = (e, δ) → Ext0 h h' → R e h' := fun e h' hc e0 => by
    have := k h' M (by rw [hc]; exact X.ext0 e0) (DStp.of0 M d e0)
    rwa [hc] at this
  have few := O.W.few
  refine ok68 (c127 (Br.not (fun hf => stay 1 h (by unfold rmdirD dirE; rw [if_neg (by rw [hf]; simp)]) (Ext.refl _ _)) fun ht => ?_))
  have hd : dirE δ l = match ixOf l δ.dirs with | none => (none, 6) | some i => (some i, 0) := by unfold dirE; rw [if_pos ht]
  refine c128 X (by omega) (fun hix i hneg => Br.t (by simpa using hneg) (stay 6 h (by unfold rmdirD; rw [hd, hix]) (Ext.refl _ _))) fun i hix => Br.f (by simp) ?_
  obtain ⟨ws, m, hi, hm, hml⟩ := O.W.now hix
  have hlt : i < δ.dirs.length := by
    rcases Nat.lt_or_ge i δ.dirs.length with x | x
    · exact x
    · rw [List.getElem?_eq_none x] at hi; cases hi
  refine c130 X hm O.W.bw fun p h6 N e6 => ?_
  have hpl := N.a.len
  rw [List.length_map] at hpl
  have hrd : rmdirD δ l = if m ≠ [] then (8, δ) else if (scriptD δ).1 ≠ 0 then ((scriptD δ).1, (scriptD δ).2.2) else (0, { (scriptD δ).2.2 with dirs := δ.dirs.take i ++ δ.dirs.drop (i + 1) }) := by
    unfold rmdirD; rw [hd, hix]; simp only [hm]
  refine Br.dec (fun hgt => stay 8 h6 ?_ e6) fun hle => ?_
  · rw [hrd, if_pos]; intro e; rw [e] at hpl; simp at hpl; omega
  have hm0 : m = [] := List.length_eq_zero_iff.1 (by omega)
  rw [if_neg (fun x => x hm0)] at hrd
  have X6 := X.ext0 e6
  refine c129 X6 O.sc fun h8 X8 e8 => ?_
  have hk := scriptD_keep δ
  have D8 := (DStp.of0 M d e6).trans (DStp.of M e8)
  refine Br.ne (fun he => ?_) fun he => ?_
  · have := k h8 M (by rw [hrd, if_pos he]; exact X8) D8
    rw [hrd, if_pos he] at this; exact this
  rw [hrd, if_neg (fun y => y he)] at k
  generalize scriptD δ = a at *
  obtain ⟨e, hf, δ1⟩ := a
  simp only at X8 hk k
  obtain ⟨sd1, sf1, kb1, A1, B1⟩ := X8.ex
  rw [hk.2.1] at A1
  have hal1 := Lst.len A1
  have hcap1 := A1.cap
  have tN : ((i : Nat) : Int).toNat = i := rfl
  have tN1 : (((i : Nat) : Int) + 1).toNat = i + 1 := rfl
  refine New.mk fun b27 h28 hb27 hs28 e28 k28 => NilC.mk rfl ⟨sd1, (kb1.ext e28).cell rfl, by omega, by omega, ?_⟩
  rw [tN, wi64 (n := (i : Int) + 1) (by omega) (by omega), tN1]
  have A28 : DirsL h28 M sd1 δ.dirs := DirsL.stab.go e28 (fun _ x => x.elim) (fun _ x => x) A1
  refine LO.app dirF_sized DirQ.stab (by decide) rfl (LO.new dirF_sized k28) (Lst.sub A28 (Nat.zero_le i) (Nat.le_of_lt hlt) (m := sd1.cap) (by omega)) (fun b off hb => by cases hb; exact X8.nM (by omega)) (by simp; omega) fun s32 h33 o33 g33 => ?_
  rw [List.nil_append, List.drop_zero] at o33
  have f28 : Fresh h8 h28 ⟨some (b27, 0), 0, 0⟩ := ⟨e28, fun b off x => by cases x; omega⟩
  have f33 := f28.grow g33
  refine NilC.mk rfl ⟨sd1, (kb1.ext f33.ext).cell rfl, by omega, by omega, ?_⟩
  have A33 : DirsL h33 M sd1 δ.dirs := DirsL.stab.go f33.ext (fun _ x => x.elim) (fun _ x => x) A1
  have sub33 := Lst.sub A33 (show i + 1 ≤ δ.dirs.length from hlt) (Nat.le_refl _) (m := sd1.cap) (by omega)
  rw [List.take_length, ← hal1] at sub33
  refine LO.app dirF_sized DirQ.stab (by decide) rfl o33 sub33 (fun b off hb => X8.nM (f33.new b off hb)) (by simp; omega) fun s43 h44 o44 g44 => NilC.mk rfl ?_
  have f44 := f33.grow g44
  have E44 := f44.ext
  refine StC.one (kb1.ext E44) (by simp) fun h47 hs47 k47 e47 => ?_
  have W1 := X8.wr (δ' := { δ1 with dirs := δ.dirs.take i ++ δ.dirs.drop (i + 1) }) E44 (sd := s43) (sf := sf1) (by simpa using k47) e47 (o44.lst dirF_sized DirQ.stab (grow_le _ _ _) fun b off hb => .inr ⟨f44.new b off hb, o44.lt b off hb⟩) (FilL.stab.go E44 (fun _ x => x.elim) (grow_le _ _ _) B1)
  exact k h47 _ W1.1 (D8.trans W1.2)

end Go.V.YtdeihieblljfcaaGreat
/-! The document's disk: Create, Rename, Link, Remove. -/
namespace Go.V.YtdeihieblljfcaaGreat
open Go Go.V

theorem placeD_at {δ : Dc} {l n : Tx} {i : Nat} {e : Int} (W : WD δ) (h : placeD δ l = (some (i, n), e)) : okName n = true ∧ ∃ a ws m, δ.dirs[i]? = some (a, ws) ∧ nowD δ i = some m ∧ m.length ≤ 1024 := by
  unfold placeD at h
  split at h
  · cases h
  · rename_i a b hp
    split at h
    · cases h
    · rename_i hi
      cases h
      obtain ⟨ws, m, h1, h2, h3⟩ := W.now hi
      exact ⟨(pathOf_ok hp).2, a, ws, m, h1, h2, h3⟩
theorem nowD_script (δ : Dc) (i : Nat) : nowD (scriptD δ).2.2 i = nowD δ i := by unfold nowD; rw [(scriptD_keep δ).2.1]
theorem WD.script {δ : Dc} (W : WD δ) : WD (scriptD δ).2.2 := by
  have h := (scriptD_keep δ).2.1
  exact ⟨by rw [h]; exact W.ways, by rw [h]; exact W.few, by rw [h]; exact W.wl, by rw [h]; exact W.nl⟩
theorem OkD.script {δ : Dc} {n : Nat} (O : OkD δ n) : OkD (scriptD δ).2.2 n :=
  ⟨O.W.script, scriptD_ok O.sc, by rw [(scriptD_keep δ).2.1]; exact O.wn, by rw [(scriptD_keep δ).2.2]; exact O.fn⟩

def createD (δ : Dc) (l : Tx) : Int × Dc := match placeD δ l with
  | (none, e) => (e, δ)
  | (some (i, n), _) => match nowD δ i with
    | none => (6, δ)
    | some m => if (look n m).isSome = true then (7, δ) else if 1024 ≤ m.length then (2, δ)
      else if (scriptD δ).1 ≠ 0 then ((scriptD δ).1, (scriptD δ).2.2)
      else (0, chgD { (scriptD δ).2.2 with files := δ.files ++ [([], [])] } i (withD n (δ.files.length : Int) m))
theorem c69 {h : Heap} {M : Bl} {d : Nat} {δ : Dc} (X : DD h M d δ) {n : Nat} (O : OkD δ n) (hn : n ≤ 2199023255552) {l : Tx} (hl : l.length < 4611686018427387904) {R : Int → Heap → Prop}
    (k : ∀ h' M', DD h' M' d (createD δ l).2 → DStp M h M' h' d → R (createD δ l).1 h') : Call Go.Proofs.Tryz.prog 69 [.lf (.ptr (some (d, 0))), .lf (.str (tx l))] h [.one (.int .i64)] R := by
  have stay : ∀ e h', createD δ l = (e, δ) → Ext0 h h' → R e h' := fun e h' hc e0 => by
    have := k h' M (by rw [hc]; exact X.ext0 e0) (DStp.of0 M d e0)
    rwa [hc] at this
  have few := O.W.few
  refine ok69 (c131 X (by omega) hl (fun e hp he => Br.ne (fun _ => stay e h (by unfold createD; rw [hp]) (Ext.refl _ _)) fun x => absurd x he) fun i nm hp hok => Br.ne (fun x => absurd rfl x) fun _ => ?_)
  obtain ⟨_, a, ws, m, hi, hm, hml⟩ := placeD_at O.W hp
  refine c130 X hm O.W.bw fun p h6 N e6 => ?_
  have X6 := X.ext0 e6
  refine c132 (M := M) X6.lt N (by omega) (fun hlk i7 h8 hneg e8 => Br.f (by simpa using hneg) ?_) fun x h8 hlk e8 => Br.t (by simp) (stay 7 h8 (by unfold createD; rw [hp]; simp only [hm]; rw [if_pos (by rw [hlk]; rfl)]) (e6.trans e8))
  have X8 := X6.ext0 e8
  refine c130 X8 hm O.W.bw fun p2 h11 N11 e11 => ?_
  have hpl := N11.a.len
  rw [List.length_map] at hpl
  have e011 := (e6.trans e8).trans e11
  refine Br.dec (fun hge => stay 2 h11 (by unfold createD; rw [hp]; simp only [hm]; rw [if_neg (by rw [hlk]; simp), if_pos (by omega)]) e011) fun hlt => ?_
  have hcr : createD δ l = if (scriptD δ).1 ≠ 0 then ((scriptD δ).1, (scriptD δ).2.2) else (0, chgD { (scriptD δ).2.2 with files := δ.files ++ [([], [])] } i (withD nm (δ.files.length : Int) m)) := by
    unfold createD; rw [hp]; simp only [hm]; rw [if_neg (by rw [hlk]; simp), if_neg (by omega)]
  refine c129 (X8.ext0 e11) O.sc fun h13 X13 e13 => ?_
  have D13 := (DStp.of0 M d e011).trans (DStp.of M e13)
  refine Br.ne (fun he => ?_) fun he => ?_
  · have := k h13 M (by rw [hcr, if_pos he]; exact X13) D13
    rw [hcr, if_pos he] at this; exact this
  rw [hcr, if_neg (fun y => y he)] at k
  have hk := scriptD_keep δ
  have hW := O.W.script
  have hnow := nowD_script δ i
  generalize scriptD δ = A at *
  obtain ⟨e, hf, δ1⟩ := A
  simp only at X13 hk k hW hnow
  obtain ⟨sd, sf, kb, AA, BB⟩ := X13.ex
  rw [hk.2.2] at BB
  have fn := O.fn
  refine New.mk fun b14 h15 hb14 hs15 e15 k15 => NilC.mk rfl ⟨sf, (kb.ext e15).cell rfl, ?_⟩
  refine LO.app pairF_sized FilQ.stab (by decide) rfl (LO.new pairF_sized k15) (FilL.stab.go e15 (fun _ x => x.elim) (fun _ x => x) BB) (fun b off hb => by cases hb; exact X13.nM (by omega)) (by simp; omega) fun s19 h20 o20 g20 => ?_
  rw [List.nil_append] at o20
  have f15 : Fresh h13 h15 ⟨some (b14, 0), 0, 0⟩ := ⟨e15, fun b off x => by cases x; omega⟩
  have f20 := f15.grow g20
  refine New.mk fun b21 h22 hb21 hs22 e22 k22 => ?_
  have Q22 : FilQ h22 M (⟨none, 0, 0⟩, ⟨none, 0, 0⟩) ([], []) := ⟨⟨(Own.nil 1 dF h22).arr dF_sized, fun b off x => (by cases x), Nat.le_refl _⟩, Lst.nil 2 oF WrQ h22 M⟩
  refine LO.app1 pairF_sized FilQ.stab (by decide) rfl (o20.ext0 FilQ.stab e22) (fun b off hb => X13.nM (f20.new b off hb)) (a := (⟨none, 0, 0⟩, ⟨none, 0, 0⟩)) (y := ([], [])) k22 Q22 (by omega) fun s23 h24 o24 g24 => NilC.mk rfl ?_
  have f24 : Fresh h13 h24 s23 := (f20.ext0 e22).grow g24
  have E24 := f24.ext
  refine StC.one (kb.ext E24) (by simp) fun h27 hs27 k27 e27 => ?_
  let δ2 : Dc := { δ1 with files := δ.files ++ [([], [])] }
  have W1 := X13.wr (δ' := δ2) E24 (sd := sd) (sf := s23) (by simpa using k27) e27 (DirsL.stab.go E24 (fun _ x => x.elim) (grow_le _ _ _) AA) (o24.lst pairF_sized FilQ.stab (grow_le _ _ _) fun b off hb => .inr ⟨f24.new b off hb, o24.lt b off hb⟩)
  have X27 := W1.1
  have hlen := (X27.ex.choose_spec.choose_spec.2.2).len
  have hi2 : δ2.dirs[i]? = some (a, ws) := by show δ1.dirs[i]? = _; rw [hk.2.1]; exact hi
  have hm2 : nowD δ2 i = some m := hnow.trans hm
  have W2 : WD δ2 := ⟨hW.ways, hW.few, hW.wl, hW.nl⟩
  have hws : ws.length ≤ 2199023255552 := by have := O.wn _ (List.mem_of_getElem? hi); simp only at this; omega
  refine NilC.mk rfl ⟨s23, k27.cell rfl, c130 X27 hm2 W2.bw fun p h33 N33 e33 => ⟨(k27.ext e33).cell rfl, ?_⟩⟩
  have hs23 : s23.len = δ.files.length + 1 := by rw [o24.len]; simp
  have hx : IntKind.wrap .i64 ((s23.len : Int) - 1) = (δ.files.length : Int) := by rw [hs23, wi64 (by omega) (by omega)]; omega
  rw [hx]
  refine c134 N33 (by omega) fun s t h36 oa ob ga gb e36 => ?_
  have U := (X27.ext0 e33).up e36
  refine c133 U.1 hi2 (p := (s, t)) (nmOf _ oa ob ga gb) (by have := W2.few; omega) hws fun h37 M37 X37 D37 => ?_
  exact k h37 M37 X37 ((((D13.trans W1.2).trans (DStp.of0 _ d e33)).trans U.2).trans D37)

def twoD (δ : Dc) (l l' : Tx) : Option (Nat × Tx × Nat × Tx × Nat) × Int := match placeD δ l with
  | (none, e) => (none, e)
  | (some (a, m), _) => match placeD δ l' with
    | (none, e) => (none, e)
    | (some (b, n), _) => match nowD δ a with
      | none => (none, 6)
      | some q => match look m q with
        | none => (none, 6)
        | some i => (some (a, m, b, n, i), 0)
theorem c145 {h : Heap} {M : Bl} {d : Nat} {δ : Dc} (X : DD h M d δ) (W : WD δ) {l l' : Tx} (hl : l.length < 4611686018427387904) (hl' : l'.length < 4611686018427387904) {R : Int → ByteArray → Int → ByteArray → Int → Int → Heap → Prop}
    (k1 : ∀ e h', twoD δ l l' = (none, e) → e ≠ 0 → Ext0 h h' → R 0 (tx []) 0 (tx []) 0 e h') (k2 : ∀ (a b i : Nat) m n h', twoD δ l l' = (some (a, m, b, n, i), 0) → Ext0 h h' → R (a : Int) (tx m) (b : Int) (tx n) (i : Int) 0 h') :
    Call Go.Proofs.Tryz.prog 145 [.lf (.ptr (some (d, 0))), .lf (.str (tx l)), .lf (.str (tx l'))] h [.one (.int .i64), .one .str, .one (.int .i64), .one .str, .one (.int .i64), .one (.int .i64)] R := by
  have few := W.few
  refine ok145 (c131 X (by omega) hl (fun e hp he => Br.ne (fun _ => k1 e h (by unfold twoD; rw [hp]) he (Ext.refl _ _)) fun x => absurd x he) fun a m hp hok => Br.ne (fun x => absurd rfl x) fun _ => ?_)
  refine c131 X (by omega) hl' (fun e hp' he => Br.ne (fun _ => k1 e h (by unfold twoD; rw [hp, hp']) he (Ext.refl _ _)) fun x => absurd x he) fun b n hp' hok' => Br.ne (fun x => absurd rfl x) fun _ => ?_
  obtain ⟨_, _, ws, q, hi, hm, hml⟩ := placeD_at W hp
  refine c130 X hm W.bw fun p h6 N e6 => ?_
  have X6 := X.ext0 e6
  exact c132 (M := M) X6.lt N (by omega) (fun hlk i7 h8 hneg e8 => Br.t (by simpa using hneg) (k1 6 h8 (by unfold twoD; rw [hp, hp']; simp only [hm, hlk]) (by omega) (e6.trans e8))) fun x h8 hlk e8 => Br.f (by simp) (k2 a b x m n h8 (by unfold twoD; rw [hp, hp']; simp only [hm, hlk]) (e6.trans e8))
theorem twoD_some {δ : Dc} {l l' m n : Tx} {a b i : Nat} {e : Int} (h : twoD δ l l' = (some (a, m, b, n, i), e)) : placeD δ l = (some (a, m), 0) ∧ placeD δ l' = (some (b, n), 0) ∧ ∃ q, nowD δ a = some q ∧ look m q = some i := by
  have z : ∀ {l : Tx} {x : Nat × Tx} {e : Int}, placeD δ l = (some x, e) → e = 0 := fun {l x e} hp => by
    unfold placeD at hp
    split at hp
    · cases hp
    · split at hp
      · cases hp
      · cases hp; rfl
  unfold twoD at h
  split at h
  · cases h
  · rename_i hp
    split at h
    · cases h
    · rename_i hp'
      split at h
      · cases h
      · rename_i hm
        split at h
        · cases h
        · rename_i hk
          cases h
          have := z hp; have := z hp'
          subst_vars
          exact ⟨hp, hp', _, hm, hk⟩

def linkD (δ : Dc) (l l' : Tx) : Int × Dc := match twoD δ l l' with
  | (none, e) => (e, δ)
  | (some (_, _, b, n, i), _) => match nowD δ b with
    | none => (6, δ)
    | some m => if (look n m).isSome = true then (7, δ) else if 1024 ≤ m.length then (2, δ)
      else if (scriptD δ).1 ≠ 0 then ((scriptD δ).1, (scriptD δ).2.2)
      else (0, chgD (scriptD δ).2.2 b (withD n (i : Int) m))
theorem c76 {h : Heap} {M : Bl} {d : Nat} {δ : Dc} (X : DD h M d δ) {n : Nat} (O : OkD δ n) (hn : n ≤ 2199023255552) {l l' : Tx} (hl : l.length < 4611686018427387904) (hl' : l'.length < 4611686018427387904) {R : Int → Heap → Prop}
    (k : ∀ h' M', DD h' M' d (linkD δ l l').2 → DStp M h M' h' d → R (linkD δ l l').1 h') : Call Go.Proofs.Tryz.prog 76 [.lf (.ptr (some (d, 0))), .lf (.str (tx l)), .lf (.str (tx l'))] h [.one (.int .i64)] R := by
  have stay : ∀ e h', linkD δ l l' = (e, δ) → Ext0 h h' → R e h' := fun e h' hc e0 => by
    have := k h' M (by rw [hc]; exact X.ext0 e0) (DStp.of0 M d e0)
    rwa [hc] at this
  refine ok76 (c145 X O.W hl hl' (fun e h' hp he e0 => Br.ne (fun _ => stay e h' (by unfold linkD; rw [hp]) e0) fun x => absurd x he) fun a b i mm nm h' hp e0 => Br.ne (fun x => absurd rfl x) fun _ => ?_)
  obtain ⟨_, hpb, _⟩ := twoD_some hp
  obtain ⟨_, aa, ws, m, hi, hm, hml⟩ := placeD_at O.W hpb
  have X0 := X.ext0 e0
  refine c130 X0 hm O.W.bw fun p h6 N e6 => ?_
  have X6 := X0.ext0 e6
  refine c132 (M := M) X6.lt N (by omega) (fun hlk i7 h8 hneg e8 => Br.f (by simpa using hneg) ?_) fun x h8 hlk e8 => Br.t (by simp) (stay 7 h8 (by unfold linkD; rw [hp]; simp only [hm]; rw [if_pos (by rw [hlk]; rfl)]) ((e0.trans e6).trans e8))
  have X8 := X6.ext0 e8
  refine c130 X8 hm O.W.bw fun p2 h11 N11 e11 => ?_
  have hpl := N11.a.len
  rw [List.length_map] at hpl
  have e011 := ((e0.trans e6).trans e8).trans e11
  refine Br.dec (fun hge => stay 2 h11 (by unfold linkD; rw [hp]; simp only [hm]; rw [if_neg (by rw [hlk]; simp), if_pos (by omega)]) e011) fun hlt => ?_
  have hcr : linkD δ l l' = if (scriptD δ).1 ≠ 0 then ((scriptD δ).1, (scriptD δ).2.2) else (0, chgD (scriptD δ).2.2 b (withD nm (i : Int) m)) := by
    unfold linkD; rw [hp]; simp only [hm]; rw [if_neg (by rw [hlk]; simp), if_neg (by omega)]
  refine c129 (X8.ext0 e11) O.sc fun h13 X13 e13 => ?_
  have D13 := (DStp.of0 M d e011).trans (DStp.of M e13)
  refine Br.eq (fun he => ?_) fun he => ?_
  rotate_left 1
  · have := k h13 M (by rw [hcr, if_pos he]; exact X13) D13
    rw [hcr, if_pos he] at this; exact this
  rw [hcr, if_neg (fun y => y he)] at k
  have hws : ws.length ≤ 2199023255552 := by have := O.wn _ (List.mem_of_getElem? hi); simp only at this; omega
  refine chgW X13 O.W.script (by rw [(scriptD_keep δ).2.1]; exact hi) ((nowD_script δ b).trans hm) (by omega) hws fun h23 M23 X23 D23 => ?_
  have := k h23 M23 X23 (D13.trans D23)
  rw [← he] at this; exact this

def removeD (δ : Dc) (l : Tx) : Int × Dc := match fileD δ l with
  | (none, e) => (e, δ)
  | (some _, _) => if (scriptD δ).1 ≠ 0 then ((scriptD δ).1, (scriptD δ).2.2) else match placeD δ l with
    | (none, e) => (e, δ)
    | (some (i, n), _) => match nowD δ i with
      | none => (6, δ)
      | some m => (0, chgD (scriptD δ).2.2 i (withD n (-1) m))
theorem fileD_some {δ : Dc} {l : Tx} {x : Nat} {e : Int} (h : fileD δ l = (some x, e)) : ∃ i n m, placeD δ l = (some (i, n), 0) ∧ nowD δ i = some m ∧ look n m = some x := by
  have z : ∀ {l : Tx} {x : Nat × Tx} {e : Int}, placeD δ l = (some x, e) → e = 0 := fun {l x e} hp => by
    unfold placeD at hp
    split at hp
    · cases hp
    · split at hp
      · cases hp
      · cases hp; rfl
  unfold fileD at h
  split at h
  · cases h
  · rename_i i n e' hp
    split at h
    · cases h
    · rename_i m hm
      split at h
      · cases h
      · rename_i hk; cases h
        have := z hp; subst this
        exact ⟨i, n, m, hp, hm, hk⟩
theorem placeD_script (δ : Dc) (l : Tx) : placeD (scriptD δ).2.2 l = placeD δ l := by unfold placeD; rw [(scriptD_keep δ).2.1]
theorem c78 {h : Heap} {M : Bl} {d : Nat} {δ : Dc} (X : DD h M d δ) {n : Nat} (O : OkD δ n) (hn : n ≤ 2199023255552) {l : Tx} (hl : l.length < 4611686018427387904) {R : Int → Heap → Prop}
    (k : ∀ h' M', DD h' M' d (removeD δ l).2 → DStp M h M' h' d → R (removeD δ l).1 h') : Call Go.Proofs.Tryz.prog 78 [.lf (.ptr (some (d, 0))), .lf (.str (tx l))] h [.one (.int .i64)] R := by
  refine ok78 (c138 X O.W hl (fun e h' hp he e0 => Br.ne (fun _ => ?_) fun x => absurd x he) fun x h' hp e0 => Br.ne (fun x => absurd rfl x) fun _ => ?_)
  · have hc : removeD δ l = (e, δ) := by unfold removeD; rw [hp]
    have := k h' M (by rw [hc]; exact X.ext0 e0) (DStp.of0 M d e0)
    rwa [hc] at this
  obtain ⟨i, nm, m, hpl, hm, hlk⟩ := fileD_some hp
  obtain ⟨_, aa, ws, m', hi, hm', hml⟩ := placeD_at O.W hpl
  have : m' = m := by rw [hm] at hm'; exact (Option.some.inj hm').symm
  subst this
  have hcr : removeD δ l = if (scriptD δ).1 ≠ 0 then ((scriptD δ).1, (scriptD δ).2.2) else (0, chgD (scriptD δ).2.2 i (withD nm (-1) m')) := by
    unfold removeD; rw [hp, hpl]; simp only [hm]
  refine c129 (X.ext0 e0) O.sc fun h13 X13 e13 => ?_
  have D13 := (DStp.of0 M d e0).trans (DStp.of M e13)
  refine Br.eq (fun he => ?_) fun he => ?_
  rotate_left 1
  · have := k h13 M (by rw [hcr, if_pos he]; exact X13) D13
    rw [hcr, if_pos he] at this; exact this
  rw [hcr, if_neg (fun y => y he)] at k
  have few := O.W.few
  have hpl2 := (placeD_script δ l).trans hpl
  refine c131 X13 (by rw [(scriptD_keep δ).2.1]; omega) hl (fun e hp' _ => by rw [hpl2] at hp'; cases hp') fun i' nm' hp' hok' => ?_
  rw [hpl2] at hp'
  cases hp'
  have hws : ws.length ≤ 2199023255552 := by have := O.wn _ (List.mem_of_getElem? hi); simp only at this; omega
  refine chgW X13 O.W.script (by rw [(scriptD_keep δ).2.1]; exact hi) ((nowD_script δ i).trans hm) (by omega) hws fun h23 M23 X23 D23 => ?_
  have := k h23 M23 X23 (D13.trans D23)
  rw [← he] at this; exact this

end Go.V.YtdeihieblljfcaaGreat
