/- This text proves a part of the laws of seat YtdeihieblljfcaaGreat, under no condition: F3a F3b F3c. -/
import Derived.Test.YtdeihieblljfcaaGreatPS
import Derived.Test.YtdeihieblljfcaaGreatPH
set_option linter.unusedVariables false
set_option linter.unusedSimpArgs false
/-! The calls, with all that holds of a disk between them. -/
namespace Go.V.YtdeihieblljfcaaGreat
open Go Go.V

theorem at_dr {σ : Dk} {d : Nat} {dd : Dr} {m : List (Tx × Nat)} (h : σ.at d = some (dd, m)) : σ.dr d = some dd := (Dk.at_some.1 h).1
theorem Fine.change {σ : Dk} (Z : Fine σ) : Fine σ.change.2.2 := Z
theorem Fine.chg {σ : Dk} (Z : Fine σ) (b : Nat) (dd : Dr) (r : Nat) (m : List (Tx × Nat)) : Fine (σ.chg b dd r m) := Z
theorem Few.newF {σ : Dk} {n : Nat} (F : Few σ n) (x : Nat) (c : Fl) (h : c.opn.length ≤ n) : Few { σ with fl := upd σ.fl x c } n :=
  ⟨F.fail, F.stop, F.was, fun y d hd => by
    rcases upd_some hd with ⟨rfl, rfl⟩ | ⟨_, hd⟩
    · exact h
    · exact F.opn _ _ hd⟩
structure FF (σ : Dk) (n : Nat) : Prop where
  F : Few σ n
  Z : Fine σ
theorem FF.mono {σ : Dk} {n m : Nat} (G : FF σ n) (h : n ≤ m) : FF σ m := ⟨G.F.mono h, G.Z⟩
theorem FF.change {σ : Dk} {n : Nat} (G : FF σ n) : FF σ.change.2.2 (n + 1) := ⟨G.F.change, G.Z⟩
theorem FF.chg {σ : Dk} {n : Nat} (G : FF σ n) {b : Nat} {dd : Dr} (hd : σ.dr b = some dd) (r : Nat) (m : List (Tx × Nat)) : FF (σ.chg b dd r m) (n + 1) := ⟨G.F.chg hd, G.Z⟩
theorem FF.newF {σ : Dk} {n : Nat} (G : FF σ n) (x : Nat) {c : Fl} (h : c.opn.length ≤ n) (ok : FlOk c) : FF { σ with fl := upd σ.fl x c } n := ⟨G.F.newF x c h, G.Z.upd ok⟩

theorem FF.create {σ : Dk} {n : Nat} (G : FF σ n) (l : Tx) (r x : Nat) : FF (createR σ l r x).2 (n + 3) := by
  unfold createR
  split
  · exact G.mono (by omega)
  · split
    · exact G.mono (by omega)
    · rename_i dd m hat
      split
      · exact G.mono (by omega)
      · split
        · exact G.mono (by omega)
        · split
          · exact G.change.mono (by omega)
          · exact ((G.change.chg (at_dr hat) r _).newF x (c := ⟨[], [], []⟩) (by simp) ⟨trivial, rfl, by simp⟩).mono (by omega)
theorem FF.link {σ : Dk} {n : Nat} (G : FF σ n) (l l' : Tx) (r : Nat) : FF (linkR σ l l' r).2 (n + 3) := by
  unfold linkR
  split
  · exact G.mono (by omega)
  · split
    · exact G.mono (by omega)
    · rename_i dd m hat
      split
      · exact G.mono (by omega)
      · split
        · exact G.mono (by omega)
        · split
          · exact G.change.mono (by omega)
          · exact (G.change.chg (at_dr hat) r _).mono (by omega)
theorem FF.remove {σ : Dk} {n : Nat} (G : FF σ n) (l : Tx) (r : Nat) : FF (removeR σ l r).2 (n + 3) := by
  unfold removeR
  split
  · exact G.mono (by omega)
  · split
    · exact G.mono (by omega)
    · split
      · exact G.mono (by omega)
      · rename_i dd m hat
        split
        · exact G.change.mono (by omega)
        · exact (G.change.chg (at_dr hat) r _).mono (by omega)
theorem FF.rename {σ : Dk} {n : Nat} (G : FF σ n) (l l' : Tx) (r1 r2 : Nat) : FF (renameR σ l l' r1 r2).2 (n + 3) := by
  unfold renameR
  split
  · exact G.mono (by omega)
  · split
    · exact G.mono (by omega)
    · rename_i da ma hata
      split
      · exact G.mono (by omega)
      · rename_i db mb hatb
        split
        · exact G.mono (by omega)
        · split
          · exact G.change.mono (by omega)
          · split
            · exact (G.change.chg (at_dr hata) r1 _).mono (by omega)
            · rename_i hab
              refine ((G.change.chg (at_dr hatb) r1 _).chg (dd := da) ?_ r2 _).mono (by omega)
              show upd _ _ _ _ = _
              rw [upd_ne hab]; exact at_dr hata
theorem FF.mkdir {σ : Dk} {n : Nat} (G : FF σ n) (l : Tx) (r b : Nat) : FF (mkdirR σ l r b).2 (n + 3) := by
  unfold mkdirR
  split
  · split
    · exact G.mono (by omega)
    · split
      · exact G.mono (by omega)
      · split
        · exact G.change.mono (by omega)
        · have G' := G.change.mono (m := n + 3) (by omega)
          exact ⟨⟨G'.F.fail, G'.F.stop, fun b' d hd => by
            rcases upd_some hd with ⟨rfl, rfl⟩ | ⟨_, hd⟩
            · simp
            · exact G'.F.was _ _ hd, G'.F.opn⟩, G'.Z⟩
  · exact G.mono (by omega)
theorem FF.sync {σ : Dk} {n : Nat} (G : FF σ n) (l : Tx) : FF (syncR σ l).2 (n + 3) := by
  unfold syncR
  split
  · exact G.mono (by omega)
  · split
    · exact G.mono (by omega)
    · rename_i c hc
      split
      · exact G.change.mono (by omega)
      · exact (G.change.newF _ (c := ⟨c.now, [], c.now⟩) (by simp) ⟨trivial, rfl, (G.Z _ _ hc).len⟩).mono (by omega)
theorem FF.syncDir {σ : Dk} {n : Nat} (G : FF σ n) (l : Tx) : FF (syncDirR σ l).2 (n + 3) := by
  unfold syncDirR
  split
  · exact G.mono (by omega)
  · split
    · exact G.mono (by omega)
    · split
      · exact G.change.mono (by omega)
      · have G' := G.change.mono (m := n + 3) (by omega)
        exact ⟨⟨G'.F.fail, G'.F.stop, fun b' d hd => by
          rcases upd_some hd with ⟨rfl, rfl⟩ | ⟨_, hd⟩
          · simp
          · exact G'.F.was _ _ hd, G'.F.opn⟩, G'.Z⟩
theorem FF.write {σ : Dk} {n : Nat} (W : Wf σ) (G : FF σ n) (hq : σ.quota ≤ 268435456) (l : Tx) (i : Int) (b : Tx) : FF (writeR σ l i b).2 (n + 3) := by
  unfold writeR
  split
  · exact G.mono (by omega)
  · rename_i x e h
    exact ⟨(G.F.writes x i b).mono (by omega), G.Z.writes (fileE_walk W h) hq⟩
theorem FF.append {σ : Dk} {n : Nat} (W : Wf σ) (G : FF σ n) (hq : σ.quota ≤ 268435456) (l b : Tx) : FF (appendR σ l b).2 (n + 3) := by
  unfold appendR
  split
  · exact G.mono (by omega)
  · rename_i x e h
    exact ⟨(G.F.writes x _ b).mono (by omega), G.Z.writes (fileE_walk W h) hq⟩

structure Fr (h0 : Heap) (lab : Labs) (h : Heap) : Prop where
  e : Ext0 h0 h
  no : ∀ i, i < h0.size → lab i = none
theorem Fr.go {h0 h h' : Heap} {lab lab' : Labs} (F : Fr h0 lab h) (s : Stp lab h lab' h') : Fr h0 lab' h' :=
  ⟨⟨Nat.le_trans F.e.size s.size, fun i hi _ => (s.same i (Nat.lt_of_lt_of_le hi F.e.size) (.inl (F.no i hi))).trans (F.e.same i hi id)⟩, fun i hi => (s.lab i (Nat.lt_of_lt_of_le hi F.e.size)).trans (F.no i hi)⟩
theorem Fr.ext0 {h0 h h' : Heap} {lab : Labs} (F : Fr h0 lab h) (e : Ext0 h h') : Fr h0 lab h' := ⟨F.e.trans e, F.no⟩

structure Live (h0 h : Heap) (lab : Labs) (f D : Nat) (σ : Dk) (n : Nat) : Prop where
  X : DW h lab f D σ
  G : FF σ n
  q : σ.quota ≤ 268435456
  fr : Fr h0 lab h
theorem Live.ext0 {h0 h h' : Heap} {lab : Labs} {f D : Nat} {σ : Dk} {n : Nat} (L : Live h0 h lab f D σ n) (e : Ext0 h h') : Live h0 h' lab f D σ n := ⟨L.X.ext0 e, L.G, L.q, L.fr.ext0 e⟩
theorem Live.good {h0 h : Heap} {lab : Labs} {f D : Nat} {σ : Dk} {n : Nat} (L : Live h0 h lab f D σ n) : Good σ n := ⟨L.X.W, L.G.F, L.G.Z⟩
theorem Live.mono {h0 h : Heap} {lab : Labs} {f D : Nat} {σ : Dk} {n m : Nat} (L : Live h0 h lab f D σ n) (hm : n ≤ m) : Live h0 h lab f D σ m := ⟨L.X, L.G.mono hm, L.q, L.fr⟩

theorem createR_q (σ : Dk) (l : Tx) (r x : Nat) : (createR σ l r x).2.quota = σ.quota := by unfold createR; (repeat' split) <;> rfl
theorem linkR_q (σ : Dk) (l l' : Tx) (r : Nat) : (linkR σ l l' r).2.quota = σ.quota := by unfold linkR; (repeat' split) <;> rfl
theorem removeR_q (σ : Dk) (l : Tx) (r : Nat) : (removeR σ l r).2.quota = σ.quota := by unfold removeR; (repeat' split) <;> rfl
theorem renameR_q (σ : Dk) (l l' : Tx) (r1 r2 : Nat) : (renameR σ l l' r1 r2).2.quota = σ.quota := by unfold renameR; (repeat' split) <;> rfl
theorem mkdirR_q (σ : Dk) (l : Tx) (r b : Nat) : (mkdirR σ l r b).2.quota = σ.quota := by unfold mkdirR; (repeat' split) <;> rfl
theorem syncR_q (σ : Dk) (l : Tx) : (syncR σ l).2.quota = σ.quota := by unfold syncR; (repeat' split) <;> rfl
theorem syncDirR_q (σ : Dk) (l : Tx) : (syncDirR σ l).2.quota = σ.quota := by unfold syncDirR; (repeat' split) <;> rfl
theorem writesR_q (σ : Dk) (x : Nat) (i : Int) (b : Tx) : (writesR σ x i b).2.quota = σ.quota := by
  rcases writesR_cases σ x i b with h | h | ⟨c, b', _, _, _, _, _, h⟩ <;> rw [h] <;> rfl
theorem appendR_q (σ : Dk) (l b : Tx) : (appendR σ l b).2.quota = σ.quota := by unfold appendR; split <;> first | rfl | exact writesR_q _ _ _ _
theorem writeR_q (σ : Dk) (l : Tx) (i : Int) (b : Tx) : (writeR σ l i b).2.quota = σ.quota := by unfold writeR; split <;> first | rfl | exact writesR_q _ _ _ _
theorem crashD_q (σ : Dk) (l : List Int) : ∀ w, (crashD σ l w).2.quota = σ.quota := fun w => by
  induction w using snoc_ind with
  | h0 => rfl
  | h1 w e ih =>
    rw [crashD_snoc]
    rcases dstep_cases l (crashD σ l w) e with h | ⟨_, _, _, _, _, h⟩ <;> rw [h]
    · exact ih
    · exact ih
theorem crashF_q (σ : Dk) (l : List Int) : ∀ w, (crashF σ l w).2.2.quota = σ.quota := fun w => by
  induction w using snoc_ind with
  | h0 => rfl
  | h1 w e ih =>
    rw [crashF_snoc]
    rcases cstep_cases l (crashF σ l w) e with h | ⟨_, _, _, _, h⟩ <;> rw [h]
    · exact ih
    · exact ih
theorem crashR_q (σ : Dk) (keeps names : List Int) : (crashR σ keeps names).quota = σ.quota := (crashF_q _ _ _).trans (crashD_q _ _ _)

section
variable {h0 h : Heap} {lab : Labs} {f D : Nat} {σ : Dk} {n : Nat}
theorem Live.mkdir (L : Live h0 h lab f D σ n) (hn : n ≤ 4398046510000) {l : Tx} {R : Int → Heap → Prop}
    (k : ∀ r b h' lab', σ.mp r = none → σ.dr b = none → Live h0 h' lab' f D (mkdirR σ l r b).2 (n + 3) → R (mkdirR σ l r b).1 h') :
    Call Go.Proofs.Tryz.prog 37 [.lf (.ptr (some (f, 0))), .lf (.str (tx l))] h [.one (.int .i64)] R :=
  c37 L.X L.G.F (by omega) fun r b h' lab' f1 f2 X' s => k r b h' lab' f1 f2 ⟨X', L.G.mkdir l r b, by rw [mkdirR_q]; exact L.q, L.fr.go s⟩
theorem Live.create (L : Live h0 h lab f D σ n) (hn : n ≤ 4398046510000) {l : Tx} (hl : l.length < 4294967281) {R : Int → Heap → Prop}
    (k : ∀ r x h' lab', σ.mp r = none → σ.fl x = none → Live h0 h' lab' f D (createR σ l r x).2 (n + 3) → R (createR σ l r x).1 h') :
    Call Go.Proofs.Tryz.prog 38 [.lf (.ptr (some (f, 0))), .lf (.str (tx l))] h [.one (.int .i64)] R :=
  c38 L.X L.G.F (by omega) hl fun r x h' lab' f1 f2 X' s => k r x h' lab' f1 f2 ⟨X', L.G.create l r x, by rw [createR_q]; exact L.q, L.fr.go s⟩
theorem Live.link (L : Live h0 h lab f D σ n) (hn : n ≤ 4398046510000) {l l' : Tx} (hl : l.length < 4294967281) (hl' : l'.length < 4294967281) {R : Int → Heap → Prop}
    (k : ∀ r h' lab', σ.mp r = none → Live h0 h' lab' f D (linkR σ l l' r).2 (n + 3) → R (linkR σ l l' r).1 h') :
    Call Go.Proofs.Tryz.prog 75 [.lf (.ptr (some (f, 0))), .lf (.str (tx l)), .lf (.str (tx l'))] h [.one (.int .i64)] R :=
  c75 L.X L.G.F (by omega) hl hl' fun r h' lab' f1 X' s => k r h' lab' f1 ⟨X', L.G.link l l' r, by rw [linkR_q]; exact L.q, L.fr.go s⟩
theorem Live.remove (L : Live h0 h lab f D σ n) (hn : n ≤ 4398046510000) {l : Tx} (hl : l.length < 4294967281) {R : Int → Heap → Prop}
    (k : ∀ r h' lab', σ.mp r = none → Live h0 h' lab' f D (removeR σ l r).2 (n + 3) → R (removeR σ l r).1 h') :
    Call Go.Proofs.Tryz.prog 77 [.lf (.ptr (some (f, 0))), .lf (.str (tx l))] h [.one (.int .i64)] R :=
  c77 L.X L.G.F (by omega) hl fun r h' lab' f1 X' s => k r h' lab' f1 ⟨X', L.G.remove l r, by rw [removeR_q]; exact L.q, L.fr.go s⟩
theorem Live.rename (L : Live h0 h lab f D σ n) (hn : n ≤ 4398046510000) {l l' : Tx} (hl : l.length < 4294967281) (hl' : l'.length < 4294967281) {R : Int → Heap → Prop}
    (k : ∀ r1 r2 h' lab', σ.mp r1 = none → σ.mp r2 = none → r1 ≠ r2 → Live h0 h' lab' f D (renameR σ l l' r1 r2).2 (n + 3) → R (renameR σ l l' r1 r2).1 h') :
    Call Go.Proofs.Tryz.prog 73 [.lf (.ptr (some (f, 0))), .lf (.str (tx l)), .lf (.str (tx l'))] h [.one (.int .i64)] R :=
  c73 L.X L.G.F (by omega) hl hl' fun r1 r2 h' lab' f1 f2 hne X' s => k r1 r2 h' lab' f1 f2 hne ⟨X', L.G.rename l l' r1 r2, by rw [renameR_q]; exact L.q, L.fr.go s⟩
theorem Live.sync (L : Live h0 h lab f D σ n) (hn : n ≤ 4398046510000) {l : Tx} (hl : l.length < 4294967281) {R : Int → Heap → Prop}
    (k : ∀ h', Live h0 h' lab f D (syncR σ l).2 (n + 3) → R (syncR σ l).1 h') :
    Call Go.Proofs.Tryz.prog 16 [.lf (.ptr (some (f, 0))), .lf (.str (tx l))] h [.one (.int .i64)] R :=
  c16 L.X L.G.F (by omega) hl fun h' X' s => k h' ⟨X', L.G.sync l, by rw [syncR_q]; exact L.q, L.fr.go s⟩
theorem Live.syncDir (L : Live h0 h lab f D σ n) (hn : n ≤ 4398046510000) {l : Tx} {R : Int → Heap → Prop}
    (k : ∀ h', Live h0 h' lab f D (syncDirR σ l).2 (n + 3) → R (syncDirR σ l).1 h') :
    Call Go.Proofs.Tryz.prog 40 [.lf (.ptr (some (f, 0))), .lf (.str (tx l))] h [.one (.int .i64)] R :=
  c40 L.X L.G.F (by omega) fun h' X' s => k h' ⟨X', L.G.syncDir l, by rw [syncDirR_q]; exact L.q, L.fr.go s⟩
theorem Live.append (L : Live h0 h lab f D σ n) (hn : n ≤ 4398046510000) {l : Tx} (hl : l.length < 4294967281) {s : Slc} {b : Tx} (A : Arr 1 dF h s b) (hsc : s.len ≤ s.cap) (hsl : ∀ y off, s.a = some (y, off) → lab y = none ∨ lab y = some .dat) (hb : b.length ≤ 4398046511104) {R : Int → Heap → Prop}
    (k : ∀ h' lab', Live h0 h' lab' f D (appendR σ l b).2 (n + 3) → Stp lab h lab' h' → R (appendR σ l b).1 h') :
    Call Go.Proofs.Tryz.prog 15 [.lf (.ptr (some (f, 0))), .lf (.str (tx l)), .lf (.slc s)] h [.one (.int .i64)] R :=
  c15 L.X L.G.Z L.G.F (by omega) hl A hsc hsl hb fun h' lab' X' s => k h' lab' ⟨X', L.G.append L.X.W L.q l b, by rw [appendR_q]; exact L.q, L.fr.go s⟩ s
theorem Live.write (L : Live h0 h lab f D σ n) (hn : n ≤ 4398046510000) {l : Tx} (hl : l.length < 4294967281) {i : Int} (hi1 : -9223372036854775808 ≤ i) (hi2 : i ≤ 9223372036854775807) {s : Slc} {b : Tx} (A : Arr 1 dF h s b) (hsc : s.len ≤ s.cap) (hsl : ∀ y off, s.a = some (y, off) → lab y = none ∨ lab y = some .dat) (hb : b.length ≤ 4398046511104) {R : Int → Heap → Prop}
    (k : ∀ h' lab', Live h0 h' lab' f D (writeR σ l i b).2 (n + 3) → Stp lab h lab' h' → R (writeR σ l i b).1 h') :
    Call Go.Proofs.Tryz.prog 39 [.lf (.ptr (some (f, 0))), .lf (.str (tx l)), .lf (.int .i64 i), .lf (.slc s)] h [.one (.int .i64)] R :=
  c39 L.X L.G.Z L.G.F (by omega) hl hi1 hi2 A hsc hsl hb fun h' lab' X' s => k h' lab' ⟨X', L.G.write L.X.W L.q l i b, by rw [writeR_q]; exact L.q, L.fr.go s⟩ s
theorem Live.stop (L : Live h0 h lab f D σ n) {m : Int} (hm1 : -9223372036854775808 ≤ m) (hm2 : m ≤ 9223372036854775807) {R : Heap → Prop}
    (k : ∀ h', Live h0 h' lab f D { σ with stop := ⟨m, -1, 0⟩ } n → R h') : Call Go.Proofs.Tryz.prog 43 [.lf (.ptr (some (f, 0))), .lf (.int .i64 m)] h [] R :=
  c43 L.X fun h' X' s => k h' ⟨X', ⟨⟨L.G.F.fail, ⟨hm1, hm2, Int.le_refl 0, Int.natCast_nonneg n⟩, L.G.F.was, L.G.F.opn⟩, L.G.Z⟩, L.q, L.fr.go s⟩
theorem Live.crash (L : Live h0 h lab f D σ n) (hn : n ≤ 4398046510000) {sk sc : Slc} {keeps names : List Int} (Ak : Arr 1 iF h sk keeps) (Ac : Arr 1 iF h sc names)
    (hk : ∀ b off, sk.a = some (b, off) → lab b = none ∧ b < h.size) (hc : ∀ b off, sc.a = some (b, off) → lab b = none ∧ b < h.size) (hkl : keeps.length ≤ 4611686018427387904) (hcl : names.length ≤ 4611686018427387904) {R : Heap → Prop}
    (k : ∀ h' lab', Live h0 h' lab' f D (crashR σ keeps names) n → R h') :
    Call Go.Proofs.Tryz.prog 13 [.lf (.ptr (some (f, 0))), .lf (.slc sk), .lf (.slc sc)] h [] R :=
  c13 L.X L.good (by omega) Ak Ac hk hc hkl hcl fun h' lab' X' s => k h' lab' ⟨X', ⟨(L.good.crash keeps names).F, (L.good.crash keeps names).Z⟩, by rw [crashR_q]; exact L.q, L.fr.go s⟩
end

def Calm (σ : Dk) : Prop := σ.fail.frm < 1 ∧ σ.stop.frm < 1
theorem Calm.change {σ : Dk} (c : Calm σ) : σ.change = (0, false, σ) := by
  have h1 : σ.fail.count = (false, false, σ.fail) := by unfold Sc.count; rw [if_pos (.inl c.1)]
  have h2 : σ.stop.count = (false, false, σ.stop) := by unfold Sc.count; rw [if_pos (.inl c.2)]
  unfold Dk.change
  simp only [h1, h2]
  rfl

end Go.V.YtdeihieblljfcaaGreat
/-! The document's disk in memory; names, paths. -/
namespace Go.V.YtdeihieblljfcaaGreat
open Go Go.V

abbrev Bl := Nat → Prop
def inM (M : Bl) (s : Slc) : Prop := ∀ b off, s.a = some (b, off) → M b
theorem inM.mono {M M' : Bl} {s : Slc} (h : inM M s) (hm : ∀ i, M i → M' i) : inM M' s := fun b off hb => hm _ (h b off hb)
def grow (M : Bl) (h h' : Heap) : Bl := fun i => M i ∨ (h.size ≤ i ∧ i < h'.size)
theorem grow_le (M : Bl) (h h' : Heap) : ∀ i, M i → grow M h h' i := fun i hi => .inl hi
structure Lst {α β : Type} (sz : Nat) (f : α → List Lf) (Q : Heap → Bl → α → β → Prop) (h : Heap) (M : Bl) (s : Slc) (l : List β) : Prop where
  ex : ∃ os : List (α × β), Arr sz f h s (os.map (·.1)) ∧ l = os.map (·.2) ∧ ∀ o ∈ os, Q h M o.1 o.2
  m : inM M s
  cap : s.len ≤ s.cap
structure Stab {α β : Type} (Q : Heap → Bl → α → β → Prop) : Prop where
  go : ∀ {S : Nat → Prop} {h h' : Heap} {M M' : Bl} {a : α} {b : β}, Ext S h h' → (∀ i, S i → ¬ M i) → (∀ i, M i → M' i) → Q h M a b → Q h' M' a b
theorem Lst.stab {α β : Type} {sz : Nat} {f : α → List Lf} {Q : Heap → Bl → α → β → Prop} (hQ : Stab Q) : Stab (Lst sz f Q) := ⟨fun {S h h' M M' s l} e hs hm ⟨⟨os, a, hl, ho⟩, m, c⟩ =>
  ⟨⟨os, a.ext e fun ⟨b, off, hb, hx⟩ => hs b hx (m b off hb), hl, fun o hx => hQ.go e hs hm (ho o hx)⟩, m.mono hm, c⟩⟩
theorem Lst.len {α β : Type} {sz : Nat} {f : α → List Lf} {Q : Heap → Bl → α → β → Prop} {h : Heap} {M : Bl} {s : Slc} {l : List β} (L : Lst sz f Q h M s l) : s.len = l.length := by
  obtain ⟨os, a, hl, _⟩ := L.ex; rw [a.len, hl, List.length_map, List.length_map]
theorem Lst.nil {α β : Type} (sz : Nat) (f : α → List Lf) (Q : Heap → Bl → α → β → Prop) (h : Heap) (M : Bl) : Lst sz f Q h M ⟨none, 0, 0⟩ [] := ⟨⟨[], Arr.nil _ _ _ _, rfl, fun o h => by cases h⟩, fun b off h => (by cases h), Nat.le_refl _⟩
theorem Lst.ix {α β : Type} {sz : Nat} {f : α → List Lf} {Q : Heap → Bl → α → β → Prop} {h : Heap} {M : Bl} {s : Slc} {l : List β} (L : Lst sz f Q h M s l) {i : Int} {k : Nat} (hi : i = (k : Int)) {b : β} (hb : l[k]? = some b)
    {K : Nat → Nat → Prop} (c : ∀ a x off, Q h M a b → cellsAt h x off (f a) → K x off) : IxC s i sz K := by
  obtain ⟨os, A, hl, ho⟩ := L.ex
  have hk : k < os.length := by
    rcases Nat.lt_or_ge k os.length with h' | h'
    · exact h'
    · rw [hl, List.getElem?_eq_none (by simpa using h')] at hb; cases hb
  refine A.ix hi (x := os[k].1) (by rw [List.getElem?_map, List.getElem?_eq_getElem hk]; rfl) fun x off hc => c _ x off ?_ hc
  have : b = os[k].2 := by rw [hl, List.getElem?_map, List.getElem?_eq_getElem hk] at hb; exact (Option.some.inj hb).symm
  rw [this]; exact ho _ (List.getElem_mem hk)

structure LO {α β : Type} (sz : Nat) (f : α → List Lf) (Q : Heap → Bl → α → β → Prop) (h : Heap) (M : Bl) (s : Slc) (l : List β) : Prop where
  ex : ∃ os : List (α × β), Own sz f h s (os.map (·.1)) ∧ l = os.map (·.2) ∧ ∀ o ∈ os, Q h M o.1 o.2
theorem LO.len {α β : Type} {sz : Nat} {f : α → List Lf} {Q : Heap → Bl → α → β → Prop} {h : Heap} {M : Bl} {s : Slc} {l : List β} (L : LO sz f Q h M s l) : s.len = l.length := by
  obtain ⟨os, a, hl, _⟩ := L.ex; rw [a.len, hl, List.length_map, List.length_map]
theorem LO.ext {α β : Type} {sz : Nat} {f : α → List Lf} {Q : Heap → Bl → α → β → Prop} (hQ : Stab Q) {S : Nat → Prop} {h h' : Heap} {M M' : Bl} {s : Slc} {l : List β} (L : LO sz f Q h M s l) (e : Ext S h h') (hs : ∀ i, S i → ¬ M i) (hm : ∀ i, M i → M' i) (hn : ∀ b off, s.a = some (b, off) → ¬ S b) : LO sz f Q h' M' s l :=
  let ⟨os, o, hl, ho⟩ := L.ex; ⟨os, o.ext e fun ⟨b, off, hb, hx⟩ => hn b off hb hx, hl, fun o hx => hQ.go e hs hm (ho o hx)⟩
theorem LO.ext0 {α β : Type} {sz : Nat} {f : α → List Lf} {Q : Heap → Bl → α → β → Prop} (hQ : Stab Q) {h h' : Heap} {M : Bl} {s : Slc} {l : List β} (L : LO sz f Q h M s l) (e : Ext0 h h') : LO sz f Q h' M s l := L.ext hQ e (fun _ x => x.elim) (fun _ x => x) fun _ _ _ x => x
theorem LO.lst {α β : Type} {sz : Nat} {f : α → List Lf} {Q : Heap → Bl → α → β → Prop} (hf : Sized sz f) (hQ : Stab Q) {h : Heap} {M M' : Bl} {s : Slc} {l : List β} (L : LO sz f Q h M s l) (hm : ∀ i, M i → M' i) (hs : inM M' s) : Lst sz f Q h M' s l :=
  let ⟨os, o, hl, ho⟩ := L.ex; ⟨⟨os, o.arr hf, hl, fun o hx => hQ.go (Ext.refl (fun _ => False) h) (fun _ x => x.elim) hm (ho o hx)⟩, hs, o.lec⟩
theorem LO.lt {α β : Type} {sz : Nat} {f : α → List Lf} {Q : Heap → Bl → α → β → Prop} {h : Heap} {M : Bl} {s : Slc} {l : List β} (L : LO sz f Q h M s l) : ∀ b off, s.a = some (b, off) → b < h.size := fun b off hb => let ⟨os, o, _⟩ := L.ex; (o.lt b off hb).1
theorem LO.new {α β : Type} {sz : Nat} {f : α → List Lf} {Q : Heap → Bl → α → β → Prop} {h : Heap} {M : Bl} {b : Nat} {t : TypeId} (hf : Sized sz f) (k : Blk h b t []) : LO sz f Q h M ⟨some (b, 0), 0, 0⟩ [] := ⟨[], Own.new hf (l := []) k, rfl, fun o h => by cases h⟩
theorem LO.nil {α β : Type} (sz : Nat) (f : α → List Lf) (Q : Heap → Bl → α → β → Prop) (h : Heap) (M : Bl) : LO sz f Q h M ⟨none, 0, 0⟩ [] := ⟨[], Own.nil sz f h, rfl, fun o h => by cases h⟩
theorem LO.app {α β : Type} {sz bytes : Nat} {f : α → List Lf} {Q : Heap → Bl → α → β → Prop} (hf : Sized sz f) (hQ : Stab Q) (hb0 : 0 < bytes) {e : TypeId} {zc : List Lf} (hz : zc.length = sz) {h : Heap} {M : Bl} {s x : Slc} {l m : List β} (o : LO sz f Q h M s l) (a : Lst sz f Q h M x m)
    (hns : ∀ b off, s.a = some (b, off) → ¬ M b) (hbound : (l.length + m.length) * bytes ≤ 140737488355328) {K : Slc → Heap → Prop} (k : ∀ s' h', LO sz f Q h' M s' (l ++ m) → Grow s h s' h' → K s' h') : AppC e zc sz bytes s x h K := by
  obtain ⟨os, oo, hl, ho⟩ := o.ex
  obtain ⟨ms, am, hm, hq⟩ := a.ex
  refine AppC.grow hf hb0 hz oo am (by rw [hl, hm] at hbound; simpa using hbound) fun s' h' o' g => k s' h' ⟨os ++ ms, by simpa using o', by simp [hl, hm], fun o hx => ?_⟩ g
  refine hQ.go g.ext (fun i ⟨off, hi⟩ => hns i off hi) (fun _ x => x) ?_
  rcases List.mem_append.1 hx with h | h
  · exact ho o h
  · exact hq o h
theorem LO.app1 {α β : Type} {sz bytes : Nat} {f : α → List Lf} {Q : Heap → Bl → α → β → Prop} (hf : Sized sz f) (hQ : Stab Q) (hb0 : 0 < bytes) {e : TypeId} {zc : List Lf} (hz : zc.length = sz) {h : Heap} {M : Bl} {s : Slc} {l : List β} (o : LO sz f Q h M s l)
    (hns : ∀ b off, s.a = some (b, off) → ¬ M b) {b : Nat} {t : TypeId} {a : α} {y : β} (kb : Blk h b t (f a)) (q : Q h M a y) (hbound : (l.length + 1) * bytes ≤ 140737488355328) {K : Slc → Heap → Prop} (k : ∀ s' h', LO sz f Q h' M s' (l ++ [y]) → Grow s h s' h' → K s' h') : AppC e zc sz bytes s ⟨some (b, 0), 1, 1⟩ h K := by
  obtain ⟨os, oo, hl, ho⟩ := o.ex
  refine AppC.grow hf hb0 hz oo ((Own.new hf (l := [a]) (by simpa using kb)).arr hf) (by rw [hl] at hbound; simpa using hbound) fun s' h' o' g => k s' h' ⟨os ++ [(a, y)], by simpa using o', by simp [hl], fun o hx => ?_⟩ g
  refine hQ.go g.ext (fun i ⟨off, hi⟩ => hns i off hi) (fun _ x => x) ?_
  rcases List.mem_append.1 hx with h | h
  · exact ho o h
  · rw [List.mem_singleton.1 h]; exact q

abbrev Nm := List (Tx × Nat)
def jF : Nat → List Lf := fun n => [.int .i64 (n : Int)]
theorem jF_sized : Sized 1 jF := fun _ => rfl
def pairF : Slc × Slc → List Lf := fun p => [.slc p.1, .slc p.2]
theorem pairF_sized : Sized 2 pairF := fun _ => rfl
def dirF : Tx × Slc → List Lf := fun p => [.str (tx p.1), .slc p.2]
theorem dirF_sized : Sized 2 dirF := fun _ => rfl

structure BtR (h : Heap) (M : Bl) (s : Slc) (l : Tx) : Prop where
  arr : Arr 1 dF h s l
  m : inM M s
  cap : s.len ≤ s.cap
theorem BtR.stab : Stab BtR := ⟨fun {S h h' M M' s l} e hs hm x => ⟨x.arr.ext e fun ⟨b, off, hb, hx⟩ => hs b hx (x.m b off hb), x.m.mono hm, x.cap⟩⟩
structure NmR (h : Heap) (M : Bl) (p : Slc × Slc) (l : Nm) : Prop where
  a : Arr 1 sF h p.1 (l.map (·.1))
  b : Arr 1 jF h p.2 (l.map (·.2))
  ma : inM M p.1
  mb : inM M p.2
theorem NmR.stab : Stab NmR := ⟨fun {S h h' M M' p l} e hs hm x => ⟨x.a.ext e fun ⟨b, off, hb, hx⟩ => hs b hx (x.ma b off hb), x.b.ext e fun ⟨b, off, hb, hx⟩ => hs b hx (x.mb b off hb), x.ma.mono hm, x.mb.mono hm⟩⟩
def WyR : Heap → Bl → Slc → List Nm → Prop := Lst 2 pairF NmR
theorem WyR.stab : Stab WyR := Lst.stab NmR.stab
def DirQ (h : Heap) (M : Bl) (a : Tx × Slc) (b : Tx × List Nm) : Prop := a.1 = b.1 ∧ WyR h M a.2 b.2
theorem DirQ.stab : Stab DirQ := ⟨fun {S h h' M M' a b} e hs hm x => ⟨x.1, WyR.stab.go e hs hm x.2⟩⟩
def DirsL : Heap → Bl → Slc → List (Tx × List Nm) → Prop := Lst 2 dirF DirQ
theorem DirsL.stab : Stab DirsL := Lst.stab DirQ.stab
def WrQ (h : Heap) (M : Bl) (a : Nat × Slc) (b : Nat × Tx) : Prop := a.1 = b.1 ∧ BtR h M a.2 b.2
theorem WrQ.stab : Stab WrQ := ⟨fun {S h h' M M' a b} e hs hm x => ⟨x.1, BtR.stab.go e hs hm x.2⟩⟩
def WrL : Heap → Bl → Slc → List (Nat × Tx) → Prop := Lst 2 oF WrQ
theorem WrL.stab : Stab WrL := Lst.stab WrQ.stab
abbrev DF := Tx × List (Nat × Tx)
def FilQ (h : Heap) (M : Bl) (a : Slc × Slc) (b : DF) : Prop := BtR h M a.1 b.1 ∧ WrL h M a.2 b.2
theorem FilQ.stab : Stab FilQ := ⟨fun {S h h' M M' a b} e hs hm x => ⟨BtR.stab.go e hs hm x.1, WrL.stab.go e hs hm x.2⟩⟩
def FilL : Heap → Bl → Slc → List DF → Prop := Lst 2 pairF FilQ
theorem FilL.stab : Stab FilL := Lst.stab FilQ.stab

structure Dc where
  quota : Int
  dirs : List (Tx × List Nm)
  files : List DF
  failIn : Int
  failFor : Int
  stopIn : Int
  stopped : Bool
structure DD (h : Heap) (M : Bl) (d : Nat) (δ : Dc) : Prop where
  ex : ∃ sd sf, Blk h d 144 [.int .i64 δ.quota, .slc sd, .slc sf, .int .i64 δ.failIn, .int .i64 δ.failFor, .int .i64 δ.stopIn, .bool δ.stopped] ∧ DirsL h M sd δ.dirs ∧ FilL h M sf δ.files
  lt : ∀ i, M i → i < h.size
  no : ¬ M d
theorem DD.ext {S : Nat → Prop} {h h' : Heap} {M : Bl} {d : Nat} {δ : Dc} (X : DD h M d δ) (e : Ext S h h') (hs : ∀ i, S i → ¬ M i) (hd : ¬ S d) : DD h' M d δ :=
  let ⟨sd, sf, k, a, b⟩ := X.ex; ⟨⟨sd, sf, k.ext e hd, DirsL.stab.go e hs (fun _ x => x) a, FilL.stab.go e hs (fun _ x => x) b⟩, fun i hi => Nat.lt_of_lt_of_le (X.lt i hi) e.size, X.no⟩
theorem DD.ext0 {h h' : Heap} {M : Bl} {d : Nat} {δ : Dc} (X : DD h M d δ) (e : Ext0 h h') : DD h' M d δ := X.ext e (fun _ x => x.elim) id
theorem DD.ltd {h : Heap} {M : Bl} {d : Nat} {δ : Dc} (X : DD h M d δ) : d < h.size := let ⟨_, _, k, _⟩ := X.ex; k.lt

theorem c127 {l : Tx} {h : Heap} {R : Bool → Heap → Prop} (k : R (okName l) h) : Call Go.Proofs.Tryz.prog 127 [.lf (.str (tx l))] h [.one .bool] R := by
  refine ok127 ⟨fun c hh => hh = h ∧ (c = true ↔ ¬ (1 ≤ l.length ∧ l.length ≤ 32)), ?_, ?_⟩
  · rw [tx_size]
    exact Br.dec (fun x => ⟨rfl, fun _ => by omega, fun _ => rfl⟩) fun x => ⟨rfl, by rw [decide_eq_true_eq]; omega⟩
  rintro c h2 ⟨rfl, hc⟩
  refine Br.mk (fun hct => ?_) fun hcf => ?_
  · have hn := hc.1 hct
    have : okName l = false := by unfold okName; rw [decide_eq_false hn]; rfl
    rwa [this] at k
  have hlen : 1 ≤ l.length ∧ l.length ≤ 32 := Classical.byContradiction fun x => by rw [hc.2 x] at hcf; cases hcf
  have hbad : ∀ n (hn : n < l.length), okC l[n] = false → okName l = false := fun n hn hb => by
    unfold okName
    have : l.all okC = false := by
      rw [List.all_eq_false]
      exact ⟨l[n], List.getElem_mem hn, by rw [hb]; simp⟩
    rw [this, Bool.and_false]
  refine ⟨fun i hh d => ∃ n : Nat, i = (n : Int) ∧ n ≤ l.length ∧ hh = h2 ∧ (∀ j (hj : j < l.length), j < n → okC l[j] = true) ∧ d = l.length - n, ⟨_, 0, rfl, Nat.zero_le _, rfl, fun j hj x => by omega, rfl⟩, ?_⟩
  rintro i h6 d ⟨n, rfl, hn, rfl, hg, rfl⟩
  rw [tx_size]
  refine Br.dec (fun hlt => ?_) fun hge => ?_
  · have hlt' : n < l.length := by omega
    rw [tx_bt hlt']
    have hcc : okC l[n] = decide (33 ≤ l[n].toNat ∧ l[n].toNat ≤ 126 ∧ l[n].toNat ≠ 47) := rfl
    refine ⟨by omega, hlt, Br.dec (fun x => ?_) fun x => ⟨by omega, hlt, Br.dec (fun y => ?_) fun y => ⟨by omega, hlt, Br.eq (fun z => ?_) fun z => ?_⟩⟩⟩
    · rwa [hbad n hlt' (by rw [hcc]; exact decide_eq_false (by omega))] at k
    · rwa [hbad n hlt' (by rw [hcc]; exact decide_eq_false (by omega))] at k
    · rwa [hbad n hlt' (by rw [hcc]; exact decide_eq_false (by omega))] at k
    · refine ⟨l.length - (n + 1), by omega, n + 1, by rw [wi64 (by omega) (by omega)]; rfl, by omega, rfl, fun j hj hjn => ?_, rfl⟩
      by_cases hjn' : j < n
      · exact hg j hj hjn'
      · have : j = n := by omega
        subst this
        rw [hcc]; exact decide_eq_true (by omega)
  · have : okName l = true := by
      unfold okName
      rw [decide_eq_true hlen, Bool.true_and, List.all_eq_true]
      intro x hx
      obtain ⟨j, hj, rfl⟩ := List.mem_iff_getElem.1 hx
      exact hg j hj (by omega)
    rwa [this] at k

theorem c197 {l : Tx} (hl : l.length < 4611686018427387904) {h : Heap} {R : ByteArray → ByteArray → Bool → Heap → Prop} (k1 : pathOf l = none → ∀ a b, R a b false h) (k2 : ∀ a b, pathOf l = some (a, b) → R (tx a) (tx b) true h) :
    Call Go.Proofs.Tryz.prog 197 [.lf (.str (tx l))] h [.one .str, .one .str, .one .bool] R := by
  refine ok197 ⟨fun i hh d => ∃ n : Nat, i = (n : Int) ∧ n ≤ l.length ∧ hh = h ∧ (∀ j (hj : j < l.length), j < n → l[j] ≠ 47) ∧ d = l.length - n, ⟨_, 0, rfl, Nat.zero_le _, rfl, fun j hj x => by omega, rfl⟩, ?_⟩
  rintro i h6 d ⟨n, rfl, hn, rfl, hg, rfl⟩
  rw [tx_size]
  have htk : ∀ x ∈ l.take n, (x != 47) = true := fun x hx => by
    obtain ⟨j, hj, rfl⟩ := List.mem_iff_getElem.1 hx
    rw [List.length_take] at hj
    rw [List.getElem_take]
    simpa using hg j (by omega) (by omega)
  refine Br.dec (fun hlt => ?_) fun hge => ?_
  · have hlt' : n < l.length := by omega
    rw [tx_bt hlt']
    refine ⟨by omega, hlt, Br.eq (fun z => ?_) fun z => ?_⟩
    · have h47 : l[n] = 47 := by
        have hz : l[n].toNat = 47 := by omega
        exact UInt8.toNat.inj hz
      have hsplit : l = l.take n ++ 47 :: l.drop (n + 1) := by
        conv => lhs; rw [← List.take_append_drop n l, List.drop_eq_getElem_cons hlt', h47]
      have hw1 : l.takeWhile (· != 47) = l.take n := by
        conv => lhs; rw [hsplit]
        rw [List.takeWhile_append_of_pos htk]
        simp [List.takeWhile_cons]
      have hw2 : l.dropWhile (· != 47) = 47 :: l.drop (n + 1) := by
        conv => lhs; rw [hsplit]
        rw [List.dropWhile_append_of_pos htk]
        simp [List.dropWhile_cons]
      have hm : (47 : UInt8) ∈ l := by rw [hsplit]; simp
      have hp : pathOf l = if okName (l.take n) = true ∧ okName (l.drop (n + 1)) = true then some (l.take n, l.drop (n + 1)) else none := by
        unfold pathOf
        rw [hw1, hw2]
        simp only [hm, true_and, List.drop_succ_cons, List.drop_zero]
      have e1 : (tx l).extract 0 (Int.toNat (n : Int)) = tx (l.take n) := by rw [tx_extract, List.drop_zero]; rfl
      have e2 : (tx l).extract (Int.toNat (IntKind.wrap .i64 ((n : Int) + 1))) l.length = tx (l.drop (n + 1)) := by
        rw [wi64 (by omega) (by omega), tx_extract, List.take_length]
        rfl
      rw [e1, e2]
      refine ⟨by omega, by omega, by rw [wi64 (by omega) (by omega)]; omega, by rw [wi64 (by omega) (by omega)]; omega, by omega, by omega, c127 (Br.mk (fun o1 => ⟨by rw [wi64 (by omega) (by omega)]; omega, by rw [wi64 (by omega) (by omega)]; omega, c127 ?_⟩) fun o1 => ?_)⟩
      · cases o2 : okName (l.drop (n + 1)) with
        | true => exact k2 _ _ (by rw [hp, if_pos ⟨o1, o2⟩])
        | false => exact k1 (by rw [hp, if_neg fun x => by rw [o2] at x; cases x.2]) _ _
      · exact k1 (by rw [hp, if_neg fun x => by rw [o1] at x; cases x.1]) _ _
    · refine ⟨l.length - (n + 1), by omega, n + 1, by rw [wi64 (by omega) (by omega)]; rfl, by omega, rfl, fun j hj hjn => ?_, rfl⟩
      by_cases hjn' : j < n
      · exact hg j hj hjn'
      · have : j = n := by omega
        subst this
        intro e; rw [e] at z; exact z rfl
  · refine k1 ?_ _ _
    unfold pathOf
    rw [if_neg]
    rintro ⟨hm, _⟩
    obtain ⟨j, hj, he⟩ := List.mem_iff_getElem.1 hm
    exact hg j hj (by omega) he

def ixOf {β : Type} (a : Tx) : List (Tx × β) → Option Nat
  | [] => none
  | p :: r => if p.1 = a then some 0 else (ixOf a r).map (· + 1)
theorem ixOf_some {β : Type} {a : Tx} : ∀ {l : List (Tx × β)} {i : Nat}, ixOf a l = some i → ∃ b, l[i]? = some (a, b)
  | [], i, h => by cases h
  | p :: r, i, h => by
    unfold ixOf at h
    split at h
    · rename_i e; cases h; exact ⟨p.2, by rw [← e]; rfl⟩
    · cases hr : ixOf a r with
      | none => rw [hr] at h; cases h
      | some j => rw [hr] at h; cases h; exact ixOf_some (l := r) hr
theorem ixOf_skip {β : Type} {a : Tx} : ∀ {l : List (Tx × β)} {n : Nat}, (∀ j p, j < n → l[j]? = some p → p.1 ≠ a) → n ≤ l.length → ixOf a l = (ixOf a (l.drop n)).map (· + n)
  | l, 0, _, _ => by rw [List.drop_zero]; cases ixOf a l <;> rfl
  | [], n + 1, _, h => by simp at h
  | p :: r, n + 1, h, hn => by
    have h0 : p.1 ≠ a := h 0 p (by omega) rfl
    conv => lhs; unfold ixOf
    rw [if_neg h0, ixOf_skip (l := r) (n := n) (fun j q hj hq => h (j + 1) q (by omega) (by simpa using hq)) (by simpa using hn), List.drop_succ_cons]
    show _ = Option.map (· + (n + 1)) (ixOf a (r.drop n))
    cases ixOf a (r.drop n) <;> simp; omega
theorem ixOf_head {β : Type} {a : Tx} {l : List (Tx × β)} {n : Nat} {b : β} (h : ∀ j p, j < n → l[j]? = some p → p.1 ≠ a) (hn : l[n]? = some (a, b)) : ixOf a l = some n := by
  have hlt : n < l.length := by
    rcases Nat.lt_or_ge n l.length with x | x
    · exact x
    · rw [List.getElem?_eq_none x] at hn; cases hn
  rw [ixOf_skip h (by omega), List.drop_eq_getElem_cons hlt]
  rw [List.getElem?_eq_getElem hlt] at hn
  rw [Option.some.inj hn]
  unfold ixOf; rw [if_pos rfl]; simp
theorem ixOf_none {β : Type} {a : Tx} {l : List (Tx × β)} (h : ∀ j p, j < l.length → l[j]? = some p → p.1 ≠ a) : ixOf a l = none := by
  rw [ixOf_skip h (Nat.le_refl _), List.drop_length]; rfl

theorem c128 {h : Heap} {M : Bl} {d : Nat} {δ : Dc} (X : DD h M d δ) (hs : δ.dirs.length ≤ 4611686018427387904) {a : Tx} {R : Int → Heap → Prop} (k1 : ixOf a δ.dirs = none → ∀ i, i < 0 → R i h) (k2 : ∀ i : Nat, ixOf a δ.dirs = some i → R (i : Int) h) :
    Call Go.Proofs.Tryz.prog 128 [.lf (.ptr (some (d, 0))), .lf (.str (tx a))] h [.one (.int .i64)] R := by
  obtain ⟨sd, sf, kb, L, _⟩ := X.ex
  have hlen := Lst.len L
  refine ok128 ⟨fun i hh m => ∃ n : Nat, i = (n : Int) ∧ n ≤ δ.dirs.length ∧ hh = h ∧ (∀ j p, j < n → δ.dirs[j]? = some p → p.1 ≠ a) ∧ m = δ.dirs.length - n, ⟨_, 0, rfl, Nat.zero_le _, rfl, fun j p hj => by omega, rfl⟩, ?_⟩
  rintro i h6 m ⟨n, rfl, hn, rfl, hg, rfl⟩
  refine NilC.mk rfl ⟨sd, kb.cell rfl, Br.dec (fun hlt => NilC.mk rfl ⟨sd, kb.cell rfl, ?_⟩) fun hge => k1 (ixOf_none fun j p hj hp => hg j p (by omega) hp) _ (by omega)⟩
  have hlt' : n < δ.dirs.length := by omega
  refine Lst.ix L rfl (List.getElem?_eq_getElem hlt') fun q x off hq hc => ⟨tx q.1, ⟨hc.1, trivial⟩, ?_⟩
  rw [tx_eq, hq.1]
  refine Br.dec (fun he => k2 n (ixOf_head (b := δ.dirs[n].2) hg (by rw [List.getElem?_eq_getElem hlt', ← he]))) fun he => ⟨δ.dirs.length - (n + 1), by omega, n + 1, by rw [wi64 (by omega) (by omega)]; rfl, by omega, rfl, fun j p hj hp => ?_, rfl⟩
  by_cases hjn : j < n
  · exact hg j p hjn hp
  · have : j = n := by omega
    subst this
    rw [List.getElem?_eq_getElem hlt'] at hp
    rw [← Option.some.inj hp]; exact he

end Go.V.YtdeihieblljfcaaGreat
/-! The document's disk: a directory as it is, a path's file, a file's bytes. -/
namespace Go.V.YtdeihieblljfcaaGreat
open Go Go.V

def nowD (δ : Dc) (i : Nat) : Option Nm := (δ.dirs[i]?).bind fun p => p.2.getLast?
theorem nowD_some {δ : Dc} {i : Nat} {l : Nm} (h : nowD δ i = some l) : ∃ a ws, δ.dirs[i]? = some (a, ws) ∧ ws.getLast? = some l := by
  unfold nowD at h
  cases hd : δ.dirs[i]? with
  | none => rw [hd] at h; cases h
  | some p => rw [hd] at h; exact ⟨p.1, p.2, rfl, h⟩

theorem c130 {h : Heap} {M : Bl} {d : Nat} {δ : Dc} (X : DD h M d δ) {i : Nat} {l : Nm} (hl : nowD δ i = some l) (hb : ∀ p ∈ δ.dirs, p.2.length ≤ 4611686018427387904) {R : Slc → Slc → Heap → Prop}
    (k : ∀ p h', NmR h' M p l → Ext0 h h' → R p.1 p.2 h') : Call Go.Proofs.Tryz.prog 130 [.lf (.ptr (some (d, 0))), .lf (.int .i64 (i : Int))] h [.agg [.slc, .slc]] R := by
  obtain ⟨a, ws, hd, hw⟩ := nowD_some hl
  have hne : ws ≠ [] := fun e => by rw [e] at hw; cases hw
  have hpos := List.length_pos_iff.2 hne
  have hlast : ws[ws.length - 1]? = some l := by rw [← hw, List.getLast?_eq_getElem?]
  have hbw := hb _ (List.mem_of_getElem? hd)
  simp only at hbw
  refine ok130 (New.mk fun b0 h1 hb0 hs1 e1 k1 => ?_)
  obtain ⟨sd, sf, kb, L, _⟩ := (X.ext0 e1).ex
  refine NilC.mk rfl ⟨sd, kb.cell rfl, Lst.ix L rfl hd fun q x off hq hc => ⟨q.2, ⟨hc.2.1, trivial⟩, NilC.mk rfl ⟨sd, kb.cell rfl, Lst.ix L rfl hd fun q' x' off' hq' hc' => ⟨q'.2, ⟨hc'.2.1, trivial⟩, ?_⟩⟩⟩⟩
  have hlen := Lst.len hq'.2
  refine Lst.ix hq.2 (k := ws.length - 1) (by rw [hlen, wi64 (by simp only; omega) (by simp only; omega)]; simp only; omega) hlast fun p y o hp hcp => ⟨p.1, p.2, hcp, ?_⟩
  refine Set.mk fun h18 hs18 e18 k18 => ?_
  have e : Ext0 h h18 := e1.tmp e18 (by omega)
  exact k p h18 (NmR.stab.go e18 (fun j hj hm => by have := X.lt _ hm; have : j = b0 := hj; omega) (fun _ x => x) hp) e

theorem look_skip {n : Tx} : ∀ {l : Nm} {m : Nat}, (∀ j p, j < m → l[j]? = some p → p.1 ≠ n) → look n l = look n (l.drop m)
  | l, 0, _ => rfl
  | [], m + 1, _ => rfl
  | p :: r, m + 1, h => by
    have h0 : p.1 ≠ n := h 0 p (by omega) rfl
    conv => lhs; unfold look
    rw [if_neg (fun e => h0 e.symm), look_skip (l := r) (m := m) (fun j q hj hq => h (j + 1) q (by omega) (by simpa using hq))]; rfl

theorem c132 {h : Heap} {M : Bl} (hlt : ∀ i, M i → i < h.size) {p : Slc × Slc} {l : Nm} (N : NmR h M p l) (hb : l.length ≤ 4611686018427387904) {n : Tx} {R : Int → Heap → Prop}
    (k1 : look n l = none → ∀ i h', i < 0 → Ext0 h h' → R i h') (k2 : ∀ (x : Nat) h', look n l = some x → Ext0 h h' → R (x : Int) h') :
    Call Go.Proofs.Tryz.prog 132 [VV.agg [.slc p.1, .slc p.2], .lf (.str (tx n))] h [.one (.int .i64)] R := by
  have hl1 := N.a.len
  rw [List.length_map] at hl1
  refine ok132 (New.mk fun b0 h1 hb0 hs1 e1 kb1 => ?_)
  have N1 : NmR h1 M p l := NmR.stab.go e1 (fun _ x => x.elim) (fun _ x => x) N
  refine ⟨fun i hh d => ∃ m : Nat, i = (m : Int) ∧ m ≤ l.length ∧ hh = h1 ∧ (∀ j q, j < m → l[j]? = some q → q.1 ≠ n) ∧ d = l.length - m, ⟨_, 0, rfl, Nat.zero_le _, rfl, fun j q hj => by omega, rfl⟩, ?_⟩
  rintro i h6 d ⟨m, rfl, hm, rfl, hg, rfl⟩
  refine Br.dec (fun hlt => ?_) fun hge => k1 ?_ _ _ (by omega) e1
  · have hlt' : m < l.length := by omega
    refine N1.a.ix rfl (x := l[m].1) (by rw [List.getElem?_map, List.getElem?_eq_getElem hlt']; rfl) fun x off hc => ⟨_, hc, ?_⟩
    rw [tx_eq]
    refine Br.dec (fun he => ?_) fun he => ⟨l.length - (m + 1), by omega, m + 1, by rw [wi64 (by omega) (by omega)]; rfl, by omega, rfl, fun j q hj hq => ?_, rfl⟩
    · refine N1.b.ix rfl (x := l[m].2) (by rw [List.getElem?_map, List.getElem?_eq_getElem hlt']; rfl) fun x off hc => ⟨_, hc, k2 _ _ ?_ e1⟩
      rw [look_skip hg, List.drop_eq_getElem_cons hlt']
      unfold look; rw [if_pos he.symm]
    · by_cases hjm : j < m
      · exact hg j q hjm hq
      · have : j = m := by omega
        subst this
        rw [List.getElem?_eq_getElem hlt'] at hq
        rw [← Option.some.inj hq]; exact he
  · have : m = l.length := by omega
    subst this
    rw [look_skip hg, List.drop_length]; rfl

def placeD (δ : Dc) (l : Tx) : Option (Nat × Tx) × Int := match pathOf l with
  | none => (none, 1)
  | some (a, b) => match ixOf a δ.dirs with
    | none => (none, 6)
    | some i => (some (i, b), 0)
theorem c131 {h : Heap} {M : Bl} {d : Nat} {δ : Dc} (X : DD h M d δ) (hs : δ.dirs.length ≤ 4611686018427387904) {l : Tx} (hl : l.length < 4611686018427387904) {R : Int → ByteArray → Int → Heap → Prop}
    (k1 : ∀ e, placeD δ l = (none, e) → e ≠ 0 → R 0 (tx []) e h) (k2 : ∀ (i : Nat) n, placeD δ l = (some (i, n), 0) → okName n = true → R (i : Int) (tx n) 0 h) :
    Call Go.Proofs.Tryz.prog 131 [.lf (.ptr (some (d, 0))), .lf (.str (tx l))] h [.one (.int .i64), .one .str, .one (.int .i64)] R := by
  refine ok131 (c197 hl (fun hp a b => Br.t rfl (k1 1 (by unfold placeD; rw [hp]) (by omega))) fun a b hp => Br.f rfl ?_)
  refine c128 X hs (fun hi i hneg => Br.t (by simpa using hneg) (k1 6 (by unfold placeD; rw [hp]; simp only [hi]) (by omega))) fun i hi => Br.f (by simp) ?_
  exact k2 i b (by unfold placeD; rw [hp]; simp only [hi]) (pathOf_ok hp).2

def fileD (δ : Dc) (l : Tx) : Option Nat × Int := match placeD δ l with
  | (none, e) => (none, e)
  | (some (i, n), _) => match nowD δ i with
    | none => (none, 6)
    | some m => match look n m with
      | none => (none, 6)
      | some x => (some x, 0)

structure WD (δ : Dc) : Prop where
  ways : ∀ p ∈ δ.dirs, p.2 ≠ []
  few : δ.dirs.length ≤ 64
  wl : ∀ p ∈ δ.dirs, p.2.length ≤ 4398046511104
  nl : ∀ p ∈ δ.dirs, ∀ l ∈ p.2, l.length ≤ 1024
theorem placeD_now {δ : Dc} (W : WD δ) {l n : Tx} {i : Nat} {e : Int} (h : placeD δ l = (some (i, n), e)) : ∃ m, nowD δ i = some m ∧ m.length ≤ 1024 := by
  unfold placeD at h
  split at h
  · cases h
  · split at h
    · cases h
    · rename_i hi
      cases h
      obtain ⟨ws, hw⟩ := ixOf_some hi
      have hmem := List.mem_of_getElem? hw
      have hne := W.ways _ hmem
      cases hg : ws.getLast? with
      | none => rw [List.getLast?_eq_none_iff] at hg; exact absurd hg hne
      | some m => exact ⟨m, by unfold nowD; rw [hw]; exact hg, W.nl _ hmem m (List.mem_of_getLast? hg)⟩
theorem WD.bw {δ : Dc} (W : WD δ) : ∀ p ∈ δ.dirs, p.2.length ≤ 4611686018427387904 := fun p hp => by have := W.wl p hp; omega

theorem c138 {h : Heap} {M : Bl} {d : Nat} {δ : Dc} (X : DD h M d δ) (W : WD δ) {l : Tx} (hl : l.length < 4611686018427387904) {R : Int → Int → Heap → Prop}
    (k1 : ∀ e h', fileD δ l = (none, e) → e ≠ 0 → Ext0 h h' → R 0 e h') (k2 : ∀ (x : Nat) h', fileD δ l = (some x, 0) → Ext0 h h' → R (x : Int) 0 h') :
    Call Go.Proofs.Tryz.prog 138 [.lf (.ptr (some (d, 0))), .lf (.str (tx l))] h [.one (.int .i64), .one (.int .i64)] R := by
  refine ok138 (c131 X (by have := W.few; omega) hl (fun e hp he => Br.ne (fun _ => k1 e h (by unfold fileD; rw [hp]) he (Ext.refl _ _)) fun x => absurd x he) fun i n hp hn => Br.f rfl ?_)
  obtain ⟨m, hm, hml⟩ := placeD_now W hp
  refine c130 X hm W.bw fun p h6 N e6 => ?_
  refine c132 (M := M) (fun j hj => Nat.lt_of_lt_of_le (X.lt j hj) e6.size) N (by omega) (fun hlk i h8 hneg e8 => Br.t (by simpa using hneg) (k1 6 h8 (by unfold fileD; rw [hp]; simp only [hm, hlk]) (by omega) (e6.trans e8))) fun x h8 hlk e8 => Br.f (by simp) (k2 x h8 (by unfold fileD; rw [hp]; simp only [hm, hlk]) (e6.trans e8))

theorem c198 {h : Heap} {i : Nat} {sl sm : Slc} {l m : Tx} (al : Arr 1 dF h sl l) (am : Arr 1 dF h sm m) (hi : i ≤ l.length) (hl : l.length ≤ 4398046511104) (hm : m.length ≤ 4398046511104) {R : Slc → Heap → Prop}
    (k : ∀ s' h', Own 1 dF h' s' (overL i m l) → Fresh h h' s' → R s' h') : Call Go.Proofs.Tryz.prog 198 [.lf (.slc sl), VV.agg [.int .i64 (i : Int), .slc sm]] h [.one .slc] R := by
  have hml := am.len
  refine ok198 (New.mk fun b0 h1 hb0 hs1 e1 k1 => New.mk fun b2 h3 hb2 hs3 e3 k3 => ?_)
  have o3 : Own 1 dF h3 ⟨some (b2, 0), 0, 0⟩ [] := Own.new dF_sized (l := []) k3
  have e13 := e1.trans e3
  refine AppC.grow dF_sized (by decide) rfl o3 (al.ext0 e13) (by simp; omega) fun s4 h5 o5 g5 => ?_
  rw [List.nil_append] at o5
  have f3 : Fresh h h3 ⟨some (b2, 0), 0, 0⟩ := ⟨e13, fun b off x => by cases x; omega⟩
  have f5 := f3.grow g5
  have hb0s : ∀ {s : Slc}, (∀ b off, s.a = some (b, off) → b0 < b) → ∀ {hh hh' : Heap}, Ext (fun b => ∃ off, s.a = some (b, off)) hh hh' → b0 < hh.size → keepB hh hh' [b0] := fun {s} hn {hh hh'} e hz => e.keep hz fun ⟨off, x⟩ => by have := hn _ _ x; omega
  have n4 : ∀ b off, s4.a = some (b, off) → b0 < b := fun b off hb => by
    rcases g5.new with x | ⟨b', x, y⟩
    · rw [x] at hb; cases hb; omega
    · rw [x] at hb; cases hb; omega
  refine ⟨hb0s (s := ⟨some (b2, 0), 0, 0⟩) (fun b off x => by cases x; omega) g5.ext (by omega), ?_⟩
  have z5 := g5.ext.size
  refine ⟨fun s a hh d => ∃ n : Nat, a = (n : Int) ∧ n ≤ m.length ∧ Own 1 dF hh s (overL i (m.take n) l) ∧ Fresh h hh s ∧ (∀ b off, s.a = some (b, off) → b0 < b) ∧ b0 < hh.size ∧ d = m.length - n,
    ⟨_, 0, rfl, Nat.zero_le _, by rw [List.take_zero]; unfold overL; simpa using o5, f5, n4, by omega, rfl⟩, ?_⟩
  rintro s a h10 d ⟨n, rfl, hn, o10, f10, n10, z10, rfl⟩
  have hol := o10.len
  rw [overL_len hi, List.length_take, Nat.min_eq_left hn] at hol
  refine Br.dec (fun hlt => ?_) fun hge => ?_
  · have hlt' : n < m.length := by omega
    have hmt : m.take (n + 1) = m.take n ++ [m[n]] := by rw [List.take_add_one, List.getElem?_eq_getElem hlt']; rfl
    rw [wi64 (n := (i : Int) + (n : Int)) (by omega) (by omega)]
    have am10 : Arr 1 dF h10 sm m := am.ext0 f10.ext
    refine Br.dec (fun hin => ?_) fun hout => ?_
    · have hin' : i + n < l.length := by omega
      refine am10.ix rfl (x := m[n]) (List.getElem?_eq_getElem hlt') fun b12 b13 hc => ⟨_, hc, ?_⟩
      refine IxC.set dF_sized o10 (k := i + n) (x := m[n]) (by omega) (by rw [overL_len hi]; omega) rfl fun h17 hs17 o17 e17 => ⟨hb0s n10 e17 z10, m.length - (n + 1), by omega, n + 1, by rw [wi64 (by omega) (by omega)]; rfl, by omega, ?_, ⟨f10.ext.trans' e17 fun j hj ⟨off, x⟩ => by have := f10.new _ _ x; omega, f10.new⟩, n10, by omega, rfl⟩
      have : overL i (m.take (n + 1)) l = (overL i (m.take n) l).set (i + n) m[n] := by
        rw [hmt]; unfold overL
        have h1 : (m.take n).length = n := by rw [List.length_take]; omega
        have h2 : (l.take i).length = i := by rw [List.length_take]; omega
        have h3 : l.drop (i + n) = l[i + n] :: l.drop (i + (n + 1)) := List.drop_eq_getElem_cons hin'
        rw [List.length_append, h1, List.length_singleton, h3]
        rw [List.set_append_right _ _ (by rw [List.length_append, h1, h2]; omega)]
        rw [List.length_append, h1, h2, Nat.sub_self, List.set_cons_zero]
        simp only [List.append_assoc, List.cons_append, List.nil_append]
      rw [this]; exact o17
    · refine am10.ix rfl (x := m[n]) (List.getElem?_eq_getElem hlt') fun b19 b20 hc => ⟨_, hc, New.mk fun b22 h23 hb22 hs23 e23 k23 => ?_⟩
      have hge' : l.length ≤ i + n := by omega
      refine AppC.grow dF_sized (by decide) rfl (o10.ext0 e23) ((Own.new dF_sized (l := [m[n]]) k23).arr dF_sized) (by rw [overL_len hi, List.length_take]; simp; omega) fun s24 h25 o25 g25 => ?_
      have n24 : ∀ b off, s24.a = some (b, off) → b0 < b := fun b off hb => by
        rcases g25.new with x | ⟨b', x, y⟩
        · rw [x] at hb; exact n10 b off hb
        · rw [x] at hb; cases hb; omega
      refine ⟨hb0s n10 g25.ext (by omega), m.length - (n + 1), by omega, n + 1, by rw [wi64 (by omega) (by omega)]; rfl, by omega, ?_, (f10.ext0 e23).grow g25, n24, by have := g25.ext.size; omega, rfl⟩
      have : overL i (m.take (n + 1)) l = overL i (m.take n) l ++ [m[n]] := by
        rw [hmt]; unfold overL
        have h1 : (m.take n).length = n := by rw [List.length_take]; omega
        have d1 : l.drop (i + n) = [] := List.drop_of_length_le (by omega)
        have d2 : l.drop (i + (n + 1)) = [] := List.drop_of_length_le (by omega)
        rw [List.length_append, h1, List.length_singleton, d1, d2]
        simp only [List.append_assoc, List.append_nil]
      rw [this]; exact o25
  · have : n = m.length := by omega
    subst this
    rw [List.take_length] at o10
    exact k s h10 o10 f10

theorem c139 {h : Heap} {M : Bl} {p : Slc × Slc} {c : DF} (Q : FilQ h M p c) (hlt : ∀ i, M i → i < h.size) (hch : chain c.1 c.2) (hlen : (appl c.1 c.2).length ≤ 268435456) (hw : c.2.length ≤ 4611686018427387904) {R : Slc → Heap → Prop}
    (k : ∀ s' h', Own 1 dF h' s' (appl c.1 c.2) → Fresh h h' s' → R s' h') : Call Go.Proofs.Tryz.prog 139 [VV.agg [.slc p.1, .slc p.2]] h [.one .slc] R := by
  have hwl := Lst.len Q.2
  have hfast := (appl_len hch).1
  refine ok139 (New.mk fun b0 h1 hb0 hs1 e1 k1 => New.mk fun b2 h3 hb2 hs3 e3 k3 => ?_)
  have e13 := e1.trans e3
  have o3 : Own 1 dF h3 ⟨some (b2, 0), 0, 0⟩ [] := Own.new dF_sized (l := []) k3
  refine AppC.grow dF_sized (by decide) rfl o3 (Q.1.arr.ext0 e13) (by simp; omega) fun s4 h5 o5 g5 => ?_
  rw [List.nil_append] at o5
  have f3 : Fresh h h3 ⟨some (b2, 0), 0, 0⟩ := ⟨e13, fun b off x => by cases x; omega⟩
  have f5 := f3.grow g5
  have z5 := g5.ext.size
  refine ⟨g5.ext.keep (by omega) (fun ⟨off, x⟩ => by cases x; omega), ?_⟩
  refine ⟨fun s a hh d => ∃ n : Nat, a = (n : Int) ∧ n ≤ c.2.length ∧ Own 1 dF hh s (appl c.1 (c.2.take n)) ∧ Fresh h hh s ∧ b0 < hh.size ∧ d = c.2.length - n,
    ⟨_, 0, rfl, Nat.zero_le _, o5, f5, by omega, rfl⟩, ?_⟩
  rintro s a h10 d ⟨n, rfl, hn, o10, f10, z10, rfl⟩
  have hsmall := chain_take n hch
  refine Br.dec (fun hlt2 => ?_) fun hge => ?_
  · have hlt' : n < c.2.length := by omega
    have hget := List.getElem?_eq_getElem hlt'
    have Q10 : WrL h10 M p.2 c.2 := WrL.stab.go f10.ext (fun _ x => x.elim) (fun _ x => x) Q.2
    have hwb := (appl_len hch).2 _ (List.getElem_mem hlt')
    refine Lst.ix Q10 rfl hget fun q x off hq hc => ⟨_, _, hc, ?_⟩
    rw [hq.1]
    refine c198 (o10.arr dF_sized) hq.2.arr (chain_at hch hget) (by omega) (by omega) fun s16 h17 o17 f17 => ⟨f17.ext.keep z10 (fun x => x), c.2.length - (n + 1), by omega, n + 1, by rw [wi64 (by omega) (by omega)]; rfl, by omega, ?_, ⟨f10.ext.trans f17.ext, fun b off hb => Nat.le_trans f10.ext.size (f17.new b off hb)⟩, by have := f17.ext.size; omega, rfl⟩
    rw [appl_take_succ hget]; exact o17
  · have : n = c.2.length := by omega
    subst this
    rw [List.take_length] at o10
    exact k s h10 o10 f10

theorem c152 {h : Heap} {M : Bl} {p : Slc × Slc} {c : DF} (Q : FilQ h M p c) (hlt : ∀ i, M i → i < h.size) (hw : c.2.length ≤ 4611686018427387904) {R : Int → Heap → Prop}
    (k : ∀ h', Ext0 h h' → R (unsW c.2) h') : Call Go.Proofs.Tryz.prog 152 [VV.agg [.slc p.1, .slc p.2]] h [.one (.int .i64)] R := by
  have hwl := Lst.len Q.2
  refine ok152 (New.mk fun b0 h1 hb0 hs1 e1 k1 => ?_)
  have Q1 : WrL h1 M p.2 c.2 := WrL.stab.go e1 (fun _ x => x.elim) (fun _ x => x) Q.2
  refine ⟨fun a i hh d => ∃ n : Nat, i = (n : Int) ∧ n ≤ c.2.length ∧ a = unsW (c.2.take n) ∧ hh = h1 ∧ d = c.2.length - n, ⟨_, 0, rfl, Nat.zero_le _, rfl, rfl, rfl⟩, ?_⟩
  rintro a i h6 d ⟨n, rfl, hn, rfl, rfl, rfl⟩
  refine Br.dec (fun hlt2 => ?_) fun hge => ?_
  · have hlt' : n < c.2.length := by omega
    have hget := List.getElem?_eq_getElem hlt'
    refine Lst.ix Q1 rfl hget fun q x off hq hc => ⟨q.2, ⟨hc.2.1, trivial⟩, c.2.length - (n + 1), by omega, n + 1, by rw [wi64 (by omega) (by omega)]; rfl, by omega, ?_, rfl, rfl⟩
    have hl := hq.2.arr.len
    rw [hl]; exact unsW_take hget
  · have : n = c.2.length := by omega
    subst this
    rw [List.take_length]
    exact k h6 e1

end Go.V.YtdeihieblljfcaaGreat
