/- This text proves a part of the laws of seat Ytdeihieblljfcaa, under no condition: D3a D3b D3c D3d. -/
import Derived.Test.YtdeihieblljfcaaDO
import Derived.Test.YtdeihieblljfcaaDG
set_option linter.unusedVariables false
set_option linter.unusedSimpArgs false
/-! The calls, with all that holds of a disk between them. -/
namespace Go.V.Ytdeihieblljfcaa
open Go Go.V

theorem at_dr {σ : Dk} {d : Nat} {dd : Dr} {m : List (Tx × Nat)} (h : σ.at d = some (dd, m)) : σ.dr d = some dd := (Dk.at_some.1 h).1
theorem Fine.change {σ : Dk} (Z : Fine σ) : Fine σ.change.2.2 := Z
theorem Fine.chg {σ : Dk} (Z : Fine σ) (b : Nat) (dd : Dr) (r : Nat) (m : List (Tx × Nat)) : Fine (σ.chg b dd r m) := Z
theorem Few.newF {σ : Dk} {n : Nat} (F : Few σ n) (x : Nat) (c : Fl) (h : c.opn.length ≤ n) : Few { σ with fl := upd σ.fl x c } n :=
  ⟨F.fail, F.stop, F.was, fun y d hd => by
    rcases upd_some hd with ⟨rfl, rfl⟩ | ⟨_, hd⟩
    · exact h
    · exact F.opn _ _ hd⟩
structure FF (σ : Dk) (n : Nat) : Prop where
  F : Few σ n
  Z : Fine σ
theorem FF.mono {σ : Dk} {n m : Nat} (G : FF σ n) (h : n ≤ m) : FF σ m := ⟨G.F.mono h, G.Z⟩
theorem FF.change {σ : Dk} {n : Nat} (G : FF σ n) : FF σ.change.2.2 (n + 1) := ⟨G.F.change, G.Z⟩
theorem FF.chg {σ : Dk} {n : Nat} (G : FF σ n) {b : Nat} {dd : Dr} (hd : σ.dr b = some dd) (r : Nat) (m : List (Tx × Nat)) : FF (σ.chg b dd r m) (n + 1) := ⟨G.F.chg hd, G.Z⟩
theorem FF.newF {σ : Dk} {n : Nat} (G : FF σ n) (x : Nat) {c : Fl} (h : c.opn.length ≤ n) (ok : FlOk c) : FF { σ with fl := upd σ.fl x c } n := ⟨G.F.newF x c h, G.Z.upd ok⟩

theorem FF.create {σ : Dk} {n : Nat} (G : FF σ n) (l : Tx) (r x : Nat) : FF (createR σ l r x).2 (n + 3) := by
  unfold createR
  split
  · exact G.mono (by omega)
  · split
    · exact G.mono (by omega)
    · rename_i dd m hat
      split
      · exact G.mono (by omega)
      · split
        · exact G.mono (by omega)
        · split
          · exact G.change.mono (by omega)
          · exact ((G.change.chg (at_dr hat) r _).newF x (c := ⟨[], [], []⟩) (by simp) ⟨trivial, rfl, by simp⟩).mono (by omega)
theorem FF.link {σ : Dk} {n : Nat} (G : FF σ n) (l l' : Tx) (r : Nat) : FF (linkR σ l l' r).2 (n + 3) := by
  unfold linkR
  split
  · exact G.mono (by omega)
  · split
    · exact G.mono (by omega)
    · rename_i dd m hat
      split
      · exact G.mono (by omega)
      · split
        · exact G.mono (by omega)
        · split
          · exact G.change.mono (by omega)
          · exact (G.change.chg (at_dr hat) r _).mono (by omega)
theorem FF.remove {σ : Dk} {n : Nat} (G : FF σ n) (l : Tx) (r : Nat) : FF (removeR σ l r).2 (n + 3) := by
  unfold removeR
  split
  · exact G.mono (by omega)
  · split
    · exact G.mono (by omega)
    · split
      · exact G.mono (by omega)
      · rename_i dd m hat
        split
        · exact G.change.mono (by omega)
        · exact (G.change.chg (at_dr hat) r _).mono (by omega)
theorem FF.rename {σ : Dk} {n : Nat} (G : FF σ n) (l l' : Tx) (r1 r2 : Nat) : FF (renameR σ l l' r1 r2).2 (n + 3) := by
  unfold renameR
  split
  · exact G.mono (by omega)
  · split
    · exact G.mono (by omega)
    · rename_i da ma hata
      split
      · exact G.mono (by omega)
      · rename_i db mb hatb
        split
        · exact G.mono (by omega)
        · split
          · exact G.change.mono (by omega)
          · split
            · exact (G.change.chg (at_dr hata) r1 _).mono (by omega)
            · rename_i hab
              refine ((G.change.chg (at_dr hatb) r1 _).chg (dd := da) ?_ r2 _).mono (by omega)
              show upd _ _ _ _ = _
              rw [upd_ne hab]; exact at_dr hata
theorem FF.mkdir {σ : Dk} {n : Nat} (G : FF σ n) (l : Tx) (r b : Nat) : FF (mkdirR σ l r b).2 (n + 3) := by
  unfold mkdirR
  split
  · split
    · exact G.mono (by omega)
    · split
      · exact G.mono (by omega)
      · split
        · exact G.change.mono (by omega)
        · have G' := G.change.mono (m := n + 3) (by omega)
          exact ⟨⟨G'.F.fail, G'.F.stop, fun b' d hd => by
            rcases upd_some hd with ⟨rfl, rfl⟩ | ⟨_, hd⟩
            · simp
            · exact G'.F.was _ _ hd, G'.F.opn⟩, G'.Z⟩
  · exact G.mono (by omega)
theorem FF.sync {σ : Dk} {n : Nat} (G : FF σ n) (l : Tx) : FF (syncR σ l).2 (n + 3) := by
  unfold syncR
  split
  · exact G.mono (by omega)
  · split
    · exact G.mono (by omega)
    · rename_i c hc
      split
      · exact G.change.mono (by omega)
      · exact (G.change.newF _ (c := ⟨c.now, [], c.now⟩) (by simp) ⟨trivial, rfl, (G.Z _ _ hc).len⟩).mono (by omega)
theorem FF.syncDir {σ : Dk} {n : Nat} (G : FF σ n) (l : Tx) : FF (syncDirR σ l).2 (n + 3) := by
  unfold syncDirR
  split
  · exact G.mono (by omega)
  · split
    · exact G.mono (by omega)
    · split
      · exact G.change.mono (by omega)
      · have G' := G.change.mono (m := n + 3) (by omega)
        exact ⟨⟨G'.F.fail, G'.F.stop, fun b' d hd => by
          rcases upd_some hd with ⟨rfl, rfl⟩ | ⟨_, hd⟩
          · simp
          · exact G'.F.was _ _ hd, G'.F.opn⟩, G'.Z⟩
theorem FF.write {σ : Dk} {n : Nat} (W : Wf σ) (G : FF σ n) (hq : σ.quota ≤ 268435456) (l : Tx) (i : Int) (b : Tx) : FF (writeR σ l i b).2 (n + 3) := by
  unfold writeR
  split
  · exact G.mono (by omega)
  · rename_i x e h
    exact ⟨(G.F.writes x i b).mono (by omega), G.Z.writes (fileE_walk W h) hq⟩
theorem FF.append {σ : Dk} {n : Nat} (W : Wf σ) (G : FF σ n) (hq : σ.quota ≤ 268435456) (l b : Tx) : FF (appendR σ l b).2 (n + 3) := by
  unfold appendR
  split
  · exact G.mono (by omega)
  · rename_i x e h
    exact ⟨(G.F.writes x _ b).mono (by omega), G.Z.writes (fileE_walk W h) hq⟩

/-- What was there at the start is as it was. -/
structure Fr (h0 : Heap) (lab : Labs) (h : Heap) : Prop where
  e : Ext0 h0 h
  no : ∀ i, i < h0.size → lab i = none
theorem Fr.go {h0 h h' : Heap} {lab lab' : Labs} (F : Fr h0 lab h) (s : Stp lab h lab' h') : Fr h0 lab' h' :=
  ⟨⟨Nat.le_trans F.e.size s.size, fun i hi _ => (s.same i (Nat.lt_of_lt_of_le hi F.e.size) (F.no i hi)).trans (F.e.same i hi id)⟩, fun i hi => (s.lab i (Nat.lt_of_lt_of_le hi F.e.size)).trans (F.no i hi)⟩
theorem Fr.ext0 {h0 h h' : Heap} {lab : Labs} (F : Fr h0 lab h) (e : Ext0 h h') : Fr h0 lab h' := ⟨F.e.trans e, F.no⟩

/-- A disk between calls. -/
structure Live (h0 h : Heap) (lab : Labs) (f D : Nat) (σ : Dk) (n : Nat) : Prop where
  X : DW h lab f D σ
  G : FF σ n
  q : σ.quota ≤ 268435456
  fr : Fr h0 lab h
theorem Live.ext0 {h0 h h' : Heap} {lab : Labs} {f D : Nat} {σ : Dk} {n : Nat} (L : Live h0 h lab f D σ n) (e : Ext0 h h') : Live h0 h' lab f D σ n := ⟨L.X.ext0 e, L.G, L.q, L.fr.ext0 e⟩
theorem Live.good {h0 h : Heap} {lab : Labs} {f D : Nat} {σ : Dk} {n : Nat} (L : Live h0 h lab f D σ n) : Good σ n := ⟨L.X.W, L.G.F, L.G.Z⟩
theorem Live.mono {h0 h : Heap} {lab : Labs} {f D : Nat} {σ : Dk} {n m : Nat} (L : Live h0 h lab f D σ n) (hm : n ≤ m) : Live h0 h lab f D σ m := ⟨L.X, L.G.mono hm, L.q, L.fr⟩

theorem createR_q (σ : Dk) (l : Tx) (r x : Nat) : (createR σ l r x).2.quota = σ.quota := by unfold createR; (repeat' split) <;> rfl
theorem linkR_q (σ : Dk) (l l' : Tx) (r : Nat) : (linkR σ l l' r).2.quota = σ.quota := by unfold linkR; (repeat' split) <;> rfl
theorem removeR_q (σ : Dk) (l : Tx) (r : Nat) : (removeR σ l r).2.quota = σ.quota := by unfold removeR; (repeat' split) <;> rfl
theorem renameR_q (σ : Dk) (l l' : Tx) (r1 r2 : Nat) : (renameR σ l l' r1 r2).2.quota = σ.quota := by unfold renameR; (repeat' split) <;> rfl
theorem mkdirR_q (σ : Dk) (l : Tx) (r b : Nat) : (mkdirR σ l r b).2.quota = σ.quota := by unfold mkdirR; (repeat' split) <;> rfl
theorem syncR_q (σ : Dk) (l : Tx) : (syncR σ l).2.quota = σ.quota := by unfold syncR; (repeat' split) <;> rfl
theorem syncDirR_q (σ : Dk) (l : Tx) : (syncDirR σ l).2.quota = σ.quota := by unfold syncDirR; (repeat' split) <;> rfl
theorem writesR_q (σ : Dk) (x : Nat) (i : Int) (b : Tx) : (writesR σ x i b).2.quota = σ.quota := by
  rcases writesR_cases σ x i b with h | h | ⟨c, b', _, _, _, _, _, h⟩ <;> rw [h] <;> rfl
theorem appendR_q (σ : Dk) (l b : Tx) : (appendR σ l b).2.quota = σ.quota := by unfold appendR; split <;> first | rfl | exact writesR_q _ _ _ _
theorem writeR_q (σ : Dk) (l : Tx) (i : Int) (b : Tx) : (writeR σ l i b).2.quota = σ.quota := by unfold writeR; split <;> first | rfl | exact writesR_q _ _ _ _
theorem crashD_q (σ : Dk) (l : List Int) : ∀ w, (crashD σ l w).2.quota = σ.quota := fun w => by
  induction w using snoc_ind with
  | h0 => rfl
  | h1 w e ih =>
    rw [crashD_snoc]
    rcases dstep_cases l (crashD σ l w) e with h | ⟨_, _, _, _, _, h⟩ <;> rw [h]
    · exact ih
    · exact ih
theorem crashF_q (σ : Dk) (l : List Int) : ∀ w, (crashF σ l w).2.2.quota = σ.quota := fun w => by
  induction w using snoc_ind with
  | h0 => rfl
  | h1 w e ih =>
    rw [crashF_snoc]
    rcases cstep_cases l (crashF σ l w) e with h | ⟨_, _, _, _, h⟩ <;> rw [h]
    · exact ih
    · exact ih
theorem crashR_q (σ : Dk) (keeps names : List Int) : (crashR σ keeps names).quota = σ.quota := (crashF_q _ _ _).trans (crashD_q _ _ _)

section
variable {h0 h : Heap} {lab : Labs} {f D : Nat} {σ : Dk} {n : Nat}
theorem Live.mkdir (L : Live h0 h lab f D σ n) (hn : n ≤ 1000000000) {l : Tx} {R : Int → Heap → Prop}
    (k : ∀ r b h' lab', σ.mp r = none → σ.dr b = none → Live h0 h' lab' f D (mkdirR σ l r b).2 (n + 3) → R (mkdirR σ l r b).1 h') :
    Call Go.Proofs.Try.prog 8 [.lf (.ptr (some (f, 0))), .lf (.str (tx l))] h [.one (.int .i64)] R :=
  c8 L.X L.G.F (by omega) fun r b h' lab' f1 f2 X' s => k r b h' lab' f1 f2 ⟨X', L.G.mkdir l r b, by rw [mkdirR_q]; exact L.q, L.fr.go s⟩
theorem Live.create (L : Live h0 h lab f D σ n) (hn : n ≤ 1000000000) {l : Tx} (hl : l.length < 4294967281) {R : Int → Heap → Prop}
    (k : ∀ r x h' lab', σ.mp r = none → σ.fl x = none → Live h0 h' lab' f D (createR σ l r x).2 (n + 3) → R (createR σ l r x).1 h') :
    Call Go.Proofs.Try.prog 9 [.lf (.ptr (some (f, 0))), .lf (.str (tx l))] h [.one (.int .i64)] R :=
  c9 L.X L.G.F (by omega) hl fun r x h' lab' f1 f2 X' s => k r x h' lab' f1 f2 ⟨X', L.G.create l r x, by rw [createR_q]; exact L.q, L.fr.go s⟩
theorem Live.link (L : Live h0 h lab f D σ n) (hn : n ≤ 1000000000) {l l' : Tx} (hl : l.length < 4294967281) (hl' : l'.length < 4294967281) {R : Int → Heap → Prop}
    (k : ∀ r h' lab', σ.mp r = none → Live h0 h' lab' f D (linkR σ l l' r).2 (n + 3) → R (linkR σ l l' r).1 h') :
    Call Go.Proofs.Try.prog 17 [.lf (.ptr (some (f, 0))), .lf (.str (tx l)), .lf (.str (tx l'))] h [.one (.int .i64)] R :=
  c17 L.X L.G.F (by omega) hl hl' fun r h' lab' f1 X' s => k r h' lab' f1 ⟨X', L.G.link l l' r, by rw [linkR_q]; exact L.q, L.fr.go s⟩
theorem Live.remove (L : Live h0 h lab f D σ n) (hn : n ≤ 1000000000) {l : Tx} (hl : l.length < 4294967281) {R : Int → Heap → Prop}
    (k : ∀ r h' lab', σ.mp r = none → Live h0 h' lab' f D (removeR σ l r).2 (n + 3) → R (removeR σ l r).1 h') :
    Call Go.Proofs.Try.prog 21 [.lf (.ptr (some (f, 0))), .lf (.str (tx l))] h [.one (.int .i64)] R :=
  c21 L.X L.G.F (by omega) hl fun r h' lab' f1 X' s => k r h' lab' f1 ⟨X', L.G.remove l r, by rw [removeR_q]; exact L.q, L.fr.go s⟩
theorem Live.rename (L : Live h0 h lab f D σ n) (hn : n ≤ 1000000000) {l l' : Tx} (hl : l.length < 4294967281) (hl' : l'.length < 4294967281) {R : Int → Heap → Prop}
    (k : ∀ r1 r2 h' lab', σ.mp r1 = none → σ.mp r2 = none → r1 ≠ r2 → Live h0 h' lab' f D (renameR σ l l' r1 r2).2 (n + 3) → R (renameR σ l l' r1 r2).1 h') :
    Call Go.Proofs.Try.prog 14 [.lf (.ptr (some (f, 0))), .lf (.str (tx l)), .lf (.str (tx l'))] h [.one (.int .i64)] R :=
  c14 L.X L.G.F (by omega) hl hl' fun r1 r2 h' lab' f1 f2 hne X' s => k r1 r2 h' lab' f1 f2 hne ⟨X', L.G.rename l l' r1 r2, by rw [renameR_q]; exact L.q, L.fr.go s⟩
theorem Live.sync (L : Live h0 h lab f D σ n) (hn : n ≤ 1000000000) {l : Tx} (hl : l.length < 4294967281) {R : Int → Heap → Prop}
    (k : ∀ h', Live h0 h' lab f D (syncR σ l).2 (n + 3) → R (syncR σ l).1 h') :
    Call Go.Proofs.Try.prog 11 [.lf (.ptr (some (f, 0))), .lf (.str (tx l))] h [.one (.int .i64)] R :=
  c11 L.X L.G.F (by omega) hl fun h' X' s => k h' ⟨X', L.G.sync l, by rw [syncR_q]; exact L.q, L.fr.go s⟩
theorem Live.syncDir (L : Live h0 h lab f D σ n) (hn : n ≤ 1000000000) {l : Tx} {R : Int → Heap → Prop}
    (k : ∀ h', Live h0 h' lab f D (syncDirR σ l).2 (n + 3) → R (syncDirR σ l).1 h') :
    Call Go.Proofs.Try.prog 12 [.lf (.ptr (some (f, 0))), .lf (.str (tx l))] h [.one (.int .i64)] R :=
  c12 L.X L.G.F (by omega) fun h' X' s => k h' ⟨X', L.G.syncDir l, by rw [syncDirR_q]; exact L.q, L.fr.go s⟩
theorem Live.append (L : Live h0 h lab f D σ n) (hn : n ≤ 1000000000) {l : Tx} (hl : l.length < 4294967281) {s : Slc} {b : Tx} (A : Arr 1 dF h s b) (hsc : s.len ≤ s.cap) (hsl : ∀ y off, s.a = some (y, off) → lab y = none ∨ lab y = some .dat) (hb : b.length ≤ 4398046511104) {R : Int → Heap → Prop}
    (k : ∀ h' lab', Live h0 h' lab' f D (appendR σ l b).2 (n + 3) → Stp lab h lab' h' → R (appendR σ l b).1 h') :
    Call Go.Proofs.Try.prog 10 [.lf (.ptr (some (f, 0))), .lf (.str (tx l)), .lf (.slc s)] h [.one (.int .i64)] R :=
  c10 L.X L.G.Z L.G.F (by omega) hl A hsc hsl hb fun h' lab' X' s => k h' lab' ⟨X', L.G.append L.X.W L.q l b, by rw [appendR_q]; exact L.q, L.fr.go s⟩ s
theorem Live.write (L : Live h0 h lab f D σ n) (hn : n ≤ 1000000000) {l : Tx} (hl : l.length < 4294967281) {i : Int} (hi1 : -9223372036854775808 ≤ i) (hi2 : i ≤ 9223372036854775807) {s : Slc} {b : Tx} (A : Arr 1 dF h s b) (hsc : s.len ≤ s.cap) (hsl : ∀ y off, s.a = some (y, off) → lab y = none ∨ lab y = some .dat) (hb : b.length ≤ 4398046511104) {R : Int → Heap → Prop}
    (k : ∀ h' lab', Live h0 h' lab' f D (writeR σ l i b).2 (n + 3) → Stp lab h lab' h' → R (writeR σ l i b).1 h') :
    Call Go.Proofs.Try.prog 18 [.lf (.ptr (some (f, 0))), .lf (.str (tx l)), .lf (.int .i64 i), .lf (.slc s)] h [.one (.int .i64)] R :=
  c18 L.X L.G.Z L.G.F (by omega) hl hi1 hi2 A hsc hsl hb fun h' lab' X' s => k h' lab' ⟨X', L.G.write L.X.W L.q l i b, by rw [writeR_q]; exact L.q, L.fr.go s⟩ s
theorem Live.stop (L : Live h0 h lab f D σ n) {m : Int} (hm1 : -9223372036854775808 ≤ m) (hm2 : m ≤ 9223372036854775807) {R : Heap → Prop}
    (k : ∀ h', Live h0 h' lab f D { σ with stop := ⟨m, -1, 0⟩ } n → R h') : Call Go.Proofs.Try.prog 13 [.lf (.ptr (some (f, 0))), .lf (.int .i64 m)] h [] R :=
  c13 L.X fun h' X' s => k h' ⟨X', ⟨⟨L.G.F.fail, ⟨hm1, hm2, Int.le_refl 0, Int.natCast_nonneg n⟩, L.G.F.was, L.G.F.opn⟩, L.G.Z⟩, L.q, L.fr.go s⟩
theorem Live.read (L : Live h0 h lab f D σ n) {l : Tx} (hl : l.length < 4294967281) {R : Slc → Int → Heap → Prop}
    (k : ∀ s h', Own 1 dF h' s (readE σ l).1 → Fresh h h' s → Live h0 h' lab f D σ n → R s (readE σ l).2 h') :
    Call Go.Proofs.Try.prog 16 [.lf (.ptr (some (f, 0))), .lf (.str (tx l))] h [.one .slc, .one (.int .i64)] R :=
  c16 L.X L.G.Z hl fun s h' o fr _ => k s h' o fr (L.ext0 fr.ext)
theorem Live.crash (L : Live h0 h lab f D σ n) (hn : n ≤ 1000000000) {sk sc : Slc} {keeps names : List Int} (Ak : Arr 1 iF h sk keeps) (Ac : Arr 1 iF h sc names)
    (hk : ∀ b off, sk.a = some (b, off) → lab b = none ∧ b < h.size) (hc : ∀ b off, sc.a = some (b, off) → lab b = none ∧ b < h.size) (hkl : keeps.length ≤ 4611686018427387904) (hcl : names.length ≤ 4611686018427387904) {R : Heap → Prop}
    (k : ∀ h' lab', Live h0 h' lab' f D (crashR σ keeps names) n → R h') :
    Call Go.Proofs.Try.prog 15 [.lf (.ptr (some (f, 0))), .lf (.slc sk), .lf (.slc sc)] h [] R :=
  c15 L.X L.good (by omega) Ak Ac hk hc hkl hcl fun h' lab' X' s => k h' lab' ⟨X', ⟨(L.good.crash keeps names).F, (L.good.crash keeps names).Z⟩, by rw [crashR_q]; exact L.q, L.fr.go s⟩
end

/-- No script says that something goes wrong. -/
def Calm (σ : Dk) : Prop := σ.fail.frm < 1 ∧ σ.stop.frm < 1
theorem Calm.change {σ : Dk} (c : Calm σ) : σ.change = (0, false, σ) := by
  have h1 : σ.fail.count = (false, false, σ.fail) := by unfold Sc.count; rw [if_pos (.inl c.1)]
  have h2 : σ.stop.count = (false, false, σ.stop) := by unfold Sc.count; rw [if_pos (.inl c.2)]
  unfold Dk.change
  simp only [h1, h2]
  rfl

end Go.V.Ytdeihieblljfcaa
set_option linter.unusedVariables false
set_option linter.unusedSimpArgs false
/-! What calls come to, told of small disks. -/
namespace Go.V.Ytdeihieblljfcaa
open Go Go.V

theorem pathOf_two {c : UInt8} {n : Tx} (hc : okName [c] = true) (h47 : c ≠ 47) (hn : okName n = true) : pathOf (c :: 47 :: n) = some ([c], n) := by
  have h1 : (c != 47) = true := by simpa using h47
  have ht : (c :: 47 :: n).takeWhile (· != 47) = [c] := by simp [List.takeWhile_cons, h1]
  have hd : (c :: 47 :: n).dropWhile (· != 47) = 47 :: n := by simp [List.dropWhile_cons, h1]
  unfold pathOf
  rw [ht, hd]
  rw [if_pos ⟨by simp, hc, hn⟩]; rfl
theorem pathE_two {σ : Dk} {c : UInt8} {n : Tx} {b : Nat} (hc : okName [c] = true) (h47 : c ≠ 47) (hn : okName n = true) (hb : look [c] σ.dirs = some b) : pathE σ (c :: 47 :: n) = (some (b, n), 0) := by
  unfold pathE; rw [pathOf_two hc h47 hn]; simp only [hb]
theorem fileE_two {σ : Dk} {l n : Tx} {b x : Nat} {dd : Dr} {m : List (Tx × Nat)} (hp : pathE σ l = (some (b, n), 0)) (hd : σ.dr b = some dd) (hm : σ.mp dd.now = some m) (hx : look n m = some x) : fileE σ l = (some x, 0) := by
  have hb : ((σ.dr b).bind fun d => σ.mp d.now) = some m := by rw [hd]; exact hm
  unfold fileE; rw [hp]; simp only [hb, hx]
theorem fileE_no {σ : Dk} {l n : Tx} {b : Nat} {dd : Dr} {m : List (Tx × Nat)} (hp : pathE σ l = (some (b, n), 0)) (hd : σ.dr b = some dd) (hm : σ.mp dd.now = some m) (hx : look n m = none) : fileE σ l = (none, 6) := by
  have hb : ((σ.dr b).bind fun d => σ.mp d.now) = some m := by rw [hd]; exact hm
  unfold fileE; rw [hp]; simp only [hb, hx]

theorem createR_eq {σ : Dk} {l n : Tx} {b : Nat} {dd : Dr} {m : List (Tx × Nat)} (hp : pathE σ l = (some (b, n), 0)) (hd : σ.dr b = some dd) (hm : σ.mp dd.now = some m) (hx : look n m = none) (hl : m.length < 1024) (r x : Nat) :
    createR σ l r x = if σ.change.1 ≠ 0 then (σ.change.1, σ.change.2.2) else (0, { σ.change.2.2.chg b dd r (putN n x m) with fl := upd σ.fl x ⟨[], [], []⟩ }) := by
  have hat : σ.at b = some (dd, m) := Dk.at_some.2 ⟨hd, hm⟩
  unfold createR; rw [hp]; simp only [hat]; rw [if_neg (by rw [hx]; simp), if_neg (by omega)]
theorem appendR_eq {σ : Dk} {l b : Tx} {x : Nat} {c : Fl} (hf : fileE σ l = (some x, 0)) (hx : σ.fl x = some c) (hq : (usedN σ : Int) + b.length ≤ σ.quota) :
    ∃ b', appendR σ l b = (σ.change.1, if (σ.change.1 = 0 ∨ σ.change.2.1 = true) ∧ b' ≠ [] then { σ.change.2.2 with fl := upd σ.fl x ⟨c.fast, c.opn ++ [(c.now.length, b')], overL c.now.length b' c.now⟩ } else σ.change.2.2) ∧ (σ.change.2.1 = false → b' = b) := by
  refine ⟨if σ.change.2.1 = true then b.take (b.length / 2) else b, ?_, fun h => by rw [if_neg (by rw [h]; simp)]⟩
  unfold appendR; rw [hf]; simp only [Dk.size, hx]
  unfold writesR; simp only [hx]
  rw [if_neg (by omega), if_neg (by omega)]
  generalize (if σ.change.2.1 = true then b.take (b.length / 2) else b) = b'
  split <;> rfl
theorem over_end (b l : Tx) : overL l.length b l = l ++ b := by unfold overL; simp
theorem syncR_eq {σ : Dk} {l : Tx} {x : Nat} {c : Fl} (hf : fileE σ l = (some x, 0)) (hx : σ.fl x = some c) :
    syncR σ l = if σ.change.1 ≠ 0 then (σ.change.1, σ.change.2.2) else (0, { σ.change.2.2 with fl := upd σ.fl x ⟨c.now, [], c.now⟩ }) := by
  unfold syncR; rw [hf]; simp only [hx]
theorem syncDirR_eq {σ : Dk} {l : Tx} {b : Nat} {d : Dr} (ho : okName l = true) (hl : look l σ.dirs = some b) (hd : σ.dr b = some d) :
    syncDirR σ l = if σ.change.1 ≠ 0 then (σ.change.1, σ.change.2.2) else (0, { σ.change.2.2 with dr := upd σ.dr b ⟨d.now, []⟩ }) := by
  unfold syncDirR findE; rw [if_pos ho]; simp only [hl, hd]
theorem readE_eq {σ : Dk} {l : Tx} {x : Nat} {c : Fl} (hf : fileE σ l = (some x, 0)) (hx : σ.fl x = some c) : readE σ l = (c.now, 0) := by
  unfold readE; rw [hf]; simp only [hx]
theorem mkdirR_eq {σ : Dk} {l : Tx} (ho : okName l = true) (hl : look l σ.dirs = none) (hm : σ.dirs.length < 64) (r b : Nat) :
    mkdirR σ l r b = if σ.change.1 ≠ 0 then (σ.change.1, σ.change.2.2) else (0, { σ.change.2.2 with dirs := putN l b σ.dirs, mp := upd σ.mp r [], dr := upd σ.dr b ⟨r, []⟩ }) := by
  unfold mkdirR; rw [if_pos ho, if_neg (by rw [hl]; simp), if_neg (by omega)]

/-- How a script's errors go: a change that is told as well has no half of it done. -/
theorem change_half {σ : Dk} (h : σ.change.1 = 0) : σ.change.2.1 = false := by
  unfold Dk.change at h ⊢
  simp only at h ⊢
  cases h1 : σ.stop.count.1 <;> cases h2 : σ.fail.count.1 <;> simp [h1, h2] at h ⊢

/-- A directory, some of the maps of names, some of the files. -/
structure Sm (σ : Dk) (dirs : List (Tx × Nat)) (ds : List (Nat × Dr)) (ms : List (Nat × List (Tx × Nat))) (fs : List (Nat × Fl)) : Prop where
  dirs : σ.dirs = dirs
  ds : ∀ p ∈ ds, σ.dr p.1 = some p.2
  ms : ∀ p ∈ ms, σ.mp p.1 = some p.2
  fs : ∀ p ∈ fs, σ.fl p.1 = some p.2
theorem Sm.change {σ : Dk} {dirs ds ms fs} (S : Sm σ dirs ds ms fs) : Sm σ.change.2.2 dirs ds ms fs := ⟨S.dirs, S.ds, S.ms, S.fs⟩

/-- The names of a small directory in order. -/
theorem sortT_eq {l : List Tx} (h : l.Pairwise (· ≤ ·)) : sortT l = l :=
  List.Perm.eq_of_pairwise (le := fun a b : Tx => a ≤ b) (fun x y _ _ h1 h2 => List.le_antisymm h1 h2) (sortT_sorted l) h (sortT_perm l)
theorem walkD_eq {σ : Dk} {d : Tx} {b : Nat} {dd : Dr} {m : List (Tx × Nat)} (hb : look d σ.dirs = some b) (hd : σ.dr b = some dd) (hm : σ.mp dd.now = some m) : walkD σ d = (keysOf m).map fun n => (d ++ 47 :: n, (look n m).getD 0) := by
  have hat : σ.at b = some (dd, m) := Dk.at_some.2 ⟨hd, hm⟩
  unfold walkD; rw [hb, Option.bind_some, hat]

/-- The files that lie whole are not touched by a crash. -/
theorem crashF_keep {σ : Dk} {l : List Int} {x : Nat} {c : Fl} (hc : σ.fl x = some c) (hu : uns c.opn = 0) : ∀ w, (crashF σ l w).2.2.fl x = some c := fun w => by
  induction w using snoc_ind with
  | h0 => exact hc
  | h1 w e ih =>
    rw [crashF_snoc]
    rcases cstep_cases l (crashF σ l w) e with h | ⟨c', h1, h2, h3, h⟩ <;> rw [h]
    · exact ih
    · show upd _ _ _ _ = _
      rw [upd_ne]
      · exact ih
      · rintro rfl
        rw [ih] at h1; cases h1; omega
/-- A directory behind a crash. -/
theorem crashR_dir {σ : Dk} {keeps names : List Int} {d : Tx} {b : Nat} {dd : Dr} (hdirs : σ.dirs = [(d, b)]) (hd : σ.dr b = some dd) :
    ∃ r, r ∈ dd.now :: dd.was ∧ (crashR σ keeps names).dr b = some ⟨r, []⟩ ∧ (crashR σ keeps names).dirs = [(d, b)] ∧ (crashR σ keeps names).mp = σ.mp ∧ (dd.was = [] → r = dd.now) ∧
      (∀ x c, σ.fl x = some c → uns c.opn = 0 → (crashR σ keeps names).fl x = some c) := by
  have hk : keysOf σ.dirs = [d] := by rw [hdirs]; exact sortT_eq (by simp)
  have hl : look d σ.dirs = some b := by rw [hdirs]; simp [look]
  have h1 : ∃ r, r ∈ dd.now :: dd.was ∧ (dd.was = [] → r = dd.now) ∧ (crashD σ names (keysOf σ.dirs)).2.dr b = some ⟨r, []⟩ ∧ (crashD σ names (keysOf σ.dirs)).2.dirs = σ.dirs ∧ (crashD σ names (keysOf σ.dirs)).2.mp = σ.mp ∧ (crashD σ names (keysOf σ.dirs)).2.fl = σ.fl := by
    rw [hk]
    have hds : crashD σ names [d] = if dd.was = [] then (0, σ) else (1, { σ with dr := upd σ.dr b ⟨(dd.was[turnV names 0 % (dd.was.length + 1)]?).getD dd.now, []⟩ }) := by
      show dstep names (0, σ) d = _
      unfold dstep
      simp only [hl, Option.bind_some, hd, Option.map_some]
    by_cases hw : dd.was = []
    · rw [if_pos hw] at hds
      rw [hds]
      exact ⟨dd.now, List.mem_cons_self, fun _ => rfl, by rw [hd, ← hw], rfl, rfl, rfl⟩
    · rw [if_neg hw] at hds
      rw [hds]
      refine ⟨(dd.was[turnV names 0 % (dd.was.length + 1)]?).getD dd.now, ?_, fun h => absurd h hw, upd_same _ _ _, rfl, rfl, rfl⟩
      cases hx : dd.was[turnV names 0 % (dd.was.length + 1)]? with
      | none => exact List.mem_cons_self
      | some r => exact List.mem_cons_of_mem _ (List.mem_of_getElem? hx)
  obtain ⟨r, hr, hnil, g1, g2, g3, g4⟩ := h1
  have key : ∀ w, (crashF (crashD σ names (keysOf σ.dirs)).2 keeps w).2.2.dirs = (crashD σ names (keysOf σ.dirs)).2.dirs ∧ (crashF (crashD σ names (keysOf σ.dirs)).2 keeps w).2.2.dr = (crashD σ names (keysOf σ.dirs)).2.dr ∧ (crashF (crashD σ names (keysOf σ.dirs)).2 keeps w).2.2.mp = (crashD σ names (keysOf σ.dirs)).2.mp := fun w => by
    induction w using snoc_ind with
    | h0 => exact ⟨rfl, rfl, rfl⟩
    | h1 w e ih =>
      rw [crashF_snoc]
      rcases cstep_cases keeps (crashF (crashD σ names (keysOf σ.dirs)).2 keeps w) e with h | ⟨c', h1, h2, h3, h⟩ <;> rw [h]
      · exact ih
      · exact ih
  obtain ⟨k1, k2, k3⟩ := key (walkL (crashD σ names (keysOf σ.dirs)).2)
  refine ⟨r, hr, ?_, ?_, ?_, hnil, fun x c hc hu => ?_⟩
  · show (crashF _ _ _).2.2.dr b = _
    rw [k2]; exact g1
  · show (crashF _ _ _).2.2.dirs = _
    rw [k1, g2, hdirs]
  · show (crashF _ _ _).2.2.mp = _
    rw [k3, g3]
  · exact crashF_keep (by rw [g4]; exact hc) hu _

end Go.V.Ytdeihieblljfcaa
set_option linter.unusedVariables false
set_option linter.unusedSimpArgs false
/-! The first example. -/
namespace Go.V.Ytdeihieblljfcaa
open Go Go.V

theorem Live.extS {S : Nat → Prop} {h0 h h' : Heap} {lab : Labs} {f D : Nat} {σ : Dk} {n : Nat} (L : Live h0 h lab f D σ n) (e : Ext S h h') (hS : ∀ i, S i → lab i = none ∧ h0.size ≤ i ∧ i ≠ 0) : Live h0 h' lab f D σ n :=
  ⟨⟨L.X.R.ext e fun i hi => (hS i hi).1, L.X.W, L.X.M.ext e fun h => (hS 0 h).2.2 rfl, L.X.l0⟩, L.G, L.q, ⟨L.fr.e.trans' e fun i hi hs => by have := (hS i hs).2.1; omega, L.fr.no⟩⟩

/-- Bytes that were just made. -/
theorem freshBytes {h0 h : Heap} {lab : Labs} {f D : Nat} {σ : Dk} {n : Nat} (L : Live h0 h lab f D σ n) (l : Tx) {K : Nat → Heap → Prop}
    (k : ∀ b h', Live h0 h' lab f D σ n → Arr 1 dF h' ⟨some (b, 0), l.length, l.length⟩ l → lab b = none → h.size ≤ b → K b h') :
    New 5 (l.flatMap dF) h fun b h1 => MarkC h1 (some (b, 0)) fun h2 => K b h2 := by
  refine New.mk fun b h1 hb hs1 e1 k1 => MarkC.mk rfl k1 fun h2 hs2 e2 hc => ?_
  have lb : lab b = none := L.X.R.free (by omega)
  have A := (Own.new dF_sized (l := l) k1).arr dF_sized
  have hz := L.fr.e.size
  have hM := L.X.M.lt
  refine k b h2 ((L.ext0 e1).extS e2 fun i hi => by rw [show i = b from hi]; exact ⟨lb, by omega, by omega⟩) ⟨A.len, A.ne, fun b' off hb' i x hx => ?_, A.pl⟩ lb (by omega)
  cases hb'
  exact hc _ _ (A.at_ b 0 rfl i x hx)

abbrev nD : Tx := [100]
abbrev nA : Tx := [97]
abbrev pDA : Tx := [100, 47, 97]
theorem calm_new (q : Int) : Calm (Dk.new q) := ⟨by show (0 : Int) < 1; omega, by show (0 : Int) < 1; omega⟩
theorem br_zero {i : Int} (hi : i = 0) {X Y : Prop} (y : Y) : Br (i != 0) X Y := Br.f (by rw [hi]; rfl) y

theorem c6 {h : Heap} (M : MaxL h) {R : Bool → Heap → Prop} (k : ∀ h', Ext0 h h' → R true h') : Call Go.Proofs.Try.prog 6 [] h [.one .bool] R := by
  refine ok6 (c7 M (fun x => by omega) fun _ _ f D lab h2 X2 e2 hno => ?_)
  have L2 : Live h h2 lab f D (Dk.new 100) 0 := ⟨X2, ⟨Few.new _, Fine.new _⟩, by show (100 : Int) ≤ 268435456; omega, ⟨e2, hno⟩⟩
  refine ⟨fun c hh => c = false ∧ ∃ lab σ b r x, Live h hh lab f D σ 30 ∧ σ.dirs = [(nD, b)] ∧ σ.dr b = some ⟨r, []⟩ ∧ σ.mp r = some [(nA, x)] ∧ σ.fl x = some ⟨[120, 121, 122], [(1, [85, 86])], [120, 85, 86]⟩, ?_, ?_⟩
  · refine br_zero rfl (Br.f rfl (L2.mkdir (l := nD) (by omega) fun r b h5 lab5 f1 f2 L5 => ?_))
    have hm : mkdirR (Dk.new 100) nD r b = (0, { Dk.new 100 with dirs := [(nD, b)], mp := upd (fun _ => none) r [], dr := upd (fun _ => none) b ⟨r, []⟩ }) := by
      rw [mkdirR_eq (by decide) rfl (by show (0 : Nat) < 64; omega), (calm_new 100).change]; rfl
    rw [hm] at L5 ⊢
    simp only at L5 ⊢
    generalize hσ1 : ({ Dk.new 100 with dirs := [(nD, b)], mp := upd (fun _ => none) r [], dr := upd (fun _ => none) b ⟨r, []⟩ } : Dk) = σ1 at L5
    have q1 : σ1.quota = 100 := by rw [← hσ1]; rfl
    have d1 : σ1.dirs = [(nD, b)] := by rw [← hσ1]
    have r1 : σ1.dr b = some ⟨r, []⟩ := by rw [← hσ1]; exact upd_same (fun _ => none) b (⟨r, []⟩ : Dr)
    have m1 : σ1.mp r = some [] := by rw [← hσ1]; exact upd_same (fun _ => none) r ([] : List (Tx × Nat))
    have calm1 : Calm σ1 := by rw [← hσ1]; exact calm_new 100
    have p1 : pathE σ1 pDA = (some (b, nA), 0) := pathE_two (by decide) (by decide) (by decide) (by rw [d1]; rfl)
    refine br_zero rfl (L5.create (l := pDA) (by omega) (by decide) fun r2 x h7 lab7 f3 f4 L7 => ?_)
    have hc : createR σ1 pDA r2 x = (0, { σ1.chg b ⟨r, []⟩ r2 [(nA, x)] with fl := upd σ1.fl x ⟨[], [], []⟩ }) := by
      rw [createR_eq p1 r1 m1 rfl (by decide), calm1.change]; rfl
    rw [hc] at L7 ⊢
    simp only at L7 ⊢
    generalize hσ2 : ({ σ1.chg b ⟨r, []⟩ r2 [(nA, x)] with fl := upd σ1.fl x ⟨[], [], []⟩ } : Dk) = σ2 at L7
    have q2 : σ2.quota = 100 := by rw [← hσ2]; exact q1
    have d2 : σ2.dirs = [(nD, b)] := by rw [← hσ2]; exact d1
    have r2' : σ2.dr b = some ⟨r2, [r]⟩ := by rw [← hσ2]; exact upd_same _ _ _
    have m2 : σ2.mp r2 = some [(nA, x)] := by rw [← hσ2]; exact upd_same _ _ _
    have x2 : σ2.fl x = some ⟨[], [], []⟩ := by rw [← hσ2]; exact upd_same _ _ _
    have calm2 : Calm σ2 := by rw [← hσ2]; exact calm1
    have p2 : pathE σ2 pDA = (some (b, nA), 0) := pathE_two (by decide) (by decide) (by decide) (by rw [d2]; rfl)
    have fe2 := fileE_two p2 r2' m2 (x := x) rfl
    have w2 : ∀ {τ : Dk} {c : Fl}, τ.dirs = [(nD, b)] → τ.dr b = some ⟨r2, [r]⟩ → τ.mp r2 = some [(nA, x)] → τ.fl x = some c → usedN τ = c.now.length := fun {τ c} a1 a2 a3 a4 => by
      have hk : keysOf τ.dirs = [nD] := by rw [a1]; exact sortT_eq (by simp)
      have hw : walkL τ = [(nD ++ 47 :: nA, x)] := by
        unfold walkL
        rw [hk, List.flatMap_cons, List.flatMap_nil, List.append_nil, walkD_eq (b := b) (by rw [a1]; rfl) a2 a3]
        rw [show keysOf [(nA, x)] = [nA] from sortT_eq (by simp)]
        rfl
      unfold usedN
      rw [hw]
      show ((distinct [x]).map τ.size).sum = _
      rw [show distinct [x] = [x] from rfl]
      simp [Dk.size, a4]
    refine br_zero rfl (freshBytes L7 [120, 121, 122] fun b8 h10 L10 A10 lb8 _ => ?_)
    refine L10.append (l := pDA) (by omega) (by decide) A10 (Nat.le_refl _) (fun y off hy => by cases hy; exact .inl lb8) (by decide) fun h12 lab12 L12 s12 => ?_
    obtain ⟨b', hap, hb'⟩ := appendR_eq (b := [120, 121, 122]) fe2 x2 (by rw [w2 d2 r2' m2 x2, q2]; decide)
    rw [calm2.change] at hap hb'
    rw [hb' rfl, if_pos ⟨.inl rfl, by simp⟩] at hap
    rw [hap] at L12 ⊢
    simp only at L12 ⊢
    generalize hσ3 : ({ σ2 with fl := upd σ2.fl x ⟨[], [] ++ [(([] : Tx).length, [120, 121, 122])], overL ([] : Tx).length [120, 121, 122] []⟩ } : Dk) = σ3 at L12
    have q3 : σ3.quota = 100 := by rw [← hσ3]; exact q2
    have d3 : σ3.dirs = [(nD, b)] := by rw [← hσ3]; exact d2
    have r3 : σ3.dr b = some ⟨r2, [r]⟩ := by rw [← hσ3]; exact r2'
    have m3 : σ3.mp r2 = some [(nA, x)] := by rw [← hσ3]; exact m2
    have x3 : σ3.fl x = some ⟨[], [(0, [120, 121, 122])], [120, 121, 122]⟩ := by rw [← hσ3]; exact upd_same _ _ _
    have calm3 : Calm σ3 := by rw [← hσ3]; exact calm2
    have p3 : pathE σ3 pDA = (some (b, nA), 0) := pathE_two (by decide) (by decide) (by decide) (by rw [d3]; rfl)
    have fe3 := fileE_two p3 r3 m3 (x := x) rfl
    refine br_zero rfl (L12.sync (l := pDA) (by omega) (by decide) fun h14 L14 => ?_)
    have hs : syncR σ3 pDA = (0, { σ3 with fl := upd σ3.fl x ⟨[120, 121, 122], [], [120, 121, 122]⟩ }) := by
      rw [syncR_eq fe3 x3, calm3.change]; rfl
    rw [hs] at L14 ⊢
    simp only at L14 ⊢
    generalize hσ4 : ({ σ3 with fl := upd σ3.fl x ⟨[120, 121, 122], [], [120, 121, 122]⟩ } : Dk) = σ4 at L14
    have q4 : σ4.quota = 100 := by rw [← hσ4]; exact q3
    have d4 : σ4.dirs = [(nD, b)] := by rw [← hσ4]; exact d3
    have r4 : σ4.dr b = some ⟨r2, [r]⟩ := by rw [← hσ4]; exact r3
    have m4 : σ4.mp r2 = some [(nA, x)] := by rw [← hσ4]; exact m3
    have x4 : σ4.fl x = some ⟨[120, 121, 122], [], [120, 121, 122]⟩ := by rw [← hσ4]; exact upd_same _ _ _
    have calm4 : Calm σ4 := by rw [← hσ4]; exact calm3
    have p4 : pathE σ4 pDA = (some (b, nA), 0) := pathE_two (by decide) (by decide) (by decide) (by rw [d4]; rfl)
    have fe4 := fileE_two p4 r4 m4 (x := x) rfl
    refine br_zero rfl (freshBytes L14 [85, 86] fun b15 h17 L17 A17 lb15 _ => ?_)
    refine L17.write (l := pDA) (by omega) (by decide) (i := 1) (by omega) (by omega) A17 (Nat.le_refl _) (fun y off hy => by cases hy; exact .inl lb15) (by decide) fun h19 lab19 L19 s19 => ?_
    have hwr : writeR σ4 pDA 1 [85, 86] = (0, { σ4 with fl := upd σ4.fl x ⟨[120, 121, 122], [(1, [85, 86])], [120, 85, 86]⟩ }) := by
      unfold writeR; rw [fe4]; simp only
      unfold writesR; simp only [x4]
      rw [if_neg (by decide), if_neg (by rw [w2 d4 r4 m4 x4, q4]; decide), calm4.change]; rfl
    rw [hwr] at L19 ⊢
    simp only at L19 ⊢
    generalize hσ5 : ({ σ4 with fl := upd σ4.fl x ⟨[120, 121, 122], [(1, [85, 86])], [120, 85, 86]⟩ } : Dk) = σ5 at L19
    have d5 : σ5.dirs = [(nD, b)] := by rw [← hσ5]; exact d4
    have r5 : σ5.dr b = some ⟨r2, [r]⟩ := by rw [← hσ5]; exact r4
    have m5 : σ5.mp r2 = some [(nA, x)] := by rw [← hσ5]; exact m4
    have x5 : σ5.fl x = some ⟨[120, 121, 122], [(1, [85, 86])], [120, 85, 86]⟩ := by rw [← hσ5]; exact upd_same _ _ _
    have calm5 : Calm σ5 := by rw [← hσ5]; exact calm4
    refine br_zero rfl (L19.syncDir (l := nD) (by omega) fun h21 L21 => ?_)
    have hsd : syncDirR σ5 nD = (0, { σ5 with dr := upd σ5.dr b ⟨r2, []⟩ }) := by
      rw [syncDirR_eq (by decide) (by rw [d5]; rfl) r5, calm5.change]; rfl
    rw [hsd] at L21 ⊢
    exact ⟨rfl, lab19, _, b, r2, x, L21.mono (by omega), d5, upd_same _ _ _, m5, x5⟩
  · rintro c h23 ⟨rfl, lab, σ, b, r, x, L, d1, r1, m1, x1⟩
    refine Br.f rfl (New.mk fun b24 h25 hb24 hs25 e25 k25 => ?_)
    have L25 := L.ext0 e25
    refine L25.crash (by omega) (keeps := [1]) (names := []) ((Own.new iF_sized (l := [1]) k25).arr iF_sized) (Arr.nil 1 iF h25 0) (fun y off hy => by cases hy; exact ⟨L.X.R.free (by omega), by omega⟩) (fun y off hy => by cases hy) (by decide) (by decide) fun h26 lab26 L26 => ?_
    have hk : keysOf σ.dirs = [nD] := by rw [d1]; exact sortT_eq (by simp)
    have hcd : crashD σ [] (keysOf σ.dirs) = (0, σ) := by
      rw [hk]
      show dstep [] (0, σ) nD = _
      unfold dstep
      simp only [d1, show look nD [(nD, b)] = some b from rfl, Option.bind_some, r1, Option.map_some, if_pos]
    have hwk : walkL σ = [(nD ++ 47 :: nA, x)] := by
      unfold walkL
      rw [hk, List.flatMap_cons, List.flatMap_nil, List.append_nil, walkD_eq (b := b) (by rw [d1]; rfl) r1 m1]
      rw [show keysOf [(nA, x)] = [nA] from sortT_eq (by simp)]
      rfl
    have hcr : crashR σ [1] [] = { σ with fl := upd σ.fl x ⟨[120, 85, 122], [], [120, 85, 122]⟩, fail := ⟨0, 0, 0⟩, stop := ⟨0, 0, 0⟩ } := by
      unfold crashR
      rw [hcd]
      simp only [hwk]
      have : crashF σ [1] [(nD ++ 47 :: nA, x)] = ([x], 1, { σ with fl := upd σ.fl x ⟨[120, 85, 122], [], [120, 85, 122]⟩ }) := by
        show cstep [1] ([], 0, σ) (nD ++ 47 :: nA, x) = _
        unfold cstep
        simp only [x1]
        rfl
      rw [this]
    rw [hcr] at L26
    generalize hσ2 : ({ σ with fl := upd σ.fl x ⟨[120, 85, 122], [], [120, 85, 122]⟩, fail := ⟨0, 0, 0⟩, stop := ⟨0, 0, 0⟩ } : Dk) = σ2 at L26
    have d2 : σ2.dirs = [(nD, b)] := by rw [← hσ2]; exact d1
    have r2 : σ2.dr b = some ⟨r, []⟩ := by rw [← hσ2]; exact r1
    have m2 : σ2.mp r = some [(nA, x)] := by rw [← hσ2]; exact m1
    have x2 : σ2.fl x = some ⟨[120, 85, 122], [], [120, 85, 122]⟩ := by rw [← hσ2]; exact upd_same _ _ _
    have p2 : pathE σ2 pDA = (some (b, nA), 0) := pathE_two (by decide) (by decide) (by decide) (by rw [d2]; rfl)
    have fe2 := fileE_two p2 r2 m2 (x := x) rfl
    refine L26.read (l := pDA) (by decide) fun s27 h29 o29 f29 L29 => ?_
    rw [readE_eq fe2 x2] at o29 ⊢
    refine Br.t rfl ⟨tx [120, 85, 122], (o29.arr dF_sized).bytes (fun _ => rfl), ?_⟩
    have : strEq (tx [120, 85, 122]) (ByteArray.mk #[(120 : UInt8), (85 : UInt8), (122 : UInt8)]) = true := by
      rw [show (ByteArray.mk #[(120 : UInt8), (85 : UInt8), (122 : UInt8)]) = tx [120, 85, 122] from rfl, tx_eq]; simp
    rw [this]
    exact k h29 L29.fr.e

end Go.V.Ytdeihieblljfcaa
set_option linter.unusedVariables false
set_option linter.unusedSimpArgs false
/-! DiskWhole. -/
namespace Go.V.Ytdeihieblljfcaa
open Go Go.V

theorem usedN_small {σ : Dk} {d : Tx} {b : Nat} {dd : Dr} {m : List (Tx × Nat)} {M : Nat} (hdirs : σ.dirs = [(d, b)]) (hd : σ.dr b = some dd) (hm : σ.mp dd.now = some m) (hs : ∀ p ∈ m, σ.size p.2 ≤ M) : usedN σ ≤ m.length * M := by
  have hk : keysOf σ.dirs = [d] := by rw [hdirs]; exact sortT_eq (by simp)
  have hw : walkL σ = (keysOf m).map fun n => (d ++ 47 :: n, (look n m).getD 0) := by
    unfold walkL
    rw [hk, List.flatMap_cons, List.flatMap_nil, List.append_nil, walkD_eq (b := b) (by rw [hdirs]; simp [look]) hd hm]
  unfold usedN sizes
  have h1 := sum_le (l := (distinct ((walkL σ).map (·.2))).map σ.size) (m := M) fun y hy => by
    obtain ⟨x, hx, rfl⟩ := List.mem_map.1 hy
    rw [mem_distinct, hw, List.map_map] at hx
    obtain ⟨n, hn, rfl⟩ := List.mem_map.1 hx
    obtain ⟨z, hz⟩ := look_isSome (keysOf_mem.1 hn)
    show σ.size ((look n m).getD 0) ≤ M
    rw [hz]
    exact hs _ (look_mem hz)
  have h2 := distinct_len ((walkL σ).map (·.2))
  rw [List.length_map] at h1 h2
  have h3 : (walkL σ).length = m.length := by rw [hw, List.length_map, keysOf_len]
  rw [h3] at h2
  exact Nat.le_trans h1 (Nat.mul_le_mul_right _ h2)

theorem renameR_eq {σ : Dk} {l l' x y : Tx} {b it : Nat} {dd : Dr} {m : List (Tx × Nat)} (hp : pathE σ l = (some (b, x), 0)) (hp' : pathE σ l' = (some (b, y), 0)) (hd : σ.dr b = some dd) (hm : σ.mp dd.now = some m) (hx : look x m = some it) (hl : l ≠ l') (r1 r2 : Nat) :
    renameR σ l l' r1 r2 = if σ.change.1 ≠ 0 then (σ.change.1, σ.change.2.2) else (0, σ.change.2.2.chg b dd r1 (putN y it (delN x m))) := by
  have hat : σ.at b = some (dd, m) := Dk.at_some.2 ⟨hd, hm⟩
  have h2 : twoE σ l l' = (some (b, x, b, y, it), 0) := by unfold twoE; rw [hp]; simp only [hp', hat, hx]
  unfold renameR; rw [h2]; simp only [hat]
  rw [if_neg (fun z => z.2.1 rfl)]
  by_cases hc : σ.change.1 ≠ 0
  · rw [if_pos (.inl hc), if_pos hc]
  · rw [if_neg (fun z => z.elim hc hl), if_neg hc, if_pos trivial]

abbrev nIt : Tx := [105, 116]
abbrev nNew : Tx := [105, 116, 46, 110, 101, 119]
abbrev pIt : Tx := [100, 47, 105, 116]
abbrev pNew : Tx := [100, 47, 105, 116, 46, 110, 101, 119]

/-- In each of a directory's maps the file is one of two, and lies fast. -/
def WH (σ : Dk) (b : Nat) (old fresh : Tx) (c : Bool) : Prop :=
  σ.dirs = [(nD, b)] ∧ ∃ dd, σ.dr b = some dd ∧ ∀ r ∈ dd.now :: dd.was, ∃ m y t, σ.mp r = some m ∧ look nIt m = some y ∧ σ.fl y = some ⟨t, [], t⟩ ∧ (t = old ∨ t = fresh) ∧ (c = true → t = fresh)

theorem WH.crash {σ : Dk} {b : Nat} {old fresh : Tx} {c : Bool} (h : WH σ b old fresh c) (keeps names : List Int) : ∃ t, readE (crashR σ keeps names) pIt = (t, 0) ∧ (t = old ∨ t = fresh) ∧ (c = true → t = fresh) := by
  obtain ⟨hd, dd, hdd, hr⟩ := h
  obtain ⟨r, h1, h2, h3, h4, h5, h6⟩ := crashR_dir (keeps := keeps) (names := names) hd hdd
  obtain ⟨m, y, t, g1, g2, g3, g4, g5⟩ := hr r h1
  have hf := h6 y _ g3 rfl
  have p : pathE (crashR σ keeps names) pIt = (some (b, nIt), 0) := pathE_two (by decide) (by decide) (by decide) (by rw [h3]; rfl)
  exact ⟨t, readE_eq (fileE_two p h2 (by rw [h4]; exact g1) g2) hf, g4, g5⟩

/-- How the disk begins: the file is there, and fast. -/
structure S0 (σ : Dk) (b r x : Nat) (old : Tx) : Prop where
  hq : σ.quota = 268435456
  hd : σ.dirs = [(nD, b)]
  hr : σ.dr b = some ⟨r, []⟩
  hm : σ.mp r = some [(nIt, x)]
  hx : σ.fl x = some ⟨old, [], old⟩

theorem c3 {h : Heap} (M : MaxL h) {s0 s1 s3 s4 : Slc} {old fresh : Tx} {keeps names : List Int} {stop : Int} (A0 : Arr 1 dF h s0 old) (A1 : Arr 1 dF h s1 fresh) (A3 : Arr 1 iF h s3 keeps) (A4 : Arr 1 iF h s4 names)
    (c0 : s0.len ≤ s0.cap) (c1 : s1.len ≤ s1.cap) (b0 : ∀ b off, s0.a = some (b, off) → b < h.size) (b1 : ∀ b off, s1.a = some (b, off) → b < h.size) (b3 : ∀ b off, s3.a = some (b, off) → b < h.size) (b4 : ∀ b off, s4.a = some (b, off) → b < h.size)
    (hs1 : -9223372036854775808 ≤ stop) (hs2 : stop ≤ 9223372036854775807) (hl3 : keeps.length ≤ 4611686018427387904) (hl4 : names.length ≤ 4611686018427387904) {R : Bool → Heap → Prop} (k : ∀ h', Ext0 h h' → R true h') :
    Call Go.Proofs.Try.prog 3 [.lf (.slc s0), .lf (.slc s1), .lf (.int .i64 stop), .lf (.slc s3), .lf (.slc s4)] h [.one .bool] R := by
  have hl0 := A0.len
  have hl1 := A1.len
  refine ok3 (c6 M fun h1 e1 => Br.f rfl ?_)
  refine ⟨fun c hh => hh = h1 ∧ (c = true ↔ (old.length > 4194304 ∨ fresh.length > 4194304)), Br.dec (fun x => ⟨rfl, fun _ => .inl (by omega), fun _ => rfl⟩) fun x => ⟨rfl, by rw [decide_eq_true_eq]; omega⟩, ?_⟩
  rintro c h4 ⟨rfl, hc⟩
  refine Br.mk (fun _ => k h4 e1) fun hcf => ?_
  have hsm : ¬ (old.length > 4194304 ∨ fresh.length > 4194304) := fun z => by rw [hc.2 z] at hcf; cases hcf
  have M4 : MaxL h4 := M.ext e1 id
  refine c7 M4 (fun x => by omega) fun _ _ f D lab h7 X7 e7 hno => ?_
  have L7 : Live h4 h7 lab f D (Dk.new 268435456) 0 := ⟨X7, ⟨Few.new _, Fine.new _⟩, Int.le_refl _, ⟨e7, hno⟩⟩
  -- What stands of the arguments.
  have arg : ∀ {hh : Heap} {lb : Labs}, Fr h4 lb hh → ∀ {s : Slc} {l : Tx}, Arr 1 dF h s l → Arr 1 dF hh s l := fun {hh lb} F {s l} A => (A.ext0 e1).ext0 F.e
  have argL : ∀ {hh : Heap} {lb : Labs}, Fr h4 lb hh → ∀ {s : Slc}, (∀ b off, s.a = some (b, off) → b < h.size) → ∀ b off, s.a = some (b, off) → lb b = none ∧ b < hh.size := fun {hh lb} F {s} hb b off hs => by
    have := hb b off hs; have := e1.size; have := F.e.size
    exact ⟨F.no b (by omega), by omega⟩
  refine ⟨fun c hh => c = false ∧ ∃ lab σ b r x, Live h4 hh lab f D σ 40 ∧ S0 σ b r x old, ?_, ?_⟩
  · refine br_zero rfl (Br.f rfl (L7.mkdir (l := nD) (by omega) fun r b h5 lab5 f1 f2 L5 => ?_))
    have hm : mkdirR (Dk.new 268435456) nD r b = (0, { Dk.new 268435456 with dirs := [(nD, b)], mp := upd (fun _ => none) r [], dr := upd (fun _ => none) b ⟨r, []⟩ }) := by
      rw [mkdirR_eq (by decide) rfl (by show (0 : Nat) < 64; omega), (calm_new 268435456).change]; rfl
    rw [hm] at L5 ⊢
    simp only at L5 ⊢
    generalize hσ1 : ({ Dk.new 268435456 with dirs := [(nD, b)], mp := upd (fun _ => none) r [], dr := upd (fun _ => none) b ⟨r, []⟩ } : Dk) = σ1 at L5
    have q1 : σ1.quota = 268435456 := by rw [← hσ1]; rfl
    have d1 : σ1.dirs = [(nD, b)] := by rw [← hσ1]
    have r1 : σ1.dr b = some ⟨r, []⟩ := by rw [← hσ1]; exact upd_same (fun _ => none) b (⟨r, []⟩ : Dr)
    have m1 : σ1.mp r = some [] := by rw [← hσ1]; exact upd_same (fun _ => none) r ([] : List (Tx × Nat))
    have calm1 : Calm σ1 := by rw [← hσ1]; exact calm_new 268435456
    have p1 : pathE σ1 pIt = (some (b, nIt), 0) := pathE_two (by decide) (by decide) (by decide) (by rw [d1]; rfl)
    refine br_zero rfl (L5.create (l := pIt) (by omega) (by decide) fun r2 x h7 lab7 f3 f4 L7 => ?_)
    have hc : createR σ1 pIt r2 x = (0, { σ1.chg b ⟨r, []⟩ r2 [(nIt, x)] with fl := upd σ1.fl x ⟨[], [], []⟩ }) := by
      rw [createR_eq p1 r1 m1 rfl (by decide), calm1.change]; rfl
    rw [hc] at L7 ⊢
    simp only at L7 ⊢
    generalize hσ2 : ({ σ1.chg b ⟨r, []⟩ r2 [(nIt, x)] with fl := upd σ1.fl x ⟨[], [], []⟩ } : Dk) = σ2 at L7
    have q2 : σ2.quota = 268435456 := by rw [← hσ2]; exact q1
    have d2 : σ2.dirs = [(nD, b)] := by rw [← hσ2]; exact d1
    have r2' : σ2.dr b = some ⟨r2, [r]⟩ := by rw [← hσ2]; exact upd_same _ _ _
    have m2 : σ2.mp r2 = some [(nIt, x)] := by rw [← hσ2]; exact upd_same _ _ _
    have x2 : σ2.fl x = some ⟨[], [], []⟩ := by rw [← hσ2]; exact upd_same _ _ _
    have calm2 : Calm σ2 := by rw [← hσ2]; exact calm1
    have p2 : pathE σ2 pIt = (some (b, nIt), 0) := pathE_two (by decide) (by decide) (by decide) (by rw [d2]; rfl)
    have fe2 := fileE_two p2 r2' m2 (x := x) rfl
    refine br_zero rfl ?_
    refine L7.append (l := pIt) (by omega) (by decide) (arg L7.fr A0) c0 (fun y off hy => .inl (argL L7.fr b0 y off hy).1) (by omega) fun h12 lab12 L12 s12 => ?_
    have u2 : usedN σ2 ≤ 1 * 0 := usedN_small d2 r2' m2 fun p hp => by
      rw [List.mem_singleton.1 hp]
      show σ2.size x ≤ 0
      unfold Dk.size; rw [x2]; exact Nat.le_refl _
    obtain ⟨b', hap, hb'⟩ := appendR_eq (b := old) fe2 x2 (by rw [q2]; omega)
    rw [calm2.change] at hap hb'
    rw [hb' rfl] at hap
    simp only [true_or, true_and] at hap
    have hx3 : ∃ o, (appendR σ2 pIt old).2.fl x = some ⟨[], o, old⟩ := by
      rw [hap]; simp only
      split
      · exact ⟨_, by show upd _ _ _ _ = _; rw [upd_same, over_end]; rfl⟩
      · rename_i h0
        have h0 : old = [] := Classical.byContradiction h0
        exact ⟨[], by rw [h0]; exact x2⟩
    have hk3 : (appendR σ2 pIt old).2.quota = 268435456 ∧ (appendR σ2 pIt old).2.dirs = [(nD, b)] ∧ (appendR σ2 pIt old).2.dr b = some ⟨r2, [r]⟩ ∧ (appendR σ2 pIt old).2.mp r2 = some [(nIt, x)] ∧ Calm (appendR σ2 pIt old).2 := by
      rw [hap]; simp only
      split <;> exact ⟨q2, d2, r2', m2, calm2⟩
    have h1 : (appendR σ2 pIt old).1 = 0 := by rw [hap]
    rw [h1]
    generalize (appendR σ2 pIt old).2 = σ3 at hx3 hk3 L12
    obtain ⟨o, x3⟩ := hx3
    obtain ⟨q3, d3, r3, m3, calm3⟩ := hk3
    have p3 : pathE σ3 pIt = (some (b, nIt), 0) := pathE_two (by decide) (by decide) (by decide) (by rw [d3]; rfl)
    have fe3 := fileE_two p3 r3 m3 (x := x) rfl
    refine br_zero rfl (L12.sync (l := pIt) (by omega) (by decide) fun h14 L14 => ?_)
    have hs : syncR σ3 pIt = (0, { σ3 with fl := upd σ3.fl x ⟨old, [], old⟩ }) := by
      rw [syncR_eq fe3 x3, calm3.change]; rfl
    rw [hs] at L14 ⊢
    simp only at L14 ⊢
    generalize hσ4 : ({ σ3 with fl := upd σ3.fl x ⟨old, [], old⟩ } : Dk) = σ4 at L14
    have q4 : σ4.quota = 268435456 := by rw [← hσ4]; exact q3
    have d4 : σ4.dirs = [(nD, b)] := by rw [← hσ4]; exact d3
    have r4 : σ4.dr b = some ⟨r2, [r]⟩ := by rw [← hσ4]; exact r3
    have m4 : σ4.mp r2 = some [(nIt, x)] := by rw [← hσ4]; exact m3
    have x4 : σ4.fl x = some ⟨old, [], old⟩ := by rw [← hσ4]; exact upd_same _ _ _
    have calm4 : Calm σ4 := by rw [← hσ4]; exact calm3
    refine br_zero rfl (L14.syncDir (l := nD) (by omega) fun h21 L21 => ?_)
    have hsd : syncDirR σ4 nD = (0, { σ4 with dr := upd σ4.dr b ⟨r2, []⟩ }) := by
      rw [syncDirR_eq (by decide) (by rw [d4]; rfl) r4, calm4.change]; rfl
    rw [hsd] at L21 ⊢
    exact ⟨rfl, lab12, _, b, r2, x, L21.mono (by omega), ⟨q4, d4, upd_same _ _ _, m4, x4⟩⟩
  rintro c h20 ⟨rfl, lab0, σ0, b, r, x, L0, S⟩
  refine Br.f rfl (L0.stop hs1 hs2 fun h21 L1 => ?_)
  generalize hσ1 : ({ σ0 with stop := ⟨stop, -1, 0⟩ } : Dk) = σ1 at L1
  have T : S0 σ1 b r x old := by rw [← hσ1]; exact ⟨S.hq, S.hd, S.hr, S.hm, S.hx⟩
  refine ⟨fun c hh => ∃ lab σ, Live h4 hh lab f D σ 80 ∧ WH σ b old fresh c, ?_, ?_⟩
  · have p1 : pathE σ1 pNew = (some (b, nNew), 0) := pathE_two (by decide) (by decide) (by decide) (by rw [T.hd]; rfl)
    have base : ∀ {τ : Dk}, τ.dirs = σ1.dirs → τ.dr = σ1.dr → τ.mp = σ1.mp → τ.fl = σ1.fl → WH τ b old fresh false := fun {τ} a1 a2 a3 a4 => by
      refine ⟨a1.trans T.hd, ⟨r, []⟩, by rw [a2]; exact T.hr, fun r' hr' => ?_⟩
      rw [List.mem_singleton.1 hr']
      exact ⟨_, x, old, by rw [a3]; exact T.hm, rfl, by rw [a4]; exact T.hx, .inl rfl, fun z => by cases z⟩
    refine L1.create (l := pNew) (by omega) (by decide) fun r2 x2 h24 lab24 f1 f2 L24 => ?_
    rw [createR_eq p1 T.hr T.hm rfl (by simp)] at L24 ⊢
    by_cases he1 : σ1.change.1 ≠ 0
    · rw [if_pos he1] at L24 ⊢
      exact Br.f (by simpa using he1) ⟨_, _, L24.mono (by omega), base rfl rfl rfl rfl⟩
    rw [if_neg he1] at L24 ⊢
    simp only at L24 ⊢
    refine Br.t rfl ?_
    have hpu : putN nNew x2 [(nIt, x)] = [(nIt, x), (nNew, x2)] := rfl
    rw [hpu] at L24
    have hxx : x ≠ x2 := fun z => by rw [← z, T.hx] at f2; cases f2
    have hrr : r ≠ r2 := fun z => by rw [← z, T.hm] at f1; cases f1
    generalize hσ2 : ({ σ1.change.2.2.chg b ⟨r, []⟩ r2 [(nIt, x), (nNew, x2)] with fl := upd σ1.fl x2 ⟨[], [], []⟩ } : Dk) = σ2 at L24
    have q2 : σ2.quota = 268435456 := by rw [← hσ2]; exact T.hq
    have d2 : σ2.dirs = [(nD, b)] := by rw [← hσ2]; exact T.hd
    have r2' : σ2.dr b = some ⟨r2, [r]⟩ := by rw [← hσ2]; exact upd_same _ _ _
    have m2 : σ2.mp r2 = some [(nIt, x), (nNew, x2)] := by rw [← hσ2]; exact upd_same _ _ _
    have m2' : σ2.mp r = some [(nIt, x)] := by rw [← hσ2]; show upd _ _ _ _ = _; rw [upd_ne hrr]; exact T.hm
    have x2n : σ2.fl x2 = some ⟨[], [], []⟩ := by rw [← hσ2]; exact upd_same _ _ _
    have x2o : σ2.fl x = some ⟨old, [], old⟩ := by rw [← hσ2]; show upd _ _ _ _ = _; rw [upd_ne hxx]; exact T.hx
    have wh2 : ∀ {τ : Dk}, τ.dirs = [(nD, b)] → τ.dr b = some ⟨r2, [r]⟩ → τ.mp r2 = some [(nIt, x), (nNew, x2)] → τ.mp r = some [(nIt, x)] → τ.fl x = some ⟨old, [], old⟩ → WH τ b old fresh false := fun {τ} a1 a2 a3 a4 a5 => by
      refine ⟨a1, _, a2, fun r' hr' => ?_⟩
      rcases List.mem_cons.1 hr' with rfl | hr'
      · exact ⟨_, x, old, a3, rfl, a5, .inl rfl, fun z => by cases z⟩
      · rw [List.mem_singleton.1 hr']
        exact ⟨_, x, old, a4, rfl, a5, .inl rfl, fun z => by cases z⟩
    have p2 : ∀ {τ : Dk}, τ.dirs = [(nD, b)] → pathE τ pNew = (some (b, nNew), 0) ∧ pathE τ pIt = (some (b, nIt), 0) := fun {τ} a1 =>
      ⟨pathE_two (by decide) (by decide) (by decide) (by rw [a1]; rfl), pathE_two (by decide) (by decide) (by decide) (by rw [a1]; rfl)⟩
    have hlk : look nNew [(nIt, x), (nNew, x2)] = some x2 := rfl
    have fe2 := fileE_two (p2 d2).1 r2' m2 hlk
    -- Append.
    refine L24.append (l := pNew) (by omega) (by decide) (arg L24.fr A1) c1 (fun y off hy => .inl (argL L24.fr b1 y off hy).1) (by omega) fun h26 lab26 L26 s26 => ?_
    have u2 : usedN σ2 ≤ 2 * 4194304 := usedN_small d2 r2' m2 fun p hp => by
      rcases List.mem_cons.1 hp with rfl | hp
      · show σ2.size x ≤ _
        unfold Dk.size; rw [x2o]; show old.length ≤ _; omega
      · rw [List.mem_singleton.1 hp]
        show σ2.size x2 ≤ _
        unfold Dk.size; rw [x2n]; show (0 : Nat) ≤ _; omega
    obtain ⟨b', hap, hb'⟩ := appendR_eq (b := fresh) fe2 x2n (by rw [q2]; omega)
    have k3 : (appendR σ2 pNew fresh).2.dirs = [(nD, b)] ∧ (appendR σ2 pNew fresh).2.dr b = some ⟨r2, [r]⟩ ∧ (appendR σ2 pNew fresh).2.mp r2 = some [(nIt, x), (nNew, x2)] ∧ (appendR σ2 pNew fresh).2.mp r = some [(nIt, x)] ∧ (appendR σ2 pNew fresh).2.fl x = some ⟨old, [], old⟩ := by
      rw [hap]; simp only
      split
      · exact ⟨d2, r2', m2, m2', by show upd _ _ _ _ = _; rw [upd_ne hxx]; exact x2o⟩
      · exact ⟨d2, r2', m2, m2', x2o⟩
    have h1 : (appendR σ2 pNew fresh).1 = σ2.change.1 := by rw [hap]
    have x3 : σ2.change.1 = 0 → ∃ o, (appendR σ2 pNew fresh).2.fl x2 = some ⟨[], o, fresh⟩ := fun h0 => by
      have hb := hb' (change_half h0)
      rw [hap]; simp only [h0, true_or, true_and, hb]
      split
      · exact ⟨_, by show upd _ _ _ _ = _; rw [upd_same, over_end]; rfl⟩
      · rename_i hf
        have hf : fresh = [] := Classical.byContradiction hf
        exact ⟨[], by rw [hf]; exact x2n⟩
    rw [h1]
    generalize (appendR σ2 pNew fresh).2 = σ3 at k3 x3 L26
    obtain ⟨d3, r3, m3, m3', x3o⟩ := k3
    refine Br.eq (fun he2 => ?_) fun he2 => ⟨_, _, L26.mono (by omega), wh2 d3 r3 m3 m3' x3o⟩
    obtain ⟨o, x3n⟩ := x3 he2
    have fe3 := fileE_two (p2 d3).1 r3 m3 hlk
    -- Sync.
    refine L26.sync (l := pNew) (by omega) (by decide) fun h28 L28 => ?_
    rw [syncR_eq fe3 x3n] at L28 ⊢
    by_cases he3 : σ3.change.1 ≠ 0
    · rw [if_pos he3] at L28 ⊢
      exact Br.f (by simpa using he3) ⟨_, _, L28.mono (by omega), wh2 d3 r3 m3 m3' x3o⟩
    rw [if_neg he3] at L28 ⊢
    simp only at L28 ⊢
    refine Br.t rfl ?_
    generalize hσ4 : ({ σ3.change.2.2 with fl := upd σ3.fl x2 ⟨fresh, [], fresh⟩ } : Dk) = σ4 at L28
    have d4 : σ4.dirs = [(nD, b)] := by rw [← hσ4]; exact d3
    have r4 : σ4.dr b = some ⟨r2, [r]⟩ := by rw [← hσ4]; exact r3
    have m4 : σ4.mp r2 = some [(nIt, x), (nNew, x2)] := by rw [← hσ4]; exact m3
    have m4' : σ4.mp r = some [(nIt, x)] := by rw [← hσ4]; exact m3'
    have x4n : σ4.fl x2 = some ⟨fresh, [], fresh⟩ := by rw [← hσ4]; exact upd_same _ _ _
    have x4o : σ4.fl x = some ⟨old, [], old⟩ := by rw [← hσ4]; show upd _ _ _ _ = _; rw [upd_ne hxx]; exact x3o
    -- Rename.
    refine L28.rename (l := pNew) (l' := pIt) (by omega) (by decide) (by decide) fun r3' r4' h30 lab30 g1 g2 hne L30 => ?_
    rw [renameR_eq (p2 d4).1 (p2 d4).2 r4 m4 hlk (by decide)] at L30 ⊢
    by_cases he4 : σ4.change.1 ≠ 0
    · rw [if_pos he4] at L30 ⊢
      exact Br.f (by simpa using he4) ⟨_, _, L30.mono (by omega), wh2 d4 r4 m4 m4' x4o⟩
    rw [if_neg he4] at L30 ⊢
    simp only at L30 ⊢
    refine Br.t rfl ?_
    have hpd : putN nIt x2 (delN nNew [(nIt, x), (nNew, x2)]) = [(nIt, x2)] := rfl
    rw [hpd] at L30
    have n1 : r2 ≠ r3' := fun z => by rw [← z, m4] at g1; cases g1
    have n2 : r ≠ r3' := fun z => by rw [← z, m4'] at g1; cases g1
    generalize hσ5 : σ4.change.2.2.chg b ⟨r2, [r]⟩ r3' [(nIt, x2)] = σ5 at L30
    have d5 : σ5.dirs = [(nD, b)] := by rw [← hσ5]; exact d4
    have r5 : σ5.dr b = some ⟨r3', [r, r2]⟩ := by rw [← hσ5]; exact upd_same _ _ _
    have m5 : σ5.mp r3' = some [(nIt, x2)] := by rw [← hσ5]; exact upd_same _ _ _
    have m5a : σ5.mp r2 = some [(nIt, x), (nNew, x2)] := by rw [← hσ5]; show upd _ _ _ _ = _; rw [upd_ne n1]; exact m4
    have m5b : σ5.mp r = some [(nIt, x)] := by rw [← hσ5]; show upd _ _ _ _ = _; rw [upd_ne n2]; exact m4'
    have x5n : σ5.fl x2 = some ⟨fresh, [], fresh⟩ := by rw [← hσ5]; exact x4n
    have x5o : σ5.fl x = some ⟨old, [], old⟩ := by rw [← hσ5]; exact x4o
    refine L30.syncDir (l := nD) (by omega) fun h32 L32 => ?_
    rw [syncDirR_eq (by decide) (by rw [d5]; rfl) r5] at L32 ⊢
    by_cases he5 : σ5.change.1 ≠ 0
    · rw [if_pos he5] at L32 ⊢
      have hz : (σ5.change.1 == 0) = false := by simpa using he5
      refine ⟨_, _, L32.mono (by omega), ?_⟩
      rw [hz]
      refine ⟨d5, _, r5, fun r' hr' => ?_⟩
      rcases List.mem_cons.1 hr' with rfl | hr'
      · exact ⟨_, x2, fresh, m5, rfl, x5n, .inr rfl, fun z => by cases z⟩
      · rcases List.mem_cons.1 hr' with rfl | hr'
        · exact ⟨_, x, old, m5b, rfl, x5o, .inl rfl, fun z => by cases z⟩
        · rw [List.mem_singleton.1 hr']
          exact ⟨_, x, old, m5a, rfl, x5o, .inl rfl, fun z => by cases z⟩
    · rw [if_neg he5] at L32 ⊢
      refine ⟨_, _, L32.mono (by omega), d5, ⟨r3', []⟩, upd_same _ _ _, fun r' hr' => ?_⟩
      rw [List.mem_singleton.1 hr']
      exact ⟨_, x2, fresh, m5, rfl, x5n, .inr rfl, fun _ => rfl⟩
  rintro c h34 ⟨lab, σ, L, W⟩
  refine L.crash (by omega) ((A3.ext0 e1).ext0 L.fr.e) ((A4.ext0 e1).ext0 L.fr.e) (argL L.fr b3) (argL L.fr b4) hl3 hl4 fun h35 lab35 L35 => ?_
  obtain ⟨t, ht, hor, hct⟩ := W.crash keeps names
  refine L35.read (l := pIt) (by decide) fun s36 h38 o38 f38 L38 => ?_
  rw [ht] at o38 ⊢
  have B36 : bytesAt h38 s36 (tx t) := (o38.arr dF_sized).bytes (fun _ => rfl)
  have B0 : bytesAt h38 s0 (tx old) := (arg L38.fr A0).bytes (fun _ => rfl)
  have B1 : bytesAt h38 s1 (tx fresh) := (arg L38.fr A1).bytes (fun _ => rfl)
  have fin : R true h38 := k h38 (e1.trans L38.fr.e)
  refine ⟨fun hh => hh = h38, br_zero rfl (Br.mk (fun hc => ⟨_, B36, _, B1, ?_⟩) fun _ => rfl), ?_⟩
  · rw [hct hc, tx_eq]
    exact Br.f (by simp) rfl
  · rintro h42 rfl
    refine ⟨_, B36, _, B0, ?_⟩
    rw [tx_eq]
    refine Br.dec (fun _ => fin) fun hno => ⟨_, B36, _, B1, ?_⟩
    have : t = fresh := hor.resolve_left hno
    rw [this, tx_eq, decide_eq_true rfl]
    exact fin

end Go.V.Ytdeihieblljfcaa
