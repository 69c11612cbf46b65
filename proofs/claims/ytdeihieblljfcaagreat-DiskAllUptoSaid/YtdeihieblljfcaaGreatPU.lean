/- This text proves a part of the laws of seat YtdeihieblljfcaaGreat, under no condition: F3d F3e. -/
import Derived.Test.YtdeihieblljfcaaGreatPI
import Derived.Test.YtdeihieblljfcaaGreatPJ
import Derived.Test.YtdeihieblljfcaaGreatPT
import Derived.Sort.Walk0
set_option linter.unusedVariables false
set_option linter.unusedSimpArgs false
/-! The document's disk: what it counts, rows that are copied and written. -/
namespace Go.V.YtdeihieblljfcaaGreat
open Go Go.V

theorem tx_toL (l : Tx) : (tx l).toList = l := by rw [ByteArray.toList_eq]; exact tx_list l
theorem strLt_tx (a b : Tx) : strLt (tx a) (tx b) = decide (a < b) := by
  unfold strLt; rw [tx_toL, tx_toL, Go.Proofs.bytesLess_eq]

structure DStp (M : Bl) (h : Heap) (M' : Bl) (h' : Heap) (d : Nat) : Prop where
  le : ∀ i, M i → M' i
  new : ∀ i, M' i → M i ∨ h.size ≤ i
  ext : Ext (fun i => i = d) h h'
theorem DStp.refl (M : Bl) (h : Heap) (d : Nat) : DStp M h M h d := ⟨fun _ x => x, fun _ x => .inl x, Ext.refl _ _⟩
theorem DStp.trans {M M' M'' : Bl} {h h' h'' : Heap} {d : Nat} (a : DStp M h M' h' d) (b : DStp M' h' M'' h'' d) : DStp M h M'' h'' d :=
  ⟨fun i x => b.le i (a.le i x), fun i x => (b.new i x).elim (a.new i) fun y => .inr (Nat.le_trans a.ext.size y), a.ext.trans b.ext⟩
theorem DStp.of0 {h h' : Heap} (M : Bl) (d : Nat) (e : Ext0 h h') : DStp M h M h' d := ⟨fun _ x => x, fun _ x => .inl x, e.of0⟩
theorem DStp.of {h h' : Heap} (M : Bl) {d : Nat} (e : Ext (fun i => i = d) h h') : DStp M h M h' d := ⟨fun _ x => x, fun _ x => .inl x, e⟩
theorem DD.nM {h : Heap} {M : Bl} {d : Nat} {δ : Dc} (X : DD h M d δ) {b : Nat} (hb : h.size ≤ b) : ¬ M b := fun x => by have := X.lt b x; omega

theorem DD.up {h h' : Heap} {M : Bl} {d : Nat} {δ : Dc} (X : DD h M d δ) (e : Ext0 h h') : DD h' (grow M h h') d δ ∧ DStp M h (grow M h h') h' d :=
  let ⟨sd, sf, k, a, b⟩ := X.ex
  ⟨⟨⟨sd, sf, k.ext e, DirsL.stab.go e (fun _ x => x.elim) (grow_le M h h') a, FilL.stab.go e (fun _ x => x.elim) (grow_le M h h') b⟩,
      fun i hi => hi.elim (fun x => Nat.lt_of_lt_of_le (X.lt i x) e.size) fun x => x.2, fun hx => hx.elim X.no fun y => by have := X.ltd; omega⟩,
    ⟨grow_le M h h', fun i hi => hi.imp id fun x => x.1, e.of0⟩⟩

theorem DD.scal {h h' : Heap} {M : Bl} {d : Nat} {δ : Dc} (X : DD h M d δ) {sd sf : Slc} (A : DirsL h M sd δ.dirs) (B : FilL h M sf δ.files) (e : Ext (fun i => i = d) h h') {fi ff si : Int} {st : Bool}
    (k : Blk h' d 144 [.int .i64 δ.quota, .slc sd, .slc sf, .int .i64 fi, .int .i64 ff, .int .i64 si, .bool st]) : DD h' M d { δ with failIn := fi, failFor := ff, stopIn := si, stopped := st } :=
  ⟨⟨sd, sf, k, DirsL.stab.go e (fun i hi hm => X.no (by rw [show i = d from hi] at hm; exact hm)) (fun _ x => x) A, FilL.stab.go e (fun i hi hm => X.no (by rw [show i = d from hi] at hm; exact hm)) (fun _ x => x) B⟩,
    fun i hi => Nat.lt_of_lt_of_le (X.lt i hi) e.size, X.no⟩
theorem DD.wr {h h1 h2 : Heap} {M : Bl} {d : Nat} {δ δ' : Dc} (X : DD h M d δ) (E : Ext0 h h1) {sd sf : Slc}
    (k : Blk h2 d 144 [.int .i64 δ'.quota, .slc sd, .slc sf, .int .i64 δ'.failIn, .int .i64 δ'.failFor, .int .i64 δ'.stopIn, .bool δ'.stopped]) (e : Ext (fun i => i = d) h1 h2)
    (A : DirsL h1 (grow M h h1) sd δ'.dirs) (B : FilL h1 (grow M h h1) sf δ'.files) : DD h2 (grow M h h1) d δ' ∧ DStp M h (grow M h h1) h2 d := by
  have no : ¬ grow M h h1 d := fun hx => hx.elim X.no fun y => by have := X.ltd; omega
  have nS : ∀ i, i = d → ¬ grow M h h1 i := fun i hi hm => no (by rw [hi] at hm; exact hm)
  exact ⟨⟨⟨sd, sf, k, DirsL.stab.go e nS (fun _ x => x) A, FilL.stab.go e nS (fun _ x => x) B⟩, fun i hi => Nat.lt_of_lt_of_le (hi.elim (fun x => Nat.lt_of_lt_of_le (X.lt i x) E.size) fun x => x.2) e.size, no⟩,
    ⟨grow_le _ _ _, fun i hi => hi.imp id fun x => x.1, E.of0.trans e⟩⟩

structure ScD (δ : Dc) : Prop where
  fi : 0 ≤ δ.failIn ∧ δ.failIn ≤ 9223372036854775807
  ff : 0 ≤ δ.failFor ∧ δ.failFor ≤ 9223372036854775807
  si : 0 ≤ δ.stopIn ∧ δ.stopIn ≤ 9223372036854775807
  on : 1 ≤ δ.failIn → 1 ≤ δ.failFor
def failStep (δ : Dc) : Int × Bool × Dc :=
  if 1 < δ.failIn then (0, false, { δ with failIn := δ.failIn - 1 })
  else if δ.failIn = 1 then (21, true, { δ with failIn := 0, failFor := δ.failFor - 1 })
  else if 0 < δ.failFor then (21, false, { δ with failFor := δ.failFor - 1 })
  else (0, false, δ)
def stopStep (e : Int) (b : Bool) (δ : Dc) : Int × Bool × Dc :=
  if δ.stopped = true then (22, false, δ)
  else if 1 < δ.stopIn then (e, b, { δ with stopIn := δ.stopIn - 1 })
  else if δ.stopIn = 1 then (22, true, { δ with stopIn := 0, stopped := true })
  else (e, b, δ)
def scriptD (δ : Dc) : Int × Bool × Dc := stopStep (failStep δ).1 (failStep δ).2.1 (failStep δ).2.2
theorem failStep_ok {δ : Dc} (o : ScD δ) : ScD (failStep δ).2.2 := by
  obtain ⟨h1, h2, h3, h4⟩ := o
  unfold failStep
  split
  · exact ⟨by show 0 ≤ δ.failIn - 1 ∧ δ.failIn - 1 ≤ _; omega, h2, h3, fun _ => h4 (by omega)⟩
  · split
    · exact ⟨⟨Int.le_refl 0, by show (0 : Int) ≤ _; omega⟩, by show 0 ≤ δ.failFor - 1 ∧ δ.failFor - 1 ≤ _; have := h4 (by omega); omega, h3, fun x => absurd (show (1 : Int) ≤ 0 from x) (by omega)⟩
    · split
      · exact ⟨h1, by show 0 ≤ δ.failFor - 1 ∧ δ.failFor - 1 ≤ _; omega, h3, fun x => by have : 1 ≤ δ.failIn := x; omega⟩
      · exact ⟨h1, h2, h3, h4⟩
theorem scriptD_ok {δ : Dc} (o : ScD δ) : ScD (scriptD δ).2.2 := by
  obtain ⟨h1, h2, h3, h4⟩ := failStep_ok o
  unfold scriptD stopStep
  split
  · exact ⟨h1, h2, h3, h4⟩
  · split
    · exact ⟨h1, h2, by show 0 ≤ (failStep δ).2.2.stopIn - 1 ∧ (failStep δ).2.2.stopIn - 1 ≤ _; omega, h4⟩
    · split
      · exact ⟨h1, h2, ⟨Int.le_refl 0, by show (0 : Int) ≤ _; omega⟩, h4⟩
      · exact ⟨h1, h2, h3, h4⟩
theorem failStep_keep (δ : Dc) : (failStep δ).2.2.quota = δ.quota ∧ (failStep δ).2.2.dirs = δ.dirs ∧ (failStep δ).2.2.files = δ.files := by
  unfold failStep; split <;> (try split) <;> (try split) <;> exact ⟨rfl, rfl, rfl⟩
theorem stopStep_keep (e : Int) (b : Bool) (δ : Dc) : (stopStep e b δ).2.2.quota = δ.quota ∧ (stopStep e b δ).2.2.dirs = δ.dirs ∧ (stopStep e b δ).2.2.files = δ.files := by
  unfold stopStep; split <;> (try split) <;> (try split) <;> exact ⟨rfl, rfl, rfl⟩
theorem scriptD_keep (δ : Dc) : (scriptD δ).2.2.quota = δ.quota ∧ (scriptD δ).2.2.dirs = δ.dirs ∧ (scriptD δ).2.2.files = δ.files := by
  have a := failStep_keep δ
  have b := stopStep_keep (failStep δ).1 (failStep δ).2.1 (failStep δ).2.2
  exact ⟨b.1.trans a.1, b.2.1.trans a.2.1, b.2.2.trans a.2.2⟩

theorem c196 {h : Heap} {M : Bl} {d : Nat} {δ : Dc} (X : DD h M d δ) (o : ScD δ) {R : Int → Bool → Heap → Prop}
    (k : ∀ h', DD h' M d (scriptD δ).2.2 → Ext (fun i => i = d) h h' → R (scriptD δ).1 (scriptD δ).2.1 h') : Call Go.Proofs.Tryz.prog 196 [.lf (.ptr (some (d, 0)))] h [.one (.int .i64), .one .bool] R := by
  obtain ⟨⟨f1, f2⟩, ⟨g1, g2⟩, ⟨s1, s2⟩, on⟩ := o
  obtain ⟨sd, sf, kb, A, B⟩ := X.ex
  refine ok196 ⟨fun e b hh => e = (failStep δ).1 ∧ b = (failStep δ).2.1 ∧ DD hh M d (failStep δ).2.2 ∧ Ext (fun i => i = d) h hh, ?_, ?_⟩
  · refine NilC.mk rfl ⟨_, kb.cell rfl, Br.dec (fun x => NilC.mk rfl ⟨_, kb.cell rfl, NilC.mk rfl ?_⟩) fun x => NilC.mk rfl ⟨_, kb.cell rfl, Br.eq (fun y => NilC.mk rfl ?_) fun y => NilC.mk rfl ⟨_, kb.cell rfl, Br.dec (fun z => NilC.mk rfl ⟨_, kb.cell rfl, NilC.mk rfl ?_⟩) fun z => ?_⟩⟩⟩
    · rw [wi64 (by omega) (by omega)]
      refine StC.one kb (by simp) fun h9 hs9 k9 e9 => ?_
      have fs : failStep δ = (0, false, { δ with failIn := δ.failIn - 1 }) := by unfold failStep; rw [if_pos (by omega)]
      rw [fs]
      exact ⟨rfl, rfl, X.scal A B e9 (by simpa using k9), e9⟩
    · refine StC.one kb (by simp) fun h15 hs15 k15 e15 => NilC.mk rfl ⟨_, k15.cell rfl, NilC.mk rfl ?_⟩
      rw [wi64 (by have := on (by omega); omega) (by omega)]
      refine StC.one k15 (by simp) fun h21 hs21 k21 e21 => ?_
      have fs : failStep δ = (21, true, { δ with failIn := 0, failFor := δ.failFor - 1 }) := by unfold failStep; rw [if_neg (by omega), if_pos y]
      rw [fs]
      exact ⟨rfl, rfl, X.scal A B (e15.trans e21) (by simpa using k21), e15.trans e21⟩
    · rw [wi64 (by omega) (by omega)]
      refine StC.one kb (by simp) fun h9 hs9 k9 e9 => ?_
      have fs : failStep δ = (21, false, { δ with failFor := δ.failFor - 1 }) := by unfold failStep; rw [if_neg (by omega), if_neg y, if_pos (by omega)]
      rw [fs]
      exact ⟨rfl, rfl, X.scal A B e9 (by simpa using k9), e9⟩
    · have fs : failStep δ = (0, false, δ) := by unfold failStep; rw [if_neg (by omega), if_neg y, if_neg (by omega)]
      rw [fs]
      exact ⟨rfl, rfl, X, Ext.refl _ _⟩
  rintro e b h33 ⟨rfl, rfl, X1, e1⟩
  have hk := failStep_keep δ
  have hst : (failStep δ).2.2.stopIn = δ.stopIn ∧ (failStep δ).2.2.stopped = δ.stopped := by unfold failStep; split <;> (try split) <;> (try split) <;> exact ⟨rfl, rfl⟩
  unfold scriptD at k
  generalize failStep δ = a at *
  obtain ⟨e, b, δ1⟩ := a
  simp only at X1 hk hst k
  obtain ⟨sd1, sf1, kb1, A1, B1⟩ := X1.ex
  refine NilC.mk rfl ⟨_, kb1.cell rfl, Br.mk (fun x => ?_) fun x => NilC.mk rfl ⟨_, kb1.cell rfl, Br.dec (fun y => NilC.mk rfl ⟨_, kb1.cell rfl, NilC.mk rfl ?_⟩) fun y => NilC.mk rfl ⟨_, kb1.cell rfl, Br.eq (fun z => NilC.mk rfl ?_) fun z => ?_⟩⟩⟩
  · have fs : stopStep e b δ1 = (22, false, δ1) := by unfold stopStep; rw [if_pos x]
    have := k h33 (by rw [fs]; exact X1) e1
    rw [fs] at this; exact this
  · rw [wi64 (by omega) (by omega)]
    refine StC.one kb1 (by simp) fun h9 hs9 k9 e9 => ?_
    have fs : stopStep e b δ1 = (e, b, { δ1 with stopIn := δ1.stopIn - 1 }) := by unfold stopStep; rw [if_neg (by rw [x]; simp), if_pos (by omega)]
    have := k h9 (by rw [fs]; exact X1.scal A1 B1 e9 (by simpa using k9)) (e1.trans e9)
    rw [fs] at this; exact this
  · refine StC.one kb1 (by simp) fun h51 hs51 k51 e51 => NilC.mk rfl (StC.one k51 (by simp) fun h54 hs54 k54 e54 => ?_)
    have fs : stopStep e b δ1 = (22, true, { δ1 with stopIn := 0, stopped := true }) := by unfold stopStep; rw [if_neg (by rw [x]; simp), if_neg (by omega), if_pos z]
    have := k h54 (by rw [fs]; exact X1.scal A1 B1 (e51.trans e54) (by simpa using k54)) (e1.trans (e51.trans e54))
    rw [fs] at this; exact this
  · have fs : stopStep e b δ1 = (e, b, δ1) := by unfold stopStep; rw [if_neg (by rw [x]; simp), if_neg (by omega), if_neg z]
    have := k h33 (by rw [fs]; exact X1) e1
    rw [fs] at this; exact this

theorem c129 {h : Heap} {M : Bl} {d : Nat} {δ : Dc} (X : DD h M d δ) (o : ScD δ) {R : Int → Heap → Prop}
    (k : ∀ h', DD h' M d (scriptD δ).2.2 → Ext (fun i => i = d) h h' → R (scriptD δ).1 h') : Call Go.Proofs.Tryz.prog 129 [.lf (.ptr (some (d, 0)))] h [.one (.int .i64)] R :=
  ok129 (c196 X o fun h' X' e' => k h' X' e')

def failD (δ : Dc) (n m : Int) : Dc := if 1 ≤ n ∧ 1 ≤ m then { δ with failIn := n, failFor := m } else { δ with failIn := 0, failFor := 0 }
def stopD (δ : Dc) (n : Int) : Dc := if 1 ≤ n then { δ with stopIn := n, stopped := false } else { δ with stopIn := 0, stopped := false }
theorem c81 {h : Heap} {M : Bl} {d : Nat} {δ : Dc} (X : DD h M d δ) {n m : Int} {R : Heap → Prop}
    (k : ∀ h', DD h' M d (failD δ n m) → Ext (fun i => i = d) h h' → R h') : Call Go.Proofs.Tryz.prog 81 [.lf (.ptr (some (d, 0))), .lf (.int .i64 n), .lf (.int .i64 m)] h [] R := by
  obtain ⟨sd, sf, kb, A, B⟩ := X.ex
  refine ok81 (NilC.mk rfl (StC.one kb (by simp) fun h2 hs2 k2 e2 => NilC.mk rfl (StC.one k2 (by simp) fun h5 hs5 k5 e5 => ?_)))
  have no : ¬ (1 ≤ n ∧ 1 ≤ m) → R h5 := fun hno => k h5 (by unfold failD; rw [if_neg hno]; exact X.scal A B (e2.trans e5) (by simpa using k5)) (e2.trans e5)
  refine Br.dec (fun x => Br.dec (fun y => NilC.mk rfl (StC.one k5 (by simp) fun h8 hs8 k8 e8 => NilC.mk rfl (StC.one k8 (by simp) fun h11 hs11 k11 e11 => ?_))) fun y => no fun z => y z.2) fun x => no fun z => x z.1
  have E := (e2.trans e5).trans (e8.trans e11)
  exact k h11 (by unfold failD; rw [if_pos ⟨x, y⟩]; exact X.scal A B E (by simpa using k11)) E
theorem c82 {h : Heap} {M : Bl} {d : Nat} {δ : Dc} (X : DD h M d δ) {n : Int} {R : Heap → Prop}
    (k : ∀ h', DD h' M d (stopD δ n) → Ext (fun i => i = d) h h' → R h') : Call Go.Proofs.Tryz.prog 82 [.lf (.ptr (some (d, 0))), .lf (.int .i64 n)] h [] R := by
  obtain ⟨sd, sf, kb, A, B⟩ := X.ex
  refine ok82 (NilC.mk rfl (StC.one kb (by simp) fun h2 hs2 k2 e2 => NilC.mk rfl (StC.one k2 (by simp) fun h5 hs5 k5 e5 => ?_)))
  refine Br.dec (fun x => NilC.mk rfl (StC.one k5 (by simp) fun h8 hs8 k8 e8 => ?_)) fun x => ?_
  · exact k h8 (by unfold stopD; rw [if_pos x]; exact X.scal A B ((e2.trans e5).trans e8) (by simpa using k8)) ((e2.trans e5).trans e8)
  · exact k h5 (by unfold stopD; rw [if_neg x]; exact X.scal A B (e2.trans e5) (by simpa using k5)) (e2.trans e5)

/-! ### Rows -/

theorem StC.snd {h : Heap} {b off : Nat} {x y z : Lf} {K : Heap → Prop} (hc : cellsAt h b off [x, y]) (s : StC h b off [x, z] K) : StC h b (off + 1) [z] K := by
  obtain ⟨c, e, fz, hb, hlen, hfz, k⟩ := s
  obtain ⟨⟨c', e', fz', hb', hx⟩, _⟩ := hc
  rw [hb] at hb'; cases hb'
  simp only [List.map_cons, List.map_nil, List.length_cons, List.length_nil] at hlen hfz
  refine ⟨c, e, fz, hb, by simp; omega, ?_, fun h' hh => k h' ?_⟩
  · unfold fzOk at *; simp; omega
  · rw [hh]
    have : c.setIfInBounds off x.val = c := by
      apply Array.ext_getElem?
      intro i
      rw [Array.getElem?_setIfInBounds]
      split
      · rename_i hi; subst hi
        split
        · exact hx.symm
        · rename_i hlt; rw [Array.getElem?_eq_none (by omega)]
      · rfl
    simp only [List.map_cons, List.map_nil, wr, this]
theorem IxC.snd {h : Heap} {s : Slc} {i : Int} {x y z : Lf} {K : Heap → Prop} (hc : IxC s i 2 fun b off => cellsAt h b off [x, y]) (hs : IxC s i 2 fun b off => StC h b off [x, z] K) : IxC s i 2 fun b off => StC h b (off + 1) [z] K := by
  obtain ⟨h1, h2, h3, h4⟩ := hc
  obtain ⟨_, _, _, h8⟩ := hs
  refine ⟨h1, h2, h3, ?_⟩
  unfold NilC at *
  cases ha : s.a with
  | none => rw [ha] at h4; exact h4
  | some p => obtain ⟨b, off⟩ := p; rw [ha] at h4 h8; exact StC.snd h4 h8

theorem LO.upd {α β : Type} {sz : Nat} {f : α → List Lf} {Q : Heap → Bl → α → β → Prop} (hf : Sized sz f) (hQ : Stab Q) {h : Heap} {M : Bl} {s : Slc} {l : List β} (o : LO sz f Q h M s l) (hns : ∀ b off, s.a = some (b, off) → ¬ M b)
    {i : Int} {k : Nat} (hi : i = (k : Int)) (hk : k < l.length) {cs : List Lf} {a : α} {y : β} (hcs : cs = f a) (q : Q h M a y) {K : Heap → Prop}
    (c : ∀ h', h'.size = h.size → LO sz f Q h' M s (l.set k y) → Ext (fun b => ∃ off, s.a = some (b, off)) h h' → K h') : IxC s i sz fun b off => StC h b off cs K := by
  obtain ⟨os, oo, hl, ho⟩ := o.ex
  refine IxC.set hf oo hi (by rw [hl] at hk; simpa using hk) hcs fun h' hs o' e => c h' hs ⟨os.set k (a, y), by rw [List.map_set]; exact o', by rw [hl, List.map_set], fun p hp => ?_⟩ e
  refine hQ.go e (fun i ⟨off, hx⟩ => hns i off hx) (fun _ x => x) ?_
  rcases List.mem_or_eq_of_mem_set hp with h | rfl
  · exact ho p h
  · exact q
theorem LO.ix {α β : Type} {sz : Nat} {f : α → List Lf} {Q : Heap → Bl → α → β → Prop} (hf : Sized sz f) {h : Heap} {M : Bl} {s : Slc} {l : List β} (L : LO sz f Q h M s l) {i : Int} {k : Nat} (hi : i = (k : Int)) {b : β} (hb : l[k]? = some b)
    {K : Nat → Nat → Prop} (c : ∀ a x off, Q h M a b → cellsAt h x off (f a) → K x off) : IxC s i sz K := by
  obtain ⟨os, A, hl, ho⟩ := L.ex
  have hk : k < os.length := by
    rcases Nat.lt_or_ge k os.length with h' | h'
    · exact h'
    · rw [hl, List.getElem?_eq_none (by simpa using h')] at hb; cases hb
  refine (A.arr hf).ix hi (x := os[k].1) (by rw [List.getElem?_map, List.getElem?_eq_getElem hk]; rfl) fun x off hc => c _ x off ?_ hc
  have : b = os[k].2 := by rw [hl, List.getElem?_map, List.getElem?_eq_getElem hk] at hb; exact (Option.some.inj hb).symm
  rw [this]; exact ho _ (List.getElem_mem hk)

theorem LO.dirSet {h : Heap} {M : Bl} {s : Slc} {l : List (Tx × List Nm)} (o : LO 2 dirF DirQ h M s l) (hns : ∀ b off, s.a = some (b, off) → ¬ M b) {i : Int} {k : Nat} (hi : i = (k : Int)) {nm : Tx} {ws ws' : List Nm} (hk : l[k]? = some (nm, ws))
    {s' : Slc} (W : WyR h M s' ws') {K : Heap → Prop} (c : ∀ h', h'.size = h.size → LO 2 dirF DirQ h' M s (l.set k (nm, ws')) → Ext (fun b => ∃ off, s.a = some (b, off)) h h' → K h') : IxC s i 2 fun b off => StC h b (off + 1) [.slc s'] K := by
  have hlt : k < l.length := by
    rcases Nat.lt_or_ge k l.length with h' | h'
    · exact h'
    · rw [List.getElem?_eq_none h'] at hk; cases hk
  obtain ⟨os, oo, hl, ho⟩ := o.ex
  have hk' : k < os.length := by rw [hl] at hlt; simpa using hlt
  have hb : (nm, ws) = os[k].2 := by rw [hl, List.getElem?_map, List.getElem?_eq_getElem hk'] at hk; exact (Option.some.inj hk).symm
  have hq := ho _ (List.getElem_mem hk')
  rw [← hb] at hq
  refine IxC.snd (h := h) (x := .str (tx os[k].1.1)) (y := .slc os[k].1.2) ((oo.arr dirF_sized).ix hi (x := os[k].1) (by rw [List.getElem?_map, List.getElem?_eq_getElem hk']; rfl) fun x off hc => hc) ?_
  exact LO.upd dirF_sized DirQ.stab o hns hi hlt (a := (os[k].1.1, s')) (y := (nm, ws')) rfl ⟨hq.1, W⟩ c

theorem keepAll {B : Nat} {h h' : Heap} (e : Ext (fun i => B ≤ i) h h') : ∀ {L : List Nat}, (∀ b ∈ L, b < B ∧ b < h.size) → keepB h h' L
  | [], _ => trivial
  | b :: r, hL => ⟨e.same b (hL b List.mem_cons_self).2 (by have := (hL b List.mem_cons_self).1; omega), keepAll e fun c hc => hL c (List.mem_cons_of_mem _ hc)⟩
theorem _root_.Go.V.Grow.ge {s s' : Slc} {h h' : Heap} (g : Grow s h s' h') {B : Nat} (hs : ∀ b off, s.a = some (b, off) → B ≤ b) (hB : B ≤ h.size) : Ext (fun i => B ≤ i) h h' ∧ ∀ b off, s'.a = some (b, off) → B ≤ b :=
  ⟨g.ext.mono fun i ⟨off, hi⟩ => hs i off hi, fun b off hb => by
    rcases g.new with x | ⟨b', x, y⟩
    · rw [x] at hb; exact hs b off hb
    · rw [x] at hb; cases hb; omega⟩
theorem _root_.Go.V.Ext.ge0 {B : Nat} {h h' h'' : Heap} (a : Ext0 h h') (e : Ext (fun i => B ≤ i) h' h'') (hB : h.size ≤ B) : Ext0 h h'' := a.trans' e fun i hi hx => by omega

def chgD (δ : Dc) (i : Nat) (m : Nm) : Dc := match δ.dirs[i]? with
  | some (nm, ws) => { δ with dirs := δ.dirs.set i (nm, ws ++ [m]) }
  | none => δ

theorem c133 {h : Heap} {M : Bl} {d : Nat} {δ : Dc} (X : DD h M d δ) {i : Nat} {nm : Tx} {ws : List Nm} (hi : δ.dirs[i]? = some (nm, ws)) {p : Slc × Slc} {m : Nm} (N : NmR h M p m) (h1 : δ.dirs.length ≤ 1000000) (h2 : ws.length ≤ 2199023255552) {R : Heap → Prop}
    (k : ∀ h' M', DD h' M' d (chgD δ i m) → DStp M h M' h' d → R h') : Call Go.Proofs.Tryz.prog 133 [.lf (.ptr (some (d, 0))), .lf (.int .i64 (i : Int)), .agg [.slc p.1, .slc p.2]] h [] R := by
  obtain ⟨sd, sf, kb, A, B⟩ := X.ex
  refine ok133 (New.mk fun b0 h1 hb0 hs1 e1 k1 => New.mk fun b2 h3 hb2 hs3 e3 k3 => NilC.mk rfl ⟨sd, ((kb.ext e1).ext e3).cell rfl, ?_⟩)
  have e13 := e1.trans e3
  refine LO.app dirF_sized DirQ.stab (by decide) rfl (LO.new dirF_sized k3) (DirsL.stab.go e13 (fun _ x => x.elim) (fun _ x => x) A) (fun b off hb => by cases hb; exact X.nM (by omega)) (by simp; omega) fun s7 h8 o8 g8 => ?_
  rw [List.nil_append] at o8
  have f3 : Fresh h1 h3 ⟨some (b2, 0), 0, 0⟩ := ⟨e3, fun b off x => by cases x; omega⟩
  have f8 := f3.grow g8
  have e8 : Ext0 h h8 := e1.trans f8.ext
  have z8 := f8.ext.size
  have n8 : ∀ b off, s7.a = some (b, off) → ¬ M b := fun b off hb => X.nM (by have := f8.new _ _ hb; omega)
  have s8 : ∀ b off, s7.a = some (b, off) → b < h8.size := o8.lt
  -- the end of it
  have fin : ∀ (h19 : Heap) (s18 : Slc), Fresh h8 h19 s18 → LO 2 pairF NmR h19 M s18 (ws ++ [m]) →
      IxC s7 (i : Int) 2 fun b20 b21 => StC h19 b20 (b21 + 1) [.slc s18] fun h22 => keepB h19 h22 [b0] ∧ NilC (some (d, 0)) fun b23 b24 => StC h22 b23 (b24 + 1) [.slc s7] fun h25 => R h25 := fun h19 s18 Fs L => by
    have z19 := Fs.ext.size
    let M1 : Bl := fun i => M i ∨ (h8.size ≤ i ∧ i < h19.size)
    have n19 : ∀ b off, s7.a = some (b, off) → ¬ M1 b := fun b off hb hx => hx.elim (n8 b off hb) fun y => by have := s8 b off hb; omega
    have o19 : LO 2 dirF DirQ h19 M1 s7 δ.dirs := o8.ext DirQ.stab Fs.ext (fun _ x => x.elim) (fun _ x => .inl x) fun _ _ _ x => x
    have W : WyR h19 M1 s18 (ws ++ [m]) := L.lst pairF_sized NmR.stab (fun _ x => .inl x) fun b off hb => .inr ⟨Fs.new b off hb, L.lt b off hb⟩
    refine o19.dirSet n19 rfl hi W fun h22 hs22 o22 e22 => ⟨e22.keep (by omega) (fun ⟨off, x⟩ => by have := f8.new _ _ x; omega), NilC.mk rfl ?_⟩
    have E22 : Ext0 h h22 := (e8.trans Fs.ext).trans' e22 fun j hj ⟨off, x⟩ => by have := f8.new _ _ x; omega
    refine StC.one (kb.ext E22) (by simp) fun h25 hs25 k25 e25 => ?_
    have hc : chgD δ i m = { δ with dirs := δ.dirs.set i (nm, ws ++ [m]) } := by unfold chgD; rw [hi]
    have hM : ∀ j, M1 j → grow M h h22 j := fun j hj => hj.imp id fun y => ⟨by omega, by omega⟩
    have W1 := X.wr (δ' := chgD δ i m) E22 (sd := s7) (sf := sf) (by rw [hc]; simpa using k25) e25 (by rw [hc]; exact o22.lst dirF_sized DirQ.stab hM fun b off hb => .inr ⟨by have := f8.new _ _ hb; omega, by have := s8 _ _ hb; omega⟩) (by rw [hc]; exact FilL.stab.go E22 (fun _ x => x.elim) (grow_le _ _ _) B)
    exact k h25 _ W1.1 W1.2
  refine ⟨f3.keep g8 (by omega), LO.ix dirF_sized o8 rfl hi fun a x off hq hc => ⟨a.2, ⟨hc.2.1, trivial⟩, ?_⟩⟩
  have W8 : WyR h8 M a.2 ws := hq.2
  have N8 : NmR h8 M p m := NmR.stab.go e8 (fun _ x => x.elim) (fun _ x => x) N
  have hcl : x < h8.size := cellsAt.lt hc
  have bnd : ∀ n, n ≤ 2199023255553 → n * 48 ≤ 140737488355328 := fun n hn => by omega
  refine ⟨New.mk fun b12 h13 hb12 hs13 e13' k13 => ⟨⟨(cellsAt.ext e13' id hc).2.1, trivial⟩, ⟨?_, ?_⟩⟩, ?_⟩
  · refine LO.app pairF_sized NmR.stab (by decide) rfl (LO.new pairF_sized k13) (WyR.stab.go e13' (fun _ x => x.elim) (fun _ x => x) W8) (fun b off hb => by cases hb; exact X.nM (by omega)) (by simp; omega) fun s14 h15 o15 g15 => ?_
    rw [List.nil_append] at o15
    have F13 : Fresh h8 h13 ⟨some (b12, 0), 0, 0⟩ := ⟨e13', fun b off x => by cases x; omega⟩
    have F15 := F13.grow g15
    refine ⟨F13.keep g15 (by omega), New.mk fun b16 h17 hb16 hs17 e17 k17 => ?_⟩
    refine LO.app1 pairF_sized NmR.stab (by decide) rfl (o15.ext0 NmR.stab e17) (fun b off hb => X.nM (by have := F15.new _ _ hb; omega)) (a := p) k17 (NmR.stab.go (F15.ext.trans e17) (fun _ x => x.elim) (fun _ x => x) N8) (by omega) fun s18 h19 o19 g19 => ?_
    exact ⟨(F15.ext0 e17).keep g19 (by omega), fin h19 s18 ((F15.ext0 e17).grow g19) o19⟩
  · refine New.mk fun b26 h27 hb26 hs27 e27 k27 => ⟨⟨(cellsAt.ext e27 id (cellsAt.ext e13' id hc)).2.1, trivial⟩, ?_⟩
    refine LO.app pairF_sized NmR.stab (by decide) rfl ((LO.new pairF_sized k13).ext0 NmR.stab e27) (WyR.stab.go (e13'.trans e27) (fun _ x => x.elim) (fun _ x => x) W8) (fun b off hb => by cases hb; exact X.nM (by omega)) (by simp; omega) fun s28 h29 o29 g29 => ?_
    rw [List.nil_append] at o29
    have F27 : Fresh h8 h27 ⟨some (b12, 0), 0, 0⟩ := ⟨e13'.trans e27, fun b off x => by cases x; omega⟩
    have F29 := F27.grow g29
    have k29 := k27.ext g29.ext fun ⟨off, x⟩ => by cases x; omega
    refine ⟨F27.keep g29 (by omega), ?_⟩
    refine LO.app1 pairF_sized NmR.stab (by decide) rfl o29 (fun b off hb => X.nM (by have := F29.new _ _ hb; omega)) (a := p) k29 (NmR.stab.go F29.ext (fun _ x => x.elim) (fun _ x => x) N8) (by omega) fun s30 h31 o31 g31 => ?_
    exact ⟨F29.keep g31 (by omega), fin h31 s30 (F29.grow g31) o31⟩
  · refine New.mk fun b38 h39 hb38 hs39 e39 k39 => ⟨⟨(cellsAt.ext e39 id hc).2.1, trivial⟩, New.mk fun b40 h41 hb40 hs41 e41 k41 => ⟨⟨(cellsAt.ext e41 id (cellsAt.ext e39 id hc)).2.1, trivial⟩, ?_⟩⟩
    refine LO.app pairF_sized NmR.stab (by decide) rfl (LO.new pairF_sized k41) (WyR.stab.go (e39.trans e41) (fun _ x => x.elim) (fun _ x => x) W8) (fun b off hb => by cases hb; exact X.nM (by omega)) (by simp; omega) fun s28 h29 o29 g29 => ?_
    rw [List.nil_append] at o29
    have F27 : Fresh h8 h41 ⟨some (b40, 0), 0, 0⟩ := ⟨e39.trans e41, fun b off x => by cases x; omega⟩
    have F29 := F27.grow g29
    have k29 := (k39.ext e41).ext g29.ext fun ⟨off, x⟩ => by cases x; omega
    refine ⟨F27.keep g29 (by omega), ?_⟩
    refine LO.app1 pairF_sized NmR.stab (by decide) rfl o29 (fun b off hb => X.nM (by have := F29.new _ _ hb; omega)) (a := p) k29 (NmR.stab.go F29.ext (fun _ x => x.elim) (fun _ x => x) N8) (by omega) fun s30 h31 o31 g31 => ?_
    exact ⟨F29.keep g31 (by omega), fin h31 s30 (F29.grow g31) o31⟩

def setD (δ : Dc) (i : Nat) (c : DF) : Dc := { δ with files := δ.files.set i c }
theorem c140 {h : Heap} {M : Bl} {d : Nat} {δ : Dc} (X : DD h M d δ) {i : Nat} (hi : i < δ.files.length) {p : Slc × Slc} {c : DF} (Q : FilQ h M p c) (h1 : δ.files.length ≤ 2199023255552) {R : Heap → Prop}
    (k : ∀ h' M', DD h' M' d (setD δ i c) → DStp M h M' h' d → R h') : Call Go.Proofs.Tryz.prog 140 [.lf (.ptr (some (d, 0))), .lf (.int .i64 (i : Int)), .agg [.slc p.1, .slc p.2]] h [] R := by
  obtain ⟨sd, sf, kb, A, B⟩ := X.ex
  refine ok140 (New.mk fun b0 h1 hb0 hs1 e1 k1 => New.mk fun b2 h3 hb2 hs3 e3 k3 => NilC.mk rfl ⟨sf, ((kb.ext e1).ext e3).cell rfl, ?_⟩)
  have e13 := e1.trans e3
  refine LO.app pairF_sized FilQ.stab (by decide) rfl (LO.new pairF_sized k3) (FilL.stab.go e13 (fun _ x => x.elim) (fun _ x => x) B) (fun b off hb => by cases hb; exact X.nM (by omega)) (by simp; omega) fun s7 h8 o8 g8 => ?_
  rw [List.nil_append] at o8
  have f3 : Fresh h1 h3 ⟨some (b2, 0), 0, 0⟩ := ⟨e3, fun b off x => by cases x; omega⟩
  have f8 := f3.grow g8
  have e8 : Ext0 h h8 := e1.trans f8.ext
  have z8 := f8.ext.size
  have ltd := X.ltd
  refine ⟨f3.keep g8 (by omega), NilC.mk rfl (StC.one (kb.ext e8) (by simp) fun h11 hs11 k11 e11 => ⟨e11.keep (by omega) (by omega), NilC.mk rfl ⟨s7, k11.cell rfl, ?_⟩⟩)⟩
  have n8 : ∀ b off, s7.a = some (b, off) → h.size ≤ b ∧ b < h8.size := fun b off hb => ⟨by have := f8.new _ _ hb; omega, o8.lt b off hb⟩
  have nMd : ∀ j, j = d → ¬ M j := fun j hj hm => X.no (by rw [hj] at hm; exact hm)
  have o11 : LO 2 pairF FilQ h11 M s7 δ.files := o8.ext FilQ.stab e11 nMd (fun _ x => x) fun b off hb hx => by have := n8 b off hb; have : b = d := hx; omega
  have Q11 : FilQ h11 M p c := FilQ.stab.go e11 nMd (fun _ x => x) (FilQ.stab.go e8 (fun _ x => x.elim) (fun _ x => x) Q)
  refine LO.upd pairF_sized FilQ.stab o11 (fun b off hb => X.nM (n8 b off hb).1) rfl hi (a := p) (y := c) rfl Q11 fun h17 hs17 o17 e17 => ⟨e17.keep (by omega) (fun ⟨off, x⟩ => by have := f8.new _ _ x; omega), ?_⟩
  have k17 := k11.ext e17 fun ⟨off, x⟩ => by have := n8 _ _ x; omega
  have E : Ext (fun i => i = d) h h17 := (e8.of0.trans e11).trans' e17 fun j hj ⟨off, x⟩ => by have := n8 _ _ x; omega
  let M' : Bl := grow M h h17
  have no : ¬ M' d := fun hx => hx.elim X.no fun y => by omega
  have hs7 : ∀ i, (∃ off, s7.a = some (i, off)) → ¬ M i := fun i ⟨off, x⟩ => X.nM (n8 _ _ x).1
  refine k h17 M' ⟨⟨sd, s7, by simpa [setD] using k17, ?_, ?_⟩, fun i hi => hi.elim (fun x => Nat.lt_of_lt_of_le (X.lt i x) E.size) fun x => x.2, no⟩ ⟨grow_le _ _ _, fun i hi => hi.imp id fun x => x.1, E⟩
  · exact DirsL.stab.go e17 hs7 (grow_le _ _ _) (DirsL.stab.go e11 nMd (fun _ x => x) (DirsL.stab.go e8 (fun _ x => x.elim) (fun _ x => x) A))
  · exact o17.lst pairF_sized FilQ.stab (grow_le _ _ _) fun b off hb => .inr ⟨(n8 b off hb).1, by have := (n8 b off hb).2; omega⟩

def settleD (δ : Dc) (i n : Nat) : Dc := match δ.dirs[i]? with
  | some (nm, ws) => match ws[n]? with
    | some m => { δ with dirs := δ.dirs.set i (nm, [m]) }
    | none => δ
  | none => δ
theorem c149 {h : Heap} {M : Bl} {d : Nat} {δ : Dc} (X : DD h M d δ) {i n : Nat} {nm : Tx} {ws : List Nm} {m : Nm} (hi : δ.dirs[i]? = some (nm, ws)) (hn : ws[n]? = some m) (h1 : δ.dirs.length ≤ 1000000) {R : Heap → Prop}
    (k : ∀ h' M', DD h' M' d (settleD δ i n) → DStp M h M' h' d → R h') : Call Go.Proofs.Tryz.prog 149 [.lf (.ptr (some (d, 0))), .lf (.int .i64 (i : Int)), .lf (.int .i64 (n : Int))] h [] R := by
  obtain ⟨sd, sf, kb, A, B⟩ := X.ex
  refine ok149 (New.mk fun b0 h1 hb0 hs1 e1 k1 => NilC.mk rfl ⟨sd, (kb.ext e1).cell rfl, ?_⟩)
  refine LO.app dirF_sized DirQ.stab (by decide) rfl (LO.new dirF_sized k1) (DirsL.stab.go e1 (fun _ x => x.elim) (fun _ x => x) A) (fun b off hb => by cases hb; exact X.nM (by omega)) (by simp; omega) fun s5 h6 o6 g6 => ?_
  rw [List.nil_append] at o6
  have f1 : Fresh h h1 ⟨some (b0, 0), 0, 0⟩ := ⟨e1, fun b off x => by cases x; omega⟩
  have f6 := f1.grow g6
  refine LO.ix dirF_sized o6 rfl hi fun a x off hq hc => ⟨a.2, ⟨hc.2.1, trivial⟩, ?_⟩
  refine Lst.ix hq.2 rfl hn fun q y off' hN hcq => ⟨q.1, q.2, hcq, New.mk fun b14 h15 hb14 hs15 e15 k15 => ?_⟩
  have n6 : ∀ b off, s5.a = some (b, off) → h.size ≤ b ∧ b < h6.size := fun b off hb => ⟨f6.new b off hb, o6.lt b off hb⟩
  let M1 : Bl := fun i => M i ∨ i = b14
  have o15 : LO 2 dirF DirQ h15 M1 s5 δ.dirs := o6.ext DirQ.stab e15 (fun _ x => x.elim) (fun _ x => .inl x) fun _ _ _ x => x
  have N15 : NmR h15 M1 q m := NmR.stab.go e15 (fun _ x => x.elim) (fun _ x => .inl x) hN
  have W : WyR h15 M1 ⟨some (b14, 0), 1, 1⟩ [m] := ⟨⟨[(q, m)], (Own.new pairF_sized (l := [q]) k15).arr pairF_sized, rfl, fun o ho => by rw [List.mem_singleton.1 ho]; exact N15⟩, fun b off hb => by cases hb; exact .inr rfl, Nat.le_refl _⟩
  refine o15.dirSet (fun b off hb hx => hx.elim (X.nM (n6 b off hb).1) fun y => by have := (n6 b off hb).2; omega) rfl hi W fun h18 hs18 o18 e18 => NilC.mk rfl ?_
  have E18 : Ext0 h h18 := (f6.ext.trans e15).trans' e18 fun j hj ⟨off, x⟩ => by have := n6 _ _ x; omega
  have z6 := f6.ext.size
  refine StC.one (kb.ext E18) (by simp) fun h21 hs21 k21 e21 => ?_
  have hc : settleD δ i n = { δ with dirs := δ.dirs.set i (nm, [m]) } := by unfold settleD; rw [hi]; simp only [hn]
  have hM : ∀ j, M1 j → grow M h h18 j := fun j hj => hj.imp id fun y => ⟨by omega, by omega⟩
  have W1 := X.wr (δ' := settleD δ i n) E18 (sd := s5) (sf := sf) (by rw [hc]; simpa using k21) e21 (by rw [hc]; exact o18.lst dirF_sized DirQ.stab hM fun b off hb => .inr ⟨(n6 b off hb).1, by have := (n6 b off hb).2; omega⟩) (by rw [hc]; exact FilL.stab.go E18 (fun _ x => x.elim) (grow_le _ _ _) B)
  exact k h21 _ W1.1 W1.2

end Go.V.YtdeihieblljfcaaGreat
/-! The document's disk: names with one put or taken away. -/
namespace Go.V.YtdeihieblljfcaaGreat
open Go Go.V

structure StN (B : Nat) (hh : Heap) (s t : Slc) (A : List Tx) (L : List Nat) : Prop where
  oa : Own 1 sF hh s A
  ob : Own 1 jF hh t L
  ga : ∀ b off, s.a = some (b, off) → B ≤ b
  gb : ∀ b off, t.a = some (b, off) → B ≤ b
  dj : ∀ b o o', s.a = some (b, o) → t.a = some (b, o') → False
  sz : B ≤ hh.size
theorem StN.ext0 {B : Nat} {h h' : Heap} {s t : Slc} {A : List Tx} {L : List Nat} (S : StN B h s t A L) (e : Ext0 h h') : StN B h' s t A L :=
  ⟨S.oa.ext0 e, S.ob.ext0 e, S.ga, S.gb, S.dj, Nat.le_trans S.sz e.size⟩
theorem StN.set {B : Nat} {h h' : Heap} {s t : Slc} {A : List Tx} {L : List Nat} (S : StN B h s t A L) {c : Nat} (e : Ext (fun i => i = c) h h') (hc : c < B) : StN B h' s t A L :=
  ⟨S.oa.ext e fun ⟨b, off, hb, hx⟩ => by have := S.ga _ _ hb; have : b = c := hx; omega, S.ob.ext e fun ⟨b, off, hb, hx⟩ => by have := S.gb _ _ hb; have : b = c := hx; omega, S.ga, S.gb, S.dj, Nat.le_trans S.sz e.size⟩
theorem StN.appN {B : Nat} {h : Heap} {s t : Slc} {A : List Tx} {L : List Nat} (S : StN B h s t A L) {b : Nat} {t0 : TypeId} {w : Tx} (kb : Blk h b t0 [.str (tx w)]) (hl : A.length ≤ 4000000) {K : Slc → Heap → Prop}
    (k : ∀ s' h', StN B h' s' t (A ++ [w]) L → Ext (fun i => B ≤ i) h h' → Grow s h s' h' → K s' h') : AppC 9 [.str (ByteArray.mk #[])] 1 16 s ⟨some (b, 0), 1, 1⟩ h K :=
  AppC.grow sF_sized (by decide) rfl S.oa ((Own.new sF_sized (l := [w]) kb).arr sF_sized) (by simp; omega) fun s' h' o' g => k s' h'
    ⟨o', S.ob.ext g.ext fun ⟨b, off, hb, off', hx⟩ => S.dj b off' off hx hb, (g.ge S.ga S.sz).2, S.gb, fun b o o' h1 h2 => by
      rcases g.new with x | ⟨b', x, y⟩
      · rw [x] at h1; exact S.dj b o o' h1 h2
      · rw [x] at h1; cases h1; have := (S.ob.lt _ _ h2).1; omega, Nat.le_trans S.sz g.ext.size⟩ (g.ge S.ga S.sz).1 g
theorem StN.appF {B : Nat} {h : Heap} {s t : Slc} {A : List Tx} {L : List Nat} (S : StN B h s t A L) {b : Nat} {t0 : TypeId} {x : Nat} (kb : Blk h b t0 [.int .i64 (x : Int)]) (hl : L.length ≤ 4000000) {K : Slc → Heap → Prop}
    (k : ∀ t' h', StN B h' s t' A (L ++ [x]) → Ext (fun i => B ≤ i) h h' → K t' h') : AppC 3 [.int .i64 (0 : Int)] 1 8 t ⟨some (b, 0), 1, 1⟩ h K :=
  AppC.grow jF_sized (by decide) rfl S.ob ((Own.new jF_sized (l := [x]) kb).arr jF_sized) (by simp; omega) fun s' h' o' g => k s' h'
    ⟨S.oa.ext g.ext fun ⟨b, off, hb, off', hx⟩ => S.dj b off off' hb hx, o', S.ga, (g.ge S.gb S.sz).2, fun b o o' h1 h2 => by
      rcases g.new with x | ⟨b', x, y⟩
      · rw [x] at h2; exact S.dj b o o' h1 h2
      · rw [x] at h2; cases h2; have := (S.oa.lt _ _ h1).1; omega, Nat.le_trans S.sz g.ext.size⟩ (g.ge S.gb S.sz).1

def wstep (n : Tx) (x : Nat) (a : Bool × Nm) (p : Tx × Nat) : Bool × Nm :=
  (a.1 || decide (n ≤ p.1), if p.1 = n then (if a.1 = false ∧ n ≤ p.1 then a.2 ++ [(n, x)] else a.2) else (if a.1 = false ∧ n ≤ p.1 then a.2 ++ [(n, x)] else a.2) ++ [p])
def wfold (n : Tx) (x : Int) (l : Nm) : Bool × Nm := l.foldl (wstep n x.toNat) (decide (x < 0), [])
def withD (n : Tx) (x : Int) (l : Nm) : Nm := if (wfold n x l).1 = true then (wfold n x l).2 else (wfold n x l).2 ++ [(n, x.toNat)]
theorem wfold_snoc (n : Tx) (x : Int) (l : Nm) (p : Tx × Nat) : wfold n x (l ++ [p]) = wstep n x.toNat (wfold n x l) p := by unfold wfold; rw [List.foldl_append]; rfl
theorem wfold_len (n : Tx) (x : Int) (l : Nm) : (wfold n x l).2.length ≤ 2 * l.length := by
  induction l using snoc_ind with
  | h0 => exact Nat.le_refl _
  | h1 l p ih =>
    rw [wfold_snoc, List.length_append]
    unfold wstep
    simp only
    split <;> split <;> simp <;> omega
theorem wfold_neg {n : Tx} {x : Int} (hx : x < 0) (l : Nm) : (wfold n x l).1 = true := by
  induction l using snoc_ind with
  | h0 => exact decide_eq_true hx
  | h1 l p ih => rw [wfold_snoc]; unfold wstep; simp only; rw [ih]; rfl

theorem c134 {h : Heap} {M : Bl} {p : Slc × Slc} {l : Nm} (N : NmR h M p l) (hb : l.length ≤ 1000000) {n : Tx} {x : Int} {R : Slc → Slc → Heap → Prop}
    (k : ∀ s t h', Own 1 sF h' s ((withD n x l).map (·.1)) → Own 1 jF h' t ((withD n x l).map (·.2)) → (∀ b off, s.a = some (b, off) → h.size ≤ b) → (∀ b off, t.a = some (b, off) → h.size ≤ b) → Ext0 h h' → R s t h') :
    Call Go.Proofs.Tryz.prog 134 [.agg [.slc p.1, .slc p.2], .lf (.str (tx n)), .lf (.int .i64 x)] h [.agg [.slc, .slc]] R := by
  have hl1 := N.a.len
  rw [List.length_map] at hl1
  refine ok134 (New.mk fun b0 h1 hb0 hs1 e1 k1 => New.mk fun b2 h3 hb2 hs3 e3 k3 => New.mk fun b4 h5 hb4 hs5 e5 k5 => ?_)
  have e05 := (e1.trans e3).trans e5
  have S5 : StN h5.size h5 ⟨none, 0, 0⟩ ⟨none, 0, 0⟩ [] [] := ⟨Own.nil _ _ _, Own.nil _ _ _, fun b off x => (by cases x), fun b off x => (by cases x), fun b o o' x => (by cases x), Nat.le_refl _⟩
  have hB : h.size ≤ h5.size := e05.size
  have kk3 : ∀ {hh : Heap}, h5.size ≤ hh.size → ∀ b ∈ [b0, b2, b4], b < h5.size ∧ b < hh.size := fun hz b hm => by
    simp only [List.mem_cons, List.not_mem_nil, or_false] at hm; omega
  have kk2 : ∀ {hh : Heap}, h5.size ≤ hh.size → ∀ b ∈ [b2, b4], b < h5.size ∧ b < hh.size := fun hz b hm => by
    simp only [List.mem_cons, List.not_mem_nil, or_false] at hm; omega
  have ln : ∀ m, (wfold n x (l.take m)).2.length ≤ 2000000 := fun m => by
    have := wfold_len n x (l.take m)
    rw [List.length_take] at this; omega
  refine ⟨fun c i s t hh dd => ∃ m : Nat, i = (m : Int) ∧ m ≤ l.length ∧ c = (wfold n x (l.take m)).1 ∧ StN h5.size hh s t ((wfold n x (l.take m)).2.map (·.1)) ((wfold n x (l.take m)).2.map (·.2)) ∧ Ext0 h hh ∧ dd = l.length - m, ⟨_, 0, rfl, Nat.zero_le _, rfl, S5, e05, rfl⟩, ?_⟩
  rintro c i s t h12 dd ⟨m, rfl, hm, hc, S, e12, rfl⟩
  have lnm := ln m
  have hw : ∀ q, l[m]? = some q → wfold n x (l.take (m + 1)) = wstep n x.toNat (wfold n x (l.take m)) q := fun q hq => by rw [List.take_add_one, hq]; exact wfold_snoc _ _ _ _
  have neg : c = false → (x.toNat : Int) = x := fun hcf => by
    rcases Int.lt_or_le x 0 with y | y
    · rw [hc, wfold_neg y] at hcf; cases hcf
    · omega
  generalize hwf : wfold n x (l.take m) = W at *
  obtain ⟨c0, out⟩ := W
  simp only at hc S lnm
  subst hc
  refine Br.dec (fun hlt => ?_) fun hge => ?_
  · have hlt' : m < l.length := by omega
    have hget := List.getElem?_eq_getElem hlt'
    generalize l[m] = q at hget
    have hw := hw q hget
    have na : (l.map (·.1))[m]? = some q.1 := by rw [List.getElem?_map, hget]; rfl
    have nb : (l.map (·.2))[m]? = some q.2 := by rw [List.getElem?_map, hget]; rfl
    have A12 := N.a.ext0 e12
    have next : ∀ c' s' t' hh, Ext0 h hh → (c', (wstep n x.toNat (c, out) q).2) = wstep n x.toNat (c, out) q → StN h5.size hh s' t' ((wstep n x.toNat (c, out) q).2.map (·.1)) ((wstep n x.toNat (c, out) q).2.map (·.2)) →
        ∃ b76, b76 < l.length - m ∧ ∃ m' : Nat, IntKind.wrap .i64 ((m : Int) + 1) = (m' : Int) ∧ m' ≤ l.length ∧ c' = (wfold n x (l.take m')).1 ∧ StN h5.size hh s' t' ((wfold n x (l.take m')).2.map (·.1)) ((wfold n x (l.take m')).2.map (·.2)) ∧ Ext0 h hh ∧ b76 = l.length - m' := fun c' s' t' hh e he S' =>
      ⟨l.length - (m + 1), by omega, m + 1, by rw [wi64 (by omega) (by omega)]; rfl, by omega, by rw [hw, ← he], by rw [hw]; exact S', e, rfl⟩
    refine ⟨fun c' s' t' hh => ∃ out1 : Nm, c' = (c || decide (n ≤ q.1)) ∧ out1 = (if c = false ∧ n ≤ q.1 then out ++ [(n, x.toNat)] else out) ∧ StN h5.size hh s' t' (out1.map (·.1)) (out1.map (·.2)) ∧ Ext0 h hh, ⟨fun b hh => hh = h12 ∧ b = (!c && decide (n ≤ q.1)), ?_, ?_⟩, ?_⟩
    · refine Br.not (fun hcf => ?_) fun hct => ⟨rfl, by rw [hct]; rfl⟩
      refine A12.ix rfl (x := q.1) na fun b16 b17 hcell => ⟨_, hcell, rfl, ?_⟩
      rw [strLt_tx, hcf, Bool.not_false, Bool.true_and, ← decide_not]
      exact decide_eq_decide.2 List.not_lt
    · rintro b h20 ⟨rfl, rfl⟩
      refine Br.mk (fun hb => ?_) fun hb => ⟨out, ?_, ?_, S, e12⟩
      rotate_left 1
      · cases c
        · simp at hb; simp [hb]
        · rfl
      · cases c
        · simp at hb; simp [hb]
        · simp
      have hcf : c = false := by cases c <;> simp at hb ⊢
      have hle : n ≤ q.1 := by rw [hcf] at hb; simpa using hb
      have hxn := neg hcf
      refine ⟨fun s' t' hh => StN h5.size hh s' t' ((out ++ [(n, x.toNat)]).map (·.1)) ((out ++ [(n, x.toNat)]).map (·.2)) ∧ Ext0 h hh, ⟨New.mk fun b22 h23 hb22 hs23 e23 k23 => ⟨?_, ?_⟩, ?_⟩, fun s' t' hh ⟨S', e'⟩ => ⟨_, by rw [hcf]; simp [hle], by rw [if_pos ⟨hcf, hle⟩], S', e'⟩⟩
      all_goals rw [List.map_append, List.map_append]
      all_goals rw [← hxn]
      · refine (S.ext0 e23).appN k23 (by simpa using (by omega : out.length ≤ 4000000)) fun s24 h25 S25 e25 g25 => ⟨keepAll e25 (kk3 (S.ext0 e23).sz), New.mk fun b26 h27 hb26 hs27 e27 k27 => ?_⟩
        refine (S25.ext0 e27).appF k27 (by simpa using (by omega : out.length ≤ 4000000)) fun s28 h29 S29 e29 => ⟨keepAll e29 (kk3 (S25.ext0 e27).sz), Set.mk fun h30 hs30 e30 k30 => Set.mk fun h31 hs31 e31 k31 => ⟨(S29.set e30 (by omega)).set e31 (by omega), ?_⟩⟩
        exact ((((((e12.trans e23).ge0 e25 hB).trans e27).ge0 e29 hB).tmp e30 (by omega)).tmp e31 (by omega))
      · refine New.mk fun b26 h27 hb26 hs27 e27 k27 => ?_
        refine ((S.ext0 e23).ext0 e27).appN (k23.ext e27) (by simpa using (by omega : out.length ≤ 4000000)) fun s24 h25 S25 e25 g25 => ⟨keepAll e25 (kk3 ((S.ext0 e23).ext0 e27).sz), ?_⟩
        refine S25.appF (k27.ext g25.ext fun ⟨off, x⟩ => by have := (S.oa.lt _ _ x).1; omega) (by simpa using (by omega : out.length ≤ 4000000)) fun s28 h29 S29 e29 => ⟨keepAll e29 (kk3 S25.sz), Set.mk fun h30 hs30 e30 k30 => Set.mk fun h31 hs31 e31 k31 => ⟨(S29.set e30 (by omega)).set e31 (by omega), ?_⟩⟩
        exact ((((((e12.trans e23).trans e27).ge0 e25 hB).ge0 e29 hB).tmp e30 (by omega)).tmp e31 (by omega))
      · refine New.mk fun b22 h23 hb22 hs23 e23 k23 => New.mk fun b26 h27 hb26 hs27 e27 k27 => ?_
        refine ((S.ext0 e23).ext0 e27).appN k27 (by simpa using (by omega : out.length ≤ 4000000)) fun s24 h25 S25 e25 g25 => ⟨keepAll e25 (kk3 ((S.ext0 e23).ext0 e27).sz), ?_⟩
        refine S25.appF ((k23.ext e27).ext g25.ext fun ⟨off, x⟩ => by have := (S.oa.lt _ _ x).1; omega) (by simpa using (by omega : out.length ≤ 4000000)) fun s28 h29 S29 e29 => ⟨keepAll e29 (kk3 S25.sz), Set.mk fun h30 hs30 e30 k30 => Set.mk fun h31 hs31 e31 k31 => ⟨(S29.set e30 (by omega)).set e31 (by omega), ?_⟩⟩
        exact ((((((e12.trans e23).trans e27).ge0 e25 hB).ge0 e29 hB).tmp e30 (by omega)).tmp e31 (by omega))
    · rintro c' s' t' h56 ⟨out1, rfl, ho1, S56, e56⟩
      have hol : out1.length ≤ 3000000 := by rw [ho1]; split <;> first | omega | (simp; omega)
      refine (N.a.ext0 e56).ix rfl (x := q.1) na fun b57 b58 hcell => ⟨_, hcell, ?_⟩
      rw [tx_eq]
      refine Br.not (fun hne => ?_) fun heq => next _ _ _ _ e56 ?_ ?_
      rotate_left 1
      · unfold wstep; rfl
      · have : (wstep n x.toNat (c, out) q).2 = out1 := by unfold wstep; simp only; rw [if_pos (of_decide_eq_true heq), ho1]
        rw [this]; exact S56
      have hne : q.1 ≠ n := of_decide_eq_false hne
      have hst : (wstep n x.toNat (c, out) q).2 = out1 ++ [q] := by unfold wstep; simp only; rw [if_neg hne, ho1]
      have fin : ∀ s' t' hh, Ext0 h hh → StN h5.size hh s' t' (out1.map (·.1) ++ [q.1]) (out1.map (·.2) ++ [q.2]) → _ := fun s' t' hh e S' => next (c || decide (n ≤ q.1)) s' t' hh e (by unfold wstep; rfl) (by rw [hst, List.map_append, List.map_append]; exact S')
      refine N.a.ix rfl (x := q.1) na fun b60 b61 hc1 => ⟨_, cellsAt.ext e56 id hc1, N.b.ix rfl (x := q.2) nb fun b63 b64 hc2 => ⟨_, cellsAt.ext e56 id hc2, ?_⟩⟩
      have l1 : b60 < h.size := cellsAt.lt hc1
      have l2 : b63 < h.size := cellsAt.lt hc2
      refine ⟨New.mk fun b22 h23 hb22 hs23 e23 k23 => ⟨cellsAt.ext (e56.trans e23) id hc2, ⟨?_, ?_⟩⟩, ?_⟩
      · refine (S56.ext0 e23).appN k23 (by simpa using (by omega : out1.length ≤ 4000000)) fun s24 h25 S25 e25 g25 => ⟨keepAll e25 (kk3 (S56.ext0 e23).sz), cellsAt.ext ((e56.trans e23).ge0 e25 hB) id hc2, New.mk fun b26 h27 hb26 hs27 e27 k27 => ?_⟩
        refine (S25.ext0 e27).appF k27 (by simpa using (by omega : out1.length ≤ 4000000)) fun s28 h29 S29 e29 => ⟨keepAll e29 (kk3 (S25.ext0 e27).sz), Set.mk fun h30 hs30 e30 k30 => Set.mk fun h31 hs31 e31 k31 => fin _ _ _ ?_ ((S29.set e30 (by omega)).set e31 (by omega))⟩
        exact ((((((e56.trans e23).ge0 e25 hB).trans e27).ge0 e29 hB).tmp e30 (by omega)).tmp e31 (by omega))
      · refine New.mk fun b26 h27 hb26 hs27 e27 k27 => ?_
        refine ((S56.ext0 e23).ext0 e27).appN (k23.ext e27) (by simpa using (by omega : out1.length ≤ 4000000)) fun s24 h25 S25 e25 g25 => ⟨keepAll e25 (kk3 ((S56.ext0 e23).ext0 e27).sz), ?_⟩
        refine S25.appF (k27.ext g25.ext fun ⟨off, x⟩ => by have := (S56.oa.lt _ _ x).1; omega) (by simpa using (by omega : out1.length ≤ 4000000)) fun s28 h29 S29 e29 => ⟨keepAll e29 (kk3 S25.sz), Set.mk fun h30 hs30 e30 k30 => Set.mk fun h31 hs31 e31 k31 => fin _ _ _ ?_ ((S29.set e30 (by omega)).set e31 (by omega))⟩
        exact ((((((e56.trans e23).trans e27).ge0 e25 hB).ge0 e29 hB).tmp e30 (by omega)).tmp e31 (by omega))
      · refine New.mk fun b22 h23 hb22 hs23 e23 k23 => ⟨cellsAt.ext (e56.trans e23) id hc1, New.mk fun b26 h27 hb26 hs27 e27 k27 => ?_⟩
        refine ((S56.ext0 e23).ext0 e27).appN k27 (by simpa using (by omega : out1.length ≤ 4000000)) fun s24 h25 S25 e25 g25 => ⟨keepAll e25 (kk3 ((S56.ext0 e23).ext0 e27).sz), ?_⟩
        refine S25.appF ((k23.ext e27).ext g25.ext fun ⟨off, x⟩ => by have := (S56.oa.lt _ _ x).1; omega) (by simpa using (by omega : out1.length ≤ 4000000)) fun s28 h29 S29 e29 => ⟨keepAll e29 (kk3 S25.sz), Set.mk fun h30 hs30 e30 k30 => Set.mk fun h31 hs31 e31 k31 => fin _ _ _ ?_ ((S29.set e30 (by omega)).set e31 (by omega))⟩
        exact ((((((e56.trans e23).trans e27).ge0 e25 hB).ge0 e29 hB).tmp e30 (by omega)).tmp e31 (by omega))
  · have hml : m = l.length := by omega
    have hall : wfold n x l = (c, out) := by rw [hml, List.take_length] at hwf; exact hwf
    have gh : ∀ {s : Slc}, (∀ b off, s.a = some (b, off) → h5.size ≤ b) → ∀ b off, s.a = some (b, off) → h.size ≤ b := fun g b off hb => by have := g b off hb; omega
    have sz := S.sz
    refine Br.not (fun hcf => ?_) fun hct => Set.mk fun h129 hs e k129 => ?_
    rotate_left 1
    · have hd : withD n x l = out := by unfold withD; rw [hall]; exact if_pos hct
      have S' := S.set e (by omega)
      exact k s t h129 (by rw [hd]; exact S'.oa) (by rw [hd]; exact S'.ob) (gh S'.ga) (gh S'.gb) (e12.tmp e (by omega))
    have hxn := neg hcf
    have hd : withD n x l = out ++ [(n, x.toNat)] := by unfold withD; rw [hall]; exact if_neg (by rw [hcf]; simp)
    have fin : ∀ s' t' hh, Ext0 h hh → StN h5.size hh s' t' (out.map (·.1) ++ [n]) (out.map (·.2) ++ [x.toNat]) → R s' t' hh := fun s' t' hh e S' =>
      k s' t' hh (by rw [hd, List.map_append]; exact S'.oa) (by rw [hd, List.map_append]; exact S'.ob) (gh S'.ga) (gh S'.gb) e
    rw [← hxn]
    refine ⟨New.mk fun b22 h23 hb22 hs23 e23 k23 => ⟨?_, ?_⟩, ?_⟩
    · refine (S.ext0 e23).appN k23 (by simpa using (by omega : out.length ≤ 4000000)) fun s24 h25 S25 e25 g25 => ⟨keepAll e25 (kk2 (S.ext0 e23).sz), New.mk fun b26 h27 hb26 hs27 e27 k27 => ?_⟩
      refine (S25.ext0 e27).appF k27 (by simpa using (by omega : out.length ≤ 4000000)) fun s28 h29 S29 e29 => ⟨keepAll e29 (kk2 (S25.ext0 e27).sz), Set.mk fun h30 hs30 e30 k30 => Set.mk fun h31 hs31 e31 k31 => Set.mk fun h32 hs32 e32 k32 => fin _ _ _ ?_ (((S29.set e30 (by omega)).set e31 (by omega)).set e32 (by omega))⟩
      exact (((((((e12.trans e23).ge0 e25 hB).trans e27).ge0 e29 hB).tmp e30 (by omega)).tmp e31 (by omega)).tmp e32 (by omega))
    · refine New.mk fun b26 h27 hb26 hs27 e27 k27 => ?_
      refine ((S.ext0 e23).ext0 e27).appN (k23.ext e27) (by simpa using (by omega : out.length ≤ 4000000)) fun s24 h25 S25 e25 g25 => ⟨keepAll e25 (kk2 ((S.ext0 e23).ext0 e27).sz), ?_⟩
      refine S25.appF (k27.ext g25.ext fun ⟨off, x⟩ => by have := (S.oa.lt _ _ x).1; omega) (by simpa using (by omega : out.length ≤ 4000000)) fun s28 h29 S29 e29 => ⟨keepAll e29 (kk2 S25.sz), Set.mk fun h30 hs30 e30 k30 => Set.mk fun h31 hs31 e31 k31 => Set.mk fun h32 hs32 e32 k32 => fin _ _ _ ?_ (((S29.set e30 (by omega)).set e31 (by omega)).set e32 (by omega))⟩
      exact (((((((e12.trans e23).trans e27).ge0 e25 hB).ge0 e29 hB).tmp e30 (by omega)).tmp e31 (by omega)).tmp e32 (by omega))
    · refine New.mk fun b22 h23 hb22 hs23 e23 k23 => New.mk fun b26 h27 hb26 hs27 e27 k27 => ?_
      refine ((S.ext0 e23).ext0 e27).appN k27 (by simpa using (by omega : out.length ≤ 4000000)) fun s24 h25 S25 e25 g25 => ⟨keepAll e25 (kk2 ((S.ext0 e23).ext0 e27).sz), ?_⟩
      refine S25.appF ((k23.ext e27).ext g25.ext fun ⟨off, x⟩ => by have := (S.oa.lt _ _ x).1; omega) (by simpa using (by omega : out.length ≤ 4000000)) fun s28 h29 S29 e29 => ⟨keepAll e29 (kk2 S25.sz), Set.mk fun h30 hs30 e30 k30 => Set.mk fun h31 hs31 e31 k31 => Set.mk fun h32 hs32 e32 k32 => fin _ _ _ ?_ (((S29.set e30 (by omega)).set e31 (by omega)).set e32 (by omega))⟩
      exact (((((((e12.trans e23).trans e27).ge0 e25 hB).ge0 e29 hB).tmp e30 (by omega)).tmp e31 (by omega)).tmp e32 (by omega))

end Go.V.YtdeihieblljfcaaGreat
