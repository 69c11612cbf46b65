/- This text proves a part of the laws of seat YtdeihieblljfcaaGreat, under no condition: F2m F2n F2o. -/
import Derived.Test.YtdeihieblljfcaaGreatPN
import Derived.Test.YtdeihieblljfcaaGreatPE
import Derived.Test.YtdeihieblljfcaaGreatPF
set_option linter.unusedVariables false
set_option linter.unusedSimpArgs false
/-! The disk in memory. -/
namespace Go.V.YtdeihieblljfcaaGreat
open Go Go.V

structure Sc where
  frm : Int
  many : Int
  seen : Int
structure Fl where
  fast : Tx
  opn : List (Nat × Tx)
  now : Tx
structure Dr where
  now : Nat
  was : List Nat
structure Dk where
  quota : Int
  dirs : List (Tx × Nat)
  dr : Nat → Option Dr
  mp : Nat → Option (List (Tx × Nat))
  fl : Nat → Option Fl
  fail : Sc
  stop : Sc

inductive Lab where
  | fs | dm | dir | nm | was (d : Nat) | file | opn (x : Nat) | dat
abbrev Labs := Nat → Option Lab

def dF : UInt8 → List Lf := fun c => [.int .u8 (c.toNat : Int)]
theorem dF_sized : Sized 1 dF := fun _ => rfl
def wF : Nat → List Lf := fun r => [.map (some r)]
theorem wF_sized : Sized 1 wF := fun _ => rfl
def oF : Nat × Slc → List Lf := fun p => [.int .i64 (p.1 : Int), .slc p.2]
theorem oF_sized : Sized 2 oF := fun _ => rfl

structure Byt (h : Heap) (lab : Labs) (s : Slc) (l : Tx) : Prop where
  arr : Arr 1 dF h s l
  lab : ∀ b off, s.a = some (b, off) → lab b = some .dat
  cap : s.len ≤ s.cap
  pl : s.plain
structure DirR (h : Heap) (lab : Labs) (b : Nat) (d : Dr) : Prop where
  ex : ∃ s, Blk h b 116 [.map (some d.now), .slc s] ∧ Own 1 wF h s d.was ∧ ∀ x off, s.a = some (x, off) → lab x = some (.was b)
structure FileR (h : Heap) (lab : Labs) (x : Nat) (c : Fl) : Prop where
  ex : ∃ (sf so sn : Slc) (os : List ((Nat × Slc) × Tx)), Blk h x 102 [.slc sf, .slc so, .slc sn] ∧ Byt h lab sf c.fast ∧ Own 2 oF h so (os.map (·.1)) ∧ (∀ y off, so.a = some (y, off) → lab y = some (.opn x)) ∧
    c.opn = os.map (fun o => (o.1.1, o.2)) ∧ (∀ o ∈ os, Byt h lab o.1.2 o.2) ∧ Byt h lab sn c.now
structure DR (h : Heap) (lab : Labs) (f D : Nat) (σ : Dk) : Prop where
  blk : Blk h f 111 [.int .i64 σ.quota, .map (some D), .int .i64 σ.fail.frm, .int .i64 σ.fail.many, .int .i64 σ.fail.seen, .int .i64 σ.stop.frm, .int .i64 σ.stop.many, .int .i64 σ.stop.seen]
  dm : MapN h D σ.dirs
  lf : lab f = some .fs
  lD : lab D = some .dm
  dirs : ∀ b d, σ.dr b = some d → DirR h lab b d ∧ lab b = some .dir
  mps : ∀ r m, σ.mp r = some m → MapN h r m ∧ lab r = some .nm
  fls : ∀ x c, σ.fl x = some c → FileR h lab x c ∧ lab x = some .file
  lt : ∀ b, lab b ≠ none → b < h.size

theorem Byt.ext {S : Nat → Prop} {h h' : Heap} {lab : Labs} {s : Slc} {l : Tx} (y : Byt h lab s l) (e : Ext S h h') (hs : ∀ b, S b → lab b ≠ some .dat) : Byt h' lab s l :=
  ⟨y.arr.ext e fun ⟨b, off, x, z⟩ => hs b z (y.lab b off x), y.lab, y.cap, y.pl⟩
theorem DirR.ext {S : Nat → Prop} {h h' : Heap} {lab : Labs} {b : Nat} {d : Dr} (y : DirR h lab b d) (e : Ext S h h') (h1 : ¬ S b) (h2 : ∀ x, S x → lab x ≠ some (.was b)) : DirR h' lab b d := by
  obtain ⟨s, k, o, hl⟩ := y.ex
  exact ⟨s, k.ext e h1, o.ext e fun ⟨x, off, h3, h4⟩ => h2 x h4 (hl x off h3), hl⟩
theorem FileR.ext {S : Nat → Prop} {h h' : Heap} {lab : Labs} {x : Nat} {c : Fl} (y : FileR h lab x c) (e : Ext S h h') (h1 : ¬ S x) (h2 : ∀ z, S z → lab z ≠ some (.opn x)) (h3 : ∀ z, S z → lab z ≠ some .dat) : FileR h' lab x c := by
  obtain ⟨sf, so, sn, os, k, yf, oo, hl, hc, ho, yn⟩ := y.ex
  exact ⟨sf, so, sn, os, k.ext e h1, yf.ext e h3, oo.ext e fun ⟨z, off, a, b⟩ => h2 z b (hl z off a), hl, hc, fun o hx => (ho o hx).ext e h3, yn.ext e h3⟩

theorem DR.ext {S : Nat → Prop} {h h' : Heap} {lab : Labs} {f D : Nat} {σ : Dk} (R : DR h lab f D σ) (e : Ext S h h') (hs : ∀ b, S b → lab b = none) : DR h' lab f D σ := by
  have no : ∀ {b : Nat} {L : Lab}, lab b = some L → ¬ S b := fun hb hx => by rw [hs _ hx] at hb; cases hb
  have no2 : ∀ {b : Nat} {L : Lab}, S b → lab b ≠ some L := fun hx hb => by rw [hs _ hx] at hb; cases hb
  exact ⟨R.blk.ext e (no R.lf), MapR.ext R.dm e (no R.lD), R.lf, R.lD, fun b d hd => ⟨(R.dirs b d hd).1.ext e (no (R.dirs b d hd).2) fun x hx => no2 hx, (R.dirs b d hd).2⟩,
    fun r m hm => ⟨MapR.ext (R.mps r m hm).1 e (no (R.mps r m hm).2), (R.mps r m hm).2⟩, fun x c hc => ⟨(R.fls x c hc).1.ext e (no (R.fls x c hc).2) (fun z hz => no2 hz) fun z hz => no2 hz, (R.fls x c hc).2⟩,
    fun b hb => Nat.lt_of_lt_of_le (R.lt b hb) e.size⟩
theorem DR.ext0 {h h' : Heap} {lab : Labs} {f D : Nat} {σ : Dk} (R : DR h lab f D σ) (e : Ext0 h h') : DR h' lab f D σ := R.ext e fun _ x => x.elim

structure Stp (lab : Labs) (h : Heap) (lab' : Labs) (h' : Heap) : Prop where
  size : h.size ≤ h'.size
  same : ∀ b, b < h.size → (lab b = none ∨ lab b = some .dat) → h'[b]? = h[b]?
  lab : ∀ b, b < h.size → lab' b = lab b
theorem Stp.refl (lab : Labs) (h : Heap) : Stp lab h lab h := ⟨Nat.le_refl _, fun _ _ _ => rfl, fun _ _ => rfl⟩
theorem Stp.trans {l1 l2 l3 : Labs} {h1 h2 h3 : Heap} (a : Stp l1 h1 l2 h2) (b : Stp l2 h2 l3 h3) : Stp l1 h1 l3 h3 :=
  ⟨Nat.le_trans a.size b.size, fun i hi hl => (b.same i (Nat.lt_of_lt_of_le hi a.size) (hl.imp (fun x => (a.lab i hi).trans x) fun x => (a.lab i hi).trans x)).trans (a.same i hi hl), fun i hi => (b.lab i (Nat.lt_of_lt_of_le hi a.size)).trans (a.lab i hi)⟩
theorem Stp.of0 {lab : Labs} {h h' : Heap} (e : Ext0 h h') : Stp lab h lab h' := ⟨e.size, fun b hb _ => e.same b hb id, fun _ _ => rfl⟩
theorem Stp.of {S : Nat → Prop} {lab : Labs} {h h' : Heap} (e : Ext S h h') (hs : ∀ b, b < h.size → S b → lab b ≠ none ∧ lab b ≠ some .dat) : Stp lab h lab h' := ⟨e.size, fun b hb hl => e.same b hb fun x => hl.elim (hs b hb x).1 (hs b hb x).2, fun _ _ => rfl⟩
theorem Stp.ext {lab lab' : Labs} {h h' : Heap} (s : Stp lab h lab' h') : Ext (fun b => lab b ≠ none) h h' := ⟨s.size, fun b hb hn => s.same b hb (.inl (Classical.byContradiction fun x => hn x))⟩
theorem Stp.ext' {lab lab' : Labs} {h h' : Heap} (s : Stp lab h lab' h') : Ext (fun b => lab b ≠ none ∧ lab b ≠ some .dat) h h' := ⟨s.size, fun b hb hn => s.same b hb (by
  rcases Classical.em (lab b = none) with x | x
  · exact .inl x
  · exact .inr (Classical.byContradiction fun y => hn ⟨x, y⟩))⟩

def upd {α : Type} (f : Nat → Option α) (b : Nat) (x : α) : Nat → Option α := fun i => if i = b then some x else f i
theorem upd_same {α : Type} (f : Nat → Option α) (b : Nat) (x : α) : upd f b x b = some x := by unfold upd; rw [if_pos rfl]
theorem upd_ne {α : Type} {f : Nat → Option α} {b i : Nat} {x : α} (h : i ≠ b) : upd f b x i = f i := by unfold upd; rw [if_neg h]
theorem upd_some {α : Type} {f : Nat → Option α} {b i : Nat} {x y : α} (h : upd f b x i = some y) : (i = b ∧ y = x) ∨ (i ≠ b ∧ f i = some y) := by
  by_cases hi : i = b
  · subst hi; rw [upd_same] at h; cases h; exact .inl ⟨rfl, rfl⟩
  · rw [upd_ne hi] at h; exact .inr ⟨hi, h⟩

theorem DR.name {h : Heap} {lab : Labs} {f D : Nat} {σ : Dk} (R : DR h lab f D σ) {y : Nat} {L : Lab} (hy : lab y = none) (hlt : y < h.size) : DR h (upd lab y L) f D σ := by
  have same : ∀ {b : Nat} {M : Lab}, lab b = some M → upd lab y L b = some M := fun {b M} hb => by
    rw [upd_ne]; exact hb
    rintro rfl; rw [hy] at hb; cases hb
  have byt : ∀ {s : Slc} {l : Tx}, Byt h lab s l → Byt h (upd lab y L) s l := fun z => ⟨z.arr, fun b off hb => same (z.lab b off hb), z.cap, z.pl⟩
  refine ⟨R.blk, R.dm, same R.lf, same R.lD, fun b d hd => ⟨?_, same (R.dirs b d hd).2⟩, fun r m hm => ⟨(R.mps r m hm).1, same (R.mps r m hm).2⟩, fun x c hc => ⟨?_, same (R.fls x c hc).2⟩, fun b hb => ?_⟩
  · obtain ⟨s, k, o, hl⟩ := (R.dirs b d hd).1.ex
    exact ⟨s, k, o, fun x off hx => same (hl x off hx)⟩
  · obtain ⟨sf, so, sn, os, k, yf, oo, hl, hc', ho, yn⟩ := (R.fls x c hc).1.ex
    exact ⟨sf, so, sn, os, k, byt yf, oo, fun z off hz => same (hl z off hz), hc', fun o hx => byt (ho o hx), byt yn⟩
  · by_cases hby : b = y
    · subst hby; exact hlt
    · rw [upd_ne hby] at hb; exact R.lt b hb
theorem Stp.name {lab lab' : Labs} {h h' : Heap} (s : Stp lab h lab' h') {y : Nat} {L : Lab} (hy : h.size ≤ y) : Stp lab h (upd lab' y L) h' :=
  ⟨s.size, s.same, fun b hb => by rw [upd_ne (by omega)]; exact s.lab b hb⟩

theorem DR.setF {h h' : Heap} {lab : Labs} {f D : Nat} {σ : Dk} (R : DR h lab f D σ) {a b : Sc} (e : Ext (fun i => i = f) h h')
    (k : Blk h' f 111 [.int .i64 σ.quota, .map (some D), .int .i64 a.frm, .int .i64 a.many, .int .i64 a.seen, .int .i64 b.frm, .int .i64 b.many, .int .i64 b.seen]) : DR h' lab f D { σ with fail := a, stop := b } := by
  have ne : ∀ {i : Nat} {L : Lab}, lab i = some L → L ≠ .fs → ¬ i = f := fun hi hL x => by subst x; rw [R.lf] at hi; cases hi; exact hL rfl
  have ne2 : ∀ {L : Lab} (i : Nat), L ≠ .fs → i = f → lab i ≠ some L := fun i hL x hi => ne hi hL x
  exact ⟨k, MapR.ext R.dm e (ne R.lD (by simp)), R.lf, R.lD, fun b d hd => ⟨(R.dirs b d hd).1.ext e (ne (R.dirs b d hd).2 (by simp)) fun x hx => ne2 x (by simp) hx, (R.dirs b d hd).2⟩,
    fun r m hm => ⟨MapR.ext (R.mps r m hm).1 e (ne (R.mps r m hm).2 (by simp)), (R.mps r m hm).2⟩, fun x c hc => ⟨(R.fls x c hc).1.ext e (ne (R.fls x c hc).2 (by simp)) (fun z hz => ne2 z (by simp) hz) fun z hz => ne2 z (by simp) hz, (R.fls x c hc).2⟩,
    fun b hb => Nat.lt_of_lt_of_le (R.lt b hb) e.size⟩

theorem DR.setM {h h' : Heap} {lab : Labs} {f D : Nat} {σ : Dk} (R : DR h lab f D σ) {L : List (Tx × Nat)} (e : Ext (fun i => i = D) h h') (k : MapN h' D L) : DR h' lab f D { σ with dirs := L } := by
  have ne : ∀ {i : Nat} {M : Lab}, lab i = some M → M ≠ .dm → ¬ i = D := fun hi hL x => by subst x; rw [R.lD] at hi; cases hi; exact hL rfl
  have ne2 : ∀ {M : Lab} (i : Nat), M ≠ .dm → i = D → lab i ≠ some M := fun i hL x hi => ne hi hL x
  exact ⟨R.blk.ext e (ne R.lf (by simp)), k, R.lf, R.lD, fun b d hd => ⟨(R.dirs b d hd).1.ext e (ne (R.dirs b d hd).2 (by simp)) fun x hx => ne2 x (by simp) hx, (R.dirs b d hd).2⟩,
    fun r m hm => ⟨MapR.ext (R.mps r m hm).1 e (ne (R.mps r m hm).2 (by simp)), (R.mps r m hm).2⟩, fun x c hc => ⟨(R.fls x c hc).1.ext e (ne (R.fls x c hc).2 (by simp)) (fun z hz => ne2 z (by simp) hz) fun z hz => ne2 z (by simp) hz, (R.fls x c hc).2⟩,
    fun b hb => Nat.lt_of_lt_of_le (R.lt b hb) e.size⟩

theorem DR.setD {h h' : Heap} {lab : Labs} {f D : Nat} {σ : Dk} (R : DR h lab f D σ) {b0 : Nat} {d0 : Dr} (hb0 : lab b0 = some .dir) (e : Ext (fun i => i = b0 ∨ lab i = some (.was b0)) h h') (k : DirR h' lab b0 d0) :
    DR h' lab f D { σ with dr := upd σ.dr b0 d0 } := by
  have ne : ∀ {i : Nat} {M : Lab}, lab i = some M → M ≠ .dir → M ≠ .was b0 → ¬ (i = b0 ∨ lab i = some (.was b0)) := fun hi h1 h2 x => by
    rcases x with x | x
    · subst x; rw [hb0] at hi; cases hi; exact h1 rfl
    · rw [x] at hi; cases hi; exact h2 rfl
  have ne2 : ∀ {M : Lab} (i : Nat), M ≠ .dir → M ≠ .was b0 → (i = b0 ∨ lab i = some (.was b0)) → lab i ≠ some M := fun i h1 h2 x hi => ne hi h1 h2 x
  refine ⟨R.blk.ext e (ne R.lf (by simp) (by simp)), MapR.ext R.dm e (ne R.lD (by simp) (by simp)), R.lf, R.lD, fun b d hd => ?_,
    fun r m hm => ⟨MapR.ext (R.mps r m hm).1 e (ne (R.mps r m hm).2 (by simp) (by simp)), (R.mps r m hm).2⟩, fun x c hc => ⟨(R.fls x c hc).1.ext e (ne (R.fls x c hc).2 (by simp) (by simp)) (fun z hz => ne2 z (by simp) (by simp) hz) fun z hz => ne2 z (by simp) (by simp) hz, (R.fls x c hc).2⟩,
    fun b hb => Nat.lt_of_lt_of_le (R.lt b hb) e.size⟩
  rcases upd_some hd with ⟨rfl, rfl⟩ | ⟨hne, hd⟩
  · exact ⟨k, hb0⟩
  · refine ⟨(R.dirs b d hd).1.ext e (fun x => ?_) fun x hx => ?_, (R.dirs b d hd).2⟩
    · rcases x with x | x
      · exact hne x
      · rw [(R.dirs b d hd).2] at x; cases x
    · rintro y
      rcases hx with hx | hx
      · subst hx; rw [hb0] at y; cases y
      · rw [hx] at y; cases y; exact hne rfl

theorem DR.setX {h h' : Heap} {lab : Labs} {f D : Nat} {σ : Dk} (R : DR h lab f D σ) {x0 : Nat} {c0 : Fl} (hx0 : lab x0 = some .file) (e : Ext (fun i => i = x0 ∨ lab i = some (.opn x0)) h h') (k : FileR h' lab x0 c0) :
    DR h' lab f D { σ with fl := upd σ.fl x0 c0 } := by
  have ne : ∀ {i : Nat} {M : Lab}, lab i = some M → M ≠ .file → M ≠ .opn x0 → ¬ (i = x0 ∨ lab i = some (.opn x0)) := fun hi h1 h2 x => by
    rcases x with x | x
    · subst x; rw [hx0] at hi; cases hi; exact h1 rfl
    · rw [x] at hi; cases hi; exact h2 rfl
  have ne2 : ∀ {M : Lab} (i : Nat), M ≠ .file → M ≠ .opn x0 → (i = x0 ∨ lab i = some (.opn x0)) → lab i ≠ some M := fun i h1 h2 x hi => ne hi h1 h2 x
  refine ⟨R.blk.ext e (ne R.lf (by simp) (by simp)), MapR.ext R.dm e (ne R.lD (by simp) (by simp)), R.lf, R.lD, fun b d hd => ⟨(R.dirs b d hd).1.ext e (ne (R.dirs b d hd).2 (by simp) (by simp)) fun x hx => ne2 x (by simp) (by simp) hx, (R.dirs b d hd).2⟩,
    fun r m hm => ⟨MapR.ext (R.mps r m hm).1 e (ne (R.mps r m hm).2 (by simp) (by simp)), (R.mps r m hm).2⟩, fun x c hc => ?_, fun b hb => Nat.lt_of_lt_of_le (R.lt b hb) e.size⟩
  rcases upd_some hc with ⟨rfl, rfl⟩ | ⟨hne, hc⟩
  · exact ⟨k, hx0⟩
  · refine ⟨(R.fls x c hc).1.ext e (fun y => ?_) (fun z hz => ?_) fun z hz => ne2 z (by simp) (by simp) hz, (R.fls x c hc).2⟩
    · rcases y with y | y
      · exact hne y
      · rw [(R.fls x c hc).2] at y; cases y
    · rintro y
      rcases hz with hz | hz
      · subst hz; rw [hx0] at y; cases y
      · rw [hz] at y; cases y; exact hne rfl

theorem DR.newMap {h : Heap} {lab : Labs} {f D : Nat} {σ : Dk} (R : DR h lab f D σ) {r : Nat} {m : List (Tx × Nat)} (hr : lab r = some .nm) (k : MapN h r m) : DR h lab f D { σ with mp := upd σ.mp r m } :=
  ⟨R.blk, R.dm, R.lf, R.lD, R.dirs, fun r' m' hm => by
    rcases upd_some hm with ⟨rfl, rfl⟩ | ⟨_, hm⟩
    · exact ⟨k, hr⟩
    · exact R.mps r' m' hm, R.fls, R.lt⟩
theorem DR.setN {h h' : Heap} {lab : Labs} {f D : Nat} {σ : Dk} (R : DR h lab f D σ) {r : Nat} {m : List (Tx × Nat)} (hr : lab r = some .nm) (e : Ext (fun i => i = r) h h') (k : MapN h' r m) : DR h' lab f D { σ with mp := upd σ.mp r m } := by
  have ne : ∀ {i : Nat} {M : Lab}, lab i = some M → M ≠ .nm → ¬ i = r := fun hi hL x => by subst x; rw [hr] at hi; cases hi; exact hL rfl
  have ne2 : ∀ {M : Lab} (i : Nat), M ≠ .nm → i = r → lab i ≠ some M := fun i hL x hi => ne hi hL x
  exact ⟨R.blk.ext e (ne R.lf (by simp)), MapR.ext R.dm e (ne R.lD (by simp)), R.lf, R.lD, fun b d hd => ⟨(R.dirs b d hd).1.ext e (ne (R.dirs b d hd).2 (by simp)) fun x hx => ne2 x (by simp) hx, (R.dirs b d hd).2⟩,
    fun r' m' hm => by
      rcases upd_some hm with ⟨rfl, rfl⟩ | ⟨hne, hm⟩
      · exact ⟨k, hr⟩
      · exact ⟨MapR.ext (R.mps r' m' hm).1 e hne, (R.mps r' m' hm).2⟩,
    fun x c hc => ⟨(R.fls x c hc).1.ext e (ne (R.fls x c hc).2 (by simp)) (fun z hz => ne2 z (by simp) hz) fun z hz => ne2 z (by simp) hz, (R.fls x c hc).2⟩,
    fun b hb => Nat.lt_of_lt_of_le (R.lt b hb) e.size⟩
theorem DR.newFile {h : Heap} {lab : Labs} {f D : Nat} {σ : Dk} (R : DR h lab f D σ) {x : Nat} {c : Fl} (hx : lab x = some .file) (k : FileR h lab x c) : DR h lab f D { σ with fl := upd σ.fl x c } :=
  ⟨R.blk, R.dm, R.lf, R.lD, R.dirs, R.mps, fun x' c' hc => by
    rcases upd_some hc with ⟨rfl, rfl⟩ | ⟨_, hc⟩
    · exact ⟨k, hx⟩
    · exact R.fls x' c' hc, R.lt⟩
theorem DR.newDir {h : Heap} {lab : Labs} {f D : Nat} {σ : Dk} (R : DR h lab f D σ) {b : Nat} {d : Dr} (hb : lab b = some .dir) (k : DirR h lab b d) : DR h lab f D { σ with dr := upd σ.dr b d } :=
  ⟨R.blk, R.dm, R.lf, R.lD, fun b' d' hd => by
    rcases upd_some hd with ⟨rfl, rfl⟩ | ⟨_, hd⟩
    · exact ⟨k, hb⟩
    · exact R.dirs b' d' hd, R.mps, R.fls, R.lt⟩

end Go.V.YtdeihieblljfcaaGreat
/-! Names in maps; paths; counted changes. -/
namespace Go.V.YtdeihieblljfcaaGreat
open Go Go.V Go.Lib

def look (n : Tx) : List (Tx × Nat) → Option Nat
  | [] => none
  | p :: r => if n = p.1 then some p.2 else look n r
def putN (n : Tx) (b : Nat) : List (Tx × Nat) → List (Tx × Nat)
  | [] => [(n, b)]
  | p :: r => if n = p.1 then (n, b) :: r else p :: putN n b r
def delN (n : Tx) : List (Tx × Nat) → List (Tx × Nat)
  | [] => []
  | p :: r => if n = p.1 then r else p :: delN n r
theorem look_mem {n : Tx} {b : Nat} : ∀ {m : List (Tx × Nat)}, look n m = some b → (n, b) ∈ m
  | [], h => by cases h
  | p :: r, h => by
    unfold look at h
    split at h
    · rename_i e; cases h; subst e; simp
    · exact List.mem_cons_of_mem _ (look_mem h)
theorem look_none {n : Tx} : ∀ {m : List (Tx × Nat)}, look n m = none → ∀ p ∈ m, p.1 ≠ n
  | [], _, p, hp => by cases hp
  | q :: r, h, p, hp => by
    unfold look at h
    split at h
    · cases h
    · rename_i e
      rcases List.mem_cons.1 hp with rfl | hp
      · exact fun x => e x.symm
      · exact look_none h p hp

abbrev gN : Tx × Nat → ByteArray × Nat := fun p => (tx p.1, p.2)
theorem putN_map (n : Tx) (b : Nat) : ∀ m : List (Tx × Nat), aput .str (tx n) b (m.map gN) = (putN n b m).map gN
  | [] => rfl
  | p :: r => by
    have hk : keq .str (tx n) (tx p.1) = decide (n = p.1) := tx_eq n p.1
    show (if keq .str (tx n) (tx p.1) = true then _ else _) = _
    unfold putN
    rw [hk]
    by_cases h : n = p.1
    · rw [if_pos h, if_pos (decide_eq_true h)]; rfl
    · rw [if_neg h, if_neg (by simpa using h), putN_map n b r]; rfl
theorem delN_map (n : Tx) : ∀ m : List (Tx × Nat), adel .str (tx n) (m.map gN) = (delN n m).map gN
  | [] => rfl
  | p :: r => by
    have hk : keq .str (tx n) (tx p.1) = decide (n = p.1) := tx_eq n p.1
    show (if keq .str (tx n) (tx p.1) = true then _ else _) = _
    unfold delN
    rw [hk]
    by_cases h : n = p.1
    · rw [if_pos h, if_pos (decide_eq_true h)]
    · rw [if_neg h, if_neg (by simpa using h), delN_map n r]; rfl

theorem MapN.look {h : Heap} {r : Nat} {m : List (Tx × Nat)} (M : MapN h r m) (n : Tx) : LookR h .str (.one .ptr) [Lf.ptr none] (some r) (tx n) [Lf.ptr ((look n m).map fun b => (b, 0))] (look n m).isSome := by
  cases hl : YtdeihieblljfcaaGreat.look n m with
  | none =>
    refine MapR.miss M trivial (fun x hx => ?_) trivial _
    obtain ⟨p, hp, rfl⟩ := List.mem_map.1 hx
    exact fun e => look_none hl p hp (tx_inj e)
  | some b =>
    exact MapR.hit M trivial (List.mem_map.2 ⟨(n, b), look_mem hl, rfl⟩) trivial _ rfl
theorem MapN.len {h : Heap} {r : Nat} {m : List (Tx × Nat)} (M : MapN h r m) : LenR h (some r) (m.length : Int) := by
  have := MapR.len M
  rwa [List.length_map] at this
theorem MapN.put {h : Heap} {r : Nat} {m : List (Tx × Nat)} (M : MapN h r m) {n : Tx} {b : Nat} {K : Heap → Prop} (c : ∀ h', h'.size = h.size → MapN h' r (putN n b m) → Ext (fun i => i = r) h h' → K h') :
    UpdC .str (.one .ptr) h (some r) (tx n) [Lf.ptr (some (b, 0))] K :=
  MapR.put M trivial trivial (v := b) rfl fun h' hs M' e => c h' hs (by unfold MapN; rw [← putN_map]; exact M') e
theorem MapN.del {h : Heap} {r : Nat} {m : List (Tx × Nat)} (M : MapN h r m) {n : Tx} {K : Heap → Prop} (c : ∀ h', h'.size = h.size → MapN h' r (delN n m) → Ext (fun i => i = r) h h' → K h') :
    DelC .str (.one .ptr) h (some r) (tx n) K :=
  MapR.del M trivial fun h' hs M' e => c h' hs (by unfold MapN; rw [← delN_map]; exact M') e

theorem index_c (c : UInt8) : ∀ l : Tx, index l [c] = if c ∈ l then ((l.takeWhile (· != c)).length : Int) else -1
  | [] => rfl
  | x :: r => by
    unfold index
    by_cases h : x = c
    · subst h; simp
    · have hp : List.isPrefixOf [c] (x :: r) = false := by
        simp [List.isPrefixOf]; exact fun y => h y.symm
      have hb : (x != c) = true := by simpa using h
      have hm : c ∈ x :: r ↔ c ∈ r := by simp [Ne.symm h]
      rw [hp, index_c c r]
      simp only [hm]
      by_cases hr : c ∈ r
      · simp only [if_pos hr, List.takeWhile_cons, hb, if_true, List.length_cons]
        rw [if_neg (by decide)]
        have : ¬ ((((List.takeWhile (· != c) r).length : Int) == -1) = true) := by rw [beq_iff_eq]; omega
        rw [if_neg this]; simp
      · simp [if_neg hr]
theorem cut_c (c : UInt8) (l : Tx) : cut l [c] = if c ∈ l then (l.takeWhile (· != c), (l.dropWhile (· != c)).drop 1, true) else (l, [], false) := by
  unfold cut
  rw [index_c]
  by_cases h : c ∈ l
  · rw [if_pos h, if_pos (by omega), if_pos h]
    have e := List.takeWhile_append_dropWhile (p := (· != c)) (l := l)
    have e1 : l.take (l.takeWhile (· != c)).length = l.takeWhile (· != c) := by
      conv => lhs; arg 2; rw [← e]
      rw [List.take_left]
    have e2 : l.drop (l.takeWhile (· != c)).length = l.dropWhile (· != c) := by
      conv => lhs; arg 2; rw [← e]
      rw [List.drop_left]
    rw [show ((l.takeWhile (· != c)).length : Int).toNat = (l.takeWhile (· != c)).length from rfl, e1]
    show (_, l.drop ((l.takeWhile (· != c)).length + 1), true) = _
    rw [← List.drop_drop, e2]
  · rw [if_neg h, if_neg (by omega), if_neg h]

def pathOf (l : Tx) : Option (Tx × Tx) := if (47 : UInt8) ∈ l ∧ okName (l.takeWhile (· != 47)) = true ∧ okName ((l.dropWhile (· != 47)).drop 1) = true then some (l.takeWhile (· != 47), (l.dropWhile (· != 47)).drop 1) else none
theorem pathOf_ok {l a b : Tx} (h : pathOf l = some (a, b)) : okName a = true ∧ okName b = true := by
  unfold pathOf at h
  split at h
  · rename_i x; cases h; exact x.2
  · cases h

structure Wf (σ : Dk) : Prop where
  dirs : ∀ p ∈ σ.dirs, ∃ d, σ.dr p.2 = some d
  maps : ∀ b d, σ.dr b = some d → (∃ m, σ.mp d.now = some m) ∧ ∀ r ∈ d.was, ∃ m, σ.mp r = some m
  files : ∀ r m, σ.mp r = some m → ∀ p ∈ m, ∃ c, σ.fl p.2 = some c
  names : ∀ p ∈ σ.dirs, okName p.1 = true
  names' : ∀ r m, σ.mp r = some m → ∀ p ∈ m, okName p.1 = true
  most : σ.dirs.length ≤ 64
  most' : ∀ r m, σ.mp r = some m → m.length ≤ 1024

def pathE (σ : Dk) (l : Tx) : Option (Nat × Tx) × Int := match pathOf l with
  | none => (none, 1)
  | some (a, b) => match look a σ.dirs with
    | none => (none, 6)
    | some d => (some (d, b), 0)

theorem c103 {h : Heap} {lab : Labs} {f D : Nat} {σ : Dk} (R0 : DR h lab f D σ) (hM : MaxL h) {l : Tx} (hl : l.length < 4294967281) {R : Option (Nat × Nat) → ByteArray → Int → Heap → Prop}
    (k1 : ∀ e h', pathE σ l = (none, e) → e ≠ 0 → Ext0 h h' → R none (tx []) e h') (k2 : ∀ d n h', pathE σ l = (some (d, n), 0) → okName n = true → Ext0 h h' → R (some (d, 0)) (tx n) 0 h') :
    Call Go.Proofs.Tryz.prog 103 [.lf (.ptr (some (f, 0))), .lf (.str (tx l))] h [.one .ptr, .one .str, .one (.int .i64)] R := by
  refine ok103 (c181 (p := [47]) hl hM ?_)
  rw [cut_c]
  by_cases hm : (47 : UInt8) ∈ l
  · rw [if_pos hm]
    refine Br.f rfl (c102 fun h5 e5 => Br.not (fun hf => ?_) fun ht => c102 fun h7 e7 => Br.not (fun hf => ?_) fun ht2 => ?_)
    · refine k1 1 h5 ?_ (by omega) e5
      unfold pathE pathOf
      rw [if_neg fun x => by rw [x.2.1] at hf; cases hf]
    · refine k1 1 h7 ?_ (by omega) (e5.trans e7)
      unfold pathE pathOf
      rw [if_neg fun x => by rw [x.2.2] at hf; cases hf]
    · have R7 := R0.ext0 (e5.trans e7)
      have hp : pathOf l = some (l.takeWhile (· != 47), (l.dropWhile (· != 47)).drop 1) := by unfold pathOf; rw [if_pos ⟨hm, ht, ht2⟩]
      refine ⟨_, R7.blk.cell rfl, _, _, R7.dm.look _, ?_⟩
      cases hd : look (l.takeWhile (· != 47)) σ.dirs with
      | none => exact k1 6 h7 (by unfold pathE; rw [hp]; simp only [hd]) (by omega) (e5.trans e7)
      | some d => exact k2 d _ h7 (by unfold pathE; rw [hp]; simp only [hd]) ht2 (e5.trans e7)
  · rw [if_neg hm]
    refine Br.t rfl (k1 1 h ?_ (by omega) (Ext.refl _ _))
    unfold pathE pathOf
    rw [if_neg fun x => hm x.1]

def fileE (σ : Dk) (l : Tx) : Option Nat × Int := match pathE σ l with
  | (none, e) => (none, e)
  | (some (d, n), _) => match (σ.dr d).bind fun d => σ.mp d.now with
    | none => (none, 6)
    | some m => match look n m with
      | none => (none, 6)
      | some x => (some x, 0)

theorem pathE_dir {σ : Dk} (W : Wf σ) {l n : Tx} {d : Nat} {e : Int} (h : pathE σ l = (some (d, n), e)) : ∃ dd m, σ.dr d = some dd ∧ σ.mp dd.now = some m := by
  unfold pathE at h
  split at h
  · cases h
  · split at h
    · cases h
    · rename_i hd
      cases h
      obtain ⟨dd, hdd⟩ := W.dirs _ (look_mem hd)
      obtain ⟨⟨m, hm⟩, _⟩ := W.maps _ _ hdd
      exact ⟨dd, m, hdd, hm⟩

theorem DirR.cell0 {h : Heap} {lab : Labs} {b : Nat} {d : Dr} (y : DirR h lab b d) : cellsAt h b 0 [Lf.map (some d.now)] := let ⟨s, k, _⟩ := y.ex; k.cell rfl

theorem c53 {h : Heap} {lab : Labs} {f D : Nat} {σ : Dk} (R0 : DR h lab f D σ) (W : Wf σ) (hM : MaxL h) {l : Tx} (hl : l.length < 4294967281) {R : Option (Nat × Nat) → Int → Heap → Prop}
    (k1 : ∀ e h', fileE σ l = (none, e) → e ≠ 0 → Ext0 h h' → R none e h') (k2 : ∀ x h', fileE σ l = (some x, 0) → Ext0 h h' → R (some (x, 0)) 0 h') :
    Call Go.Proofs.Tryz.prog 53 [.lf (.ptr (some (f, 0))), .lf (.str (tx l))] h [.one .ptr, .one (.int .i64)] R := by
  refine ok53 (c103 R0 hM hl (fun e h' hp he e0 => Br.ne (fun _ => k1 e h' (by unfold fileE; rw [hp]) he e0) fun x => absurd x he) fun d n h' hp hn e0 => Br.ne (fun x => absurd rfl x) fun _ => ?_)
  obtain ⟨dd, m, hdd, hm⟩ := pathE_dir W hp
  have R' := R0.ext0 e0
  refine ⟨_, (R'.dirs d dd hdd).1.cell0, _, _, (R'.mps _ _ hm).1.look n, ?_⟩
  have hb : ((σ.dr d).bind fun d => σ.mp d.now) = some m := by rw [hdd]; exact hm
  cases hx : look n m with
  | none => exact k1 6 h' (by unfold fileE; rw [hp]; simp only [hb, hx]) (by omega) e0
  | some x => exact k2 x h' (by unfold fileE; rw [hp]; simp only [hb, hx]) e0

def findE (σ : Dk) (l : Tx) : Option Nat × Int := if okName l = true then (match look l σ.dirs with | none => (none, 6) | some d => (some d, 0)) else (none, 1)
theorem c106 {h : Heap} {lab : Labs} {f D : Nat} {σ : Dk} (R0 : DR h lab f D σ) {l : Tx} {R : Option (Nat × Nat) → Int → Heap → Prop}
    (k1 : ∀ e h', findE σ l = (none, e) → e ≠ 0 → Ext0 h h' → R none e h') (k2 : ∀ d h', findE σ l = (some d, 0) → Ext0 h h' → R (some (d, 0)) 0 h') :
    Call Go.Proofs.Tryz.prog 106 [.lf (.ptr (some (f, 0))), .lf (.str (tx l))] h [.one .ptr, .one (.int .i64)] R := by
  refine ok106 (c102 fun h1 e1 => Br.not (fun hf => k1 1 h1 (by unfold findE; rw [if_neg (by rw [hf]; simp)]) (by omega) e1) fun ht => ?_)
  have R' := R0.ext0 e1
  refine ⟨_, R'.blk.cell rfl, _, _, R'.dm.look l, ?_⟩
  cases hd : look l σ.dirs with
  | none => exact k1 6 h1 (by unfold findE; rw [if_pos ht]; simp only [hd]) (by omega) e1
  | some d => exact k2 d h1 (by unfold findE; rw [if_pos ht]; simp only [hd]) e1

def Sc.count (s : Sc) : Bool × Bool × Sc :=
  if s.frm < 1 ∨ s.many = 0 then (false, false, s)
  else
    let k := s.seen + 1 - s.frm
    (decide (0 ≤ k ∧ (s.many < 0 ∨ k < s.many)), decide (k = 0), { s with seen := s.seen + 1 })
def Sc.Ok (s : Sc) : Prop := -9223372036854775808 ≤ s.frm ∧ s.frm ≤ 9223372036854775807 ∧ 0 ≤ s.seen ∧ s.seen ≤ 4611686018427387904

theorem c113 {h : Heap} {f o : Nat} {t : TypeId} {cs : List Lf} {s : Sc} (hs : s.Ok) (B : Blk h f t cs) (h0 : cs[o]? = some (.int .i64 s.frm)) (h1 : cs[o + 1]? = some (.int .i64 s.many)) (h2 : cs[o + 2]? = some (.int .i64 s.seen)) {R : Bool → Bool → Heap → Prop}
    (k : ∀ h', h'.size = h.size → Ext (fun i => i = f) h h' → Blk h' f t (cs.set (o + 2) (.int .i64 s.count.2.2.seen)) → s.count.2.2.frm = s.frm → s.count.2.2.many = s.many → R s.count.1 s.count.2.1 h') :
    Call Go.Proofs.Tryz.prog 113 [.lf (.ptr (some (f, o)))] h [.one .bool, .one .bool] R := by
  obtain ⟨hf1, hf2, hs1, hs2⟩ := hs
  have same : cs.set (o + 2) (.int .i64 s.seen) = cs := by
    apply List.ext_getElem?
    intro i
    rw [List.getElem?_set]
    split
    · rename_i e; subst e; rw [h2]; split
      · rfl
      · rename_i x; rw [List.getElem?_eq_none (by omega)] at h2; cases h2
    · rfl
  have off : (s.frm < 1 ∨ s.many = 0) → R false false h := fun x => by
    have hc : s.count = (false, false, s) := by unfold Sc.count; rw [if_pos x]
    have := k h rfl (Ext.refl _ _) (by rw [hc, same]; exact B) (by rw [hc]) (by rw [hc])
    rw [hc] at this; exact this
  refine ok113 ⟨fun c hh => hh = h ∧ (c = true ↔ (s.frm < 1 ∨ s.many = 0)), ⟨s.frm, B.cell h0, Br.dec (fun x => ⟨rfl, fun _ => .inl x, fun _ => rfl⟩) fun x => ⟨s.many, B.cell h1, rfl, ?_⟩⟩, ?_⟩
  · rw [beq_iff_eq]
    exact ⟨fun y => .inr y, fun y => y.resolve_left x⟩
  rintro c h8 ⟨rfl, hc⟩
  refine Br.mk (fun e => off (hc.1 e)) fun e => ?_
  have hno : ¬ (s.frm < 1 ∨ s.many = 0) := fun x => by rw [hc.2 x] at e; cases e
  have hlen : o + 2 < cs.length := by
    rcases Nat.lt_or_ge (o + 2) cs.length with x | x
    · exact x
    · rw [List.getElem?_eq_none x] at h2; cases h2
  have hcnt : s.count = (decide (0 ≤ s.seen + 1 - s.frm ∧ (s.many < 0 ∨ s.seen + 1 - s.frm < s.many)), decide (s.seen + 1 - s.frm = 0), { s with seen := s.seen + 1 }) := by
    unfold Sc.count; rw [if_neg hno]
  refine ⟨s.seen, B.cell h2, ?_⟩
  rw [wi64 (n := s.seen + 1) (by omega) (by omega)]
  refine StC.one B hlen fun h14 hs14 B14 e14 => ?_
  have g0 : (cs.set (o + 2) (.int .i64 (s.seen + 1)))[o]? = some (.int .i64 s.frm) := by rw [List.getElem?_set, if_neg (by omega)]; exact h0
  have g1 : (cs.set (o + 2) (.int .i64 (s.seen + 1)))[o + 1]? = some (.int .i64 s.many) := by rw [List.getElem?_set, if_neg (by omega)]; exact h1
  have g2 : (cs.set (o + 2) (.int .i64 (s.seen + 1)))[o + 2]? = some (.int .i64 (s.seen + 1)) := by rw [List.getElem?_set, if_pos rfl, if_pos hlen]
  have fin : ∀ a b, a = s.count.1 → b = s.count.2.1 → R a b h14 := fun a b ha hb => by
    subst ha; subst hb
    exact k h14 hs14 e14 (by rw [hcnt]; exact B14) (by rw [hcnt]) (by rw [hcnt])
  refine ⟨_, B14.cell g2, _, B14.cell g0, ?_⟩
  have hk0 : ((s.seen + 1 - s.frm) == 0) = decide (s.seen + 1 - s.frm = 0) := by rw [Bool.eq_iff_iff]; simp
  rw [wi64 (n := s.seen + 1 - s.frm) (by omega) (by omega), hk0]
  refine Br.dec (fun hge => ⟨_, B14.cell g1, Br.dec (fun hneg => fin _ _ ?_ ?_) fun hpos => ⟨_, B14.cell g1, fin _ _ ?_ ?_⟩⟩) fun hlt => fin _ _ ?_ ?_
  · rw [hcnt]; exact (decide_eq_true ⟨by omega, .inl hneg⟩).symm
  · rw [hcnt]
  · rw [hcnt]
    show decide _ = decide _
    rw [Bool.eq_iff_iff, decide_eq_true_eq, decide_eq_true_eq]
    omega
  · rw [hcnt]
  · rw [hcnt]
    exact (decide_eq_false (by omega)).symm
  · rw [hcnt]

def Dk.change (σ : Dk) : Int × Bool × Dk :=
  let a := σ.fail.count
  let b := σ.stop.count
  (if b.1 then 22 else if a.1 then 21 else 0, if b.1 then b.2.1 else if a.1 then a.2.1 else false, { σ with fail := a.2.2, stop := b.2.2 })
theorem count_eta (s : Sc) : s.count.2.2.frm = s.frm ∧ s.count.2.2.many = s.many := by
  unfold Sc.count; split <;> exact ⟨rfl, rfl⟩

theorem c55 {h : Heap} {lab : Labs} {f D : Nat} {σ : Dk} (R0 : DR h lab f D σ) (h1 : σ.fail.Ok) (h2 : σ.stop.Ok) {R : Int → Bool → Heap → Prop}
    (k : ∀ h', h'.size = h.size → Ext (fun i => i = f) h h' → DR h' lab f D σ.change.2.2 → R σ.change.1 σ.change.2.1 h') :
    Call Go.Proofs.Tryz.prog 55 [.lf (.ptr (some (f, 0)))] h [.one (.int .i64), .one .bool] R := by
  refine ok55 (c113 (o := 2) h1 R0.blk rfl rfl rfl fun h4 hs4 e4 B4 _ _ => c113 (o := 5) h2 B4 rfl rfl rfl fun h9 hs9 e9 B9 _ _ => ?_)
  have e : Ext (fun i => i = f) h h9 := e4.trans e9
  have ha := count_eta σ.fail
  have hb := count_eta σ.stop
  have R9 : DR h9 lab f D σ.change.2.2 := by
    refine R0.setF (a := σ.fail.count.2.2) (b := σ.stop.count.2.2) e ?_
    rw [ha.1, ha.2, hb.1, hb.2]
    exact B9
  have := k h9 (by omega) e R9
  unfold Dk.change at this
  simp only at this
  refine Br.mk (fun x => ?_) fun x => Br.mk (fun y => ?_) fun y => ?_
  · rw [x] at this; exact this
  · rw [x, y] at this; exact this
  · rw [x, y] at this; exact this

end Go.V.YtdeihieblljfcaaGreat
/-! Open changes of a directory. -/
namespace Go.V.YtdeihieblljfcaaGreat
open Go Go.V

def Labs.Le (lab lab' : Labs) : Prop := ∀ i L, lab i = some L → lab' i = some L
theorem Byt.mono {h : Heap} {lab lab' : Labs} {s : Slc} {l : Tx} (y : Byt h lab s l) (hl : lab.Le lab') : Byt h lab' s l := ⟨y.arr, fun b off hb => hl _ _ (y.lab b off hb), y.cap, y.pl⟩
theorem DirR.mono {h : Heap} {lab lab' : Labs} {b : Nat} {d : Dr} (y : DirR h lab b d) (hl : lab.Le lab') : DirR h lab' b d := by
  obtain ⟨s, k, o, hs⟩ := y.ex
  exact ⟨s, k, o, fun x off hx => hl _ _ (hs x off hx)⟩
theorem FileR.mono {h : Heap} {lab lab' : Labs} {x : Nat} {c : Fl} (y : FileR h lab x c) (hl : lab.Le lab') : FileR h lab' x c := by
  obtain ⟨sf, so, sn, os, k, yf, oo, hs, hc, ho, yn⟩ := y.ex
  exact ⟨sf, so, sn, os, k, yf.mono hl, oo, fun z off hz => hl _ _ (hs z off hz), hc, fun o hx => (ho o hx).mono hl, yn.mono hl⟩
theorem DR.mono {h : Heap} {lab lab' : Labs} {f D : Nat} {σ : Dk} (R : DR h lab f D σ) (hl : lab.Le lab') (lt : ∀ b, lab' b ≠ none → b < h.size) : DR h lab' f D σ :=
  ⟨R.blk, R.dm, hl _ _ R.lf, hl _ _ R.lD, fun b d hd => ⟨(R.dirs b d hd).1.mono hl, hl _ _ (R.dirs b d hd).2⟩, fun r m hm => ⟨(R.mps r m hm).1, hl _ _ (R.mps r m hm).2⟩, fun x c hc => ⟨(R.fls x c hc).1.mono hl, hl _ _ (R.fls x c hc).2⟩, lt⟩

theorem DR.setDL {h h' : Heap} {lab lab' : Labs} {f D : Nat} {σ : Dk} (R : DR h lab f D σ) {b0 : Nat} {d0 : Dr} (hb0 : lab b0 = some .dir) (e : Ext (fun i => i = b0 ∨ lab i = some (.was b0)) h h') (hl : lab.Le lab') (lt : ∀ b, lab' b ≠ none → b < h'.size) (k : DirR h' lab' b0 d0) :
    DR h' lab' f D { σ with dr := upd σ.dr b0 d0 } := by
  have ne : ∀ {i : Nat} {M : Lab}, lab i = some M → M ≠ .dir → M ≠ .was b0 → ¬ (i = b0 ∨ lab i = some (.was b0)) := fun hi h1 h2 x => by
    rcases x with x | x
    · subst x; rw [hb0] at hi; cases hi; exact h1 rfl
    · rw [x] at hi; cases hi; exact h2 rfl
  have ne2 : ∀ {M : Lab} (i : Nat), M ≠ .dir → M ≠ .was b0 → (i = b0 ∨ lab i = some (.was b0)) → lab i ≠ some M := fun i h1 h2 x hi => ne hi h1 h2 x
  refine ⟨R.blk.ext e (ne R.lf (by simp) (by simp)), MapR.ext R.dm e (ne R.lD (by simp) (by simp)), hl _ _ R.lf, hl _ _ R.lD, fun b d hd => ?_,
    fun r m hm => ⟨MapR.ext (R.mps r m hm).1 e (ne (R.mps r m hm).2 (by simp) (by simp)), hl _ _ (R.mps r m hm).2⟩, fun x c hc => ⟨((R.fls x c hc).1.ext e (ne (R.fls x c hc).2 (by simp) (by simp)) (fun z hz => ne2 z (by simp) (by simp) hz) fun z hz => ne2 z (by simp) (by simp) hz).mono hl, hl _ _ (R.fls x c hc).2⟩, lt⟩
  rcases upd_some hd with ⟨rfl, rfl⟩ | ⟨hne, hd⟩
  · exact ⟨k, hl _ _ hb0⟩
  · refine ⟨((R.dirs b d hd).1.ext e (fun x => ?_) fun x hx => ?_).mono hl, hl _ _ (R.dirs b d hd).2⟩
    · rcases x with x | x
      · exact hne x
      · rw [(R.dirs b d hd).2] at x; cases x
    · rintro y
      rcases hx with hx | hx
      · subst hx; rw [hb0] at y; cases y
      · rw [hx] at y; cases y; exact hne rfl
theorem DR.setXL {h h' : Heap} {lab lab' : Labs} {f D : Nat} {σ : Dk} (R : DR h lab f D σ) {x0 : Nat} {c0 : Fl} (hx0 : lab x0 = some .file) (e : Ext (fun i => i = x0 ∨ lab i = some (.opn x0)) h h') (hl : lab.Le lab') (lt : ∀ b, lab' b ≠ none → b < h'.size) (k : FileR h' lab' x0 c0) :
    DR h' lab' f D { σ with fl := upd σ.fl x0 c0 } := by
  have ne : ∀ {i : Nat} {M : Lab}, lab i = some M → M ≠ .file → M ≠ .opn x0 → ¬ (i = x0 ∨ lab i = some (.opn x0)) := fun hi h1 h2 x => by
    rcases x with x | x
    · subst x; rw [hx0] at hi; cases hi; exact h1 rfl
    · rw [x] at hi; cases hi; exact h2 rfl
  have ne2 : ∀ {M : Lab} (i : Nat), M ≠ .file → M ≠ .opn x0 → (i = x0 ∨ lab i = some (.opn x0)) → lab i ≠ some M := fun i h1 h2 x hi => ne hi h1 h2 x
  refine ⟨R.blk.ext e (ne R.lf (by simp) (by simp)), MapR.ext R.dm e (ne R.lD (by simp) (by simp)), hl _ _ R.lf, hl _ _ R.lD, fun b d hd => ⟨((R.dirs b d hd).1.ext e (ne (R.dirs b d hd).2 (by simp) (by simp)) fun x hx => ne2 x (by simp) (by simp) hx).mono hl, hl _ _ (R.dirs b d hd).2⟩,
    fun r m hm => ⟨MapR.ext (R.mps r m hm).1 e (ne (R.mps r m hm).2 (by simp) (by simp)), hl _ _ (R.mps r m hm).2⟩, fun x c hc => ?_, lt⟩
  rcases upd_some hc with ⟨rfl, rfl⟩ | ⟨hne, hc⟩
  · exact ⟨k, hl _ _ hx0⟩
  · refine ⟨((R.fls x c hc).1.ext e (fun y => ?_) (fun z hz => ?_) fun z hz => ne2 z (by simp) (by simp) hz).mono hl, hl _ _ (R.fls x c hc).2⟩
    · rcases y with y | y
      · exact hne y
      · rw [(R.fls x c hc).2] at y; cases y
    · rintro y
      rcases hz with hz | hz
      · subst hz; rw [hx0] at y; cases y
      · rw [hz] at y; cases y; exact hne rfl

def named (lab : Labs) (s : Slc) (L : Lab) : Labs := match s.a with
  | some (b, _) => upd lab b L
  | none => lab
theorem named_at {lab : Labs} {s : Slc} {L : Lab} {b off : Nat} (h : s.a = some (b, off)) : named lab s L b = some L := by unfold named; rw [h]; exact upd_same _ _ _
theorem named_le {lab : Labs} {s : Slc} {L : Lab} (hb : ∀ b off, s.a = some (b, off) → lab b = none ∨ lab b = some L) : lab.Le (named lab s L) := fun i M hi => by
  unfold named
  cases ha : s.a with
  | none => exact hi
  | some p =>
    obtain ⟨b, off⟩ := p
    show upd lab b L i = some M
    by_cases hib : i = b
    · subst hib
      rcases hb _ _ ha with x | x
      · rw [x] at hi; cases hi
      · rw [upd_same, ← hi, x]
    · rw [upd_ne hib]; exact hi
theorem named_ne {lab : Labs} {s : Slc} {L : Lab} {i : Nat} (h : ∀ off, s.a ≠ some (i, off)) : named lab s L i = lab i := by
  unfold named
  cases ha : s.a with
  | none => rfl
  | some p =>
    obtain ⟨b, off⟩ := p
    show upd lab b L i = lab i
    rw [upd_ne]
    rintro rfl; exact h off ha

theorem c104 {h : Heap} {lab : Labs} {f D : Nat} {σ : Dk} (R0 : DR h lab f D σ) {b : Nat} {dd : Dr} {m : List (Tx × Nat)} (hd : σ.dr b = some dd) (hm : σ.mp dd.now = some m) (hw : dd.was.length ≤ 4398046511104) {v : Value} {R : Heap → Prop}
    (k : ∀ r h1 lab1, h.size ≤ r → DR h1 lab1 f D { σ with mp := upd σ.mp r m, dr := upd σ.dr b ⟨r, dd.was ++ [dd.now]⟩ } → Stp lab h lab1 h1 → lab1 r = some .nm → CallV Go.Proofs.Tryz.prog v [.lf (.map (some r))] h1 [] R) :
    Call Go.Proofs.Tryz.prog 104 [.lf (.ptr (some (b, 0))), .lf (.raw v)] h [] R := by
  obtain ⟨s2, B, O, hl2⟩ := (R0.dirs b dd hd).1.ex
  have lb := (R0.dirs b dd hd).2
  have hbs := R0.lt b (by rw [lb]; simp)
  refine ok104 ⟨s2, B.cell rfl, some dd.now, B.cell rfl, New.mk fun b6 h7 hb6 hs7 e7 k7 => ⟨(B.ext e7).cell rfl, ?_⟩⟩
  refine AppC.grow wF_sized (by decide) rfl (O.ext0 e7) ((Own.new wF_sized (l := [dd.now]) k7).arr wF_sized) (by simp; omega) fun s8 h9 O9 g9 => ?_
  have hs2b : ∀ off, s2.a ≠ some (b, off) := fun off x => by have := hl2 _ _ x; rw [lb] at this; cases this
  have B9 : Blk h9 b 116 [.map (some dd.now), .slc s2] := (B.ext e7).ext g9.ext fun ⟨off, x⟩ => hs2b off x
  have hs8b : ∀ off, s8.a ≠ some (b, off) := fun off x => by
    rcases g9.new with y | ⟨y, hy, hz⟩
    · rw [y] at x; exact hs2b off x
    · rw [hy] at x; cases x; omega
  refine StC.one B9 (by simp) fun h12 hs12 B12 e12 => ⟨some dd.now, B12.cell rfl, ?_⟩
  have M0 := (R0.mps _ _ hm).1
  have lnow := (R0.mps _ _ hm).2
  have Mnow : MapN h12 dd.now m := by
    refine MapR.ext (MapR.ext (MapR.ext M0 e7) g9.ext fun ⟨off, x⟩ => ?_) e12 fun x => ?_
    · have := hl2 _ _ x; rw [lnow] at this; cases this
    · rw [x, lb] at lnow; cases lnow
  refine c182 Mnow fun r h17 hr hs17 e17 M17 => ?_
  refine StC.one (B12.ext e17) (by simp) fun h20 hs20 B20 e20 => ⟨some r, B20.cell rfl, ?_⟩
  have hsz := g9.ext.size
  have hrb : r ≠ b := by omega
  have O20 : Own 1 wF h20 s8 (dd.was ++ [dd.now]) := ((O9.ext e12 fun ⟨y, off, x, z⟩ => by subst z; exact hs8b off x).ext0 e17).ext e20 fun ⟨y, off, x, z⟩ => by subst z; exact hs8b off x
  have M20 : MapN h20 r m := MapR.ext M17 e20 fun x => hrb x
  have E : Ext (fun i => i = b ∨ lab i = some (.was b)) h h20 := by
    have a1 : Ext (fun i => i = b ∨ lab i = some (.was b)) h h9 := e7.of0.trans (g9.ext.mono fun i ⟨off, x⟩ => .inr (hl2 _ _ x))
    exact ((a1.trans (e12.mono fun i x => .inl x)).trans e17.of0).trans (e20.mono fun i x => .inl x)
  have hs8l : ∀ y off, s8.a = some (y, off) → lab y = none ∨ lab y = some (.was b) := fun y off x => by
    rcases g9.new with z | ⟨z, hz, hz'⟩
    · rw [z] at x; exact .inr (hl2 _ _ x)
    · rw [hz] at x; cases x
      left
      exact Classical.byContradiction fun w => by have := R0.lt _ w; omega
  have hle := named_le (L := .was b) hs8l
  have hr1 : named lab s8 (.was b) r = none := by
    rw [named_ne fun off x => by have := (O20.lt _ _ x).1; have := (O9.lt _ _ x).1; omega]
    exact Classical.byContradiction fun w => by have := R0.lt _ w; omega
  have hEs := E.size
  have R1 := R0.setDL (lab' := named lab s8 (.was b)) lb E hle (fun y hy => by
    by_cases hys : ∃ off, s8.a = some (y, off)
    · obtain ⟨off, x⟩ := hys; exact (O20.lt _ _ x).1
    · rw [named_ne fun off x => hys ⟨off, x⟩] at hy
      have := R0.lt y hy; omega) (d0 := ⟨r, dd.was ++ [dd.now]⟩) ⟨s8, by simpa using B20, O20, fun y off x => named_at x⟩
  have hrlt : r < h20.size := by omega
  have R2 := (R1.name (L := .nm) hr1 hrlt).newMap (upd_same _ _ _) M20
  refine k r h20 _ (by omega) R2 ⟨E.size, fun i hi hn => E.same i hi ?_, fun i hi => ?_⟩ (upd_same _ _ _)
  · rintro (x | x)
    · subst x; rw [lb] at hn; simp at hn
    · rw [x] at hn; simp at hn
  · rw [upd_ne (by omega)]
    cases hli : lab i with
    | some L => exact hle _ _ hli
    | none =>
      rw [named_ne fun off x => ?_, hli]
      rcases g9.new with z | ⟨z, hz, hz'⟩
      · rw [z] at x; have := hl2 _ _ x; rw [hli] at this; cases this
      · rw [hz] at x; cases x; omega

end Go.V.YtdeihieblljfcaaGreat
