/- This text proves a part of the laws of seat YtdeihieblljfcaaGreat, under no condition: F3m F3o. -/
import Derived.Test.YtdeihieblljfcaaGreatPG
import Derived.Test.YtdeihieblljfcaaGreatPT
import Derived.Test.YtdeihieblljfcaaGreatPW
import Derived.Test.YtdeihieblljfcaaGreatPX
set_option linter.unusedVariables false
set_option linter.unusedSimpArgs false
/-! The disk: Rmdir, Cut, Flip, Fail; what is read. -/
namespace Go.V.YtdeihieblljfcaaGreat
open Go Go.V

def rmdirR (σ : Dk) (l : Tx) : Int × Dk := match findE σ l with
  | (none, e) => (e, σ)
  | (some b, _) => match σ.at b with
    | none => (6, σ)
    | some (_, m) => if m ≠ [] then (8, σ) else if σ.change.1 ≠ 0 then (σ.change.1, σ.change.2.2) else (0, { σ.change.2.2 with dirs := delN l σ.dirs })
theorem findE_at {σ : Dk} (W : Wf σ) {l : Tx} {b : Nat} {e : Int} (h : findE σ l = (some b, e)) : okName l = true ∧ look l σ.dirs = some b ∧ ∃ d m, σ.dr b = some d ∧ σ.mp d.now = some m ∧ σ.at b = some (d, m) := by
  obtain ⟨h1, d, hd⟩ := findE_some W h
  obtain ⟨⟨m, hm⟩, _⟩ := W.maps _ _ hd
  refine ⟨?_, h1, d, m, hd, hm, Dk.at_some.2 ⟨hd, hm⟩⟩
  unfold findE at h
  split at h
  · rename_i x; exact x
  · cases h
theorem c67 {h : Heap} {lab : Labs} {f D : Nat} {σ : Dk} (X : DW h lab f D σ) {n : Nat} (F : Few σ n) (hn : n ≤ 4398046511104) {l : Tx} {R : Int → Heap → Prop}
    (k : ∀ h', DW h' lab f D (rmdirR σ l).2 → Stp lab h lab h' → R (rmdirR σ l).1 h') :
    Call Go.Proofs.Tryz.prog 67 [.lf (.ptr (some (f, 0))), .lf (.str (tx l))] h [.one (.int .i64)] R := by
  have stay : ∀ e (h' : Heap), rmdirR σ l = (e, σ) → Ext0 h h' → R e h' := fun e h' hc e0 => by
    have := k h' (by rw [hc]; exact X.ext0 e0) (Stp.of0 e0)
    rwa [hc] at this
  refine ok67 (c106 X.R (fun e h' hp he e0 => Br.t (by simpa using he) (stay e h' (by unfold rmdirR; rw [hp]) e0)) fun b h' hf e0 => Br.f rfl (NilC.mk rfl ?_))
  obtain ⟨hok, hlk, d, m, hd, hm, hat⟩ := findE_at X.W hf
  have X1 := X.ext0 e0
  refine ⟨_, (X1.R.dirs b d hd).1.cell0, _, (X1.R.mps _ _ hm).1.len, Br.dec (fun hgt => stay 8 h' ?_ e0) fun hle => ?_⟩
  · unfold rmdirR; rw [hf]; simp only [hat]; rw [if_pos]; intro e; rw [e] at hgt; simp at hgt
  have hm0 : m = [] := List.length_eq_zero_iff.1 (by omega)
  have hcr : rmdirR σ l = if σ.change.1 ≠ 0 then (σ.change.1, σ.change.2.2) else (0, { σ.change.2.2 with dirs := delN l σ.dirs }) := by unfold rmdirR; rw [hf]; simp only [hat]; rw [if_neg (fun x => x hm0)]
  refine c55 X1.R (F.okF hn) (F.okS hn) fun h5 hs5 e5 R5 => ?_
  have st5 : Stp lab h lab h5 := (Stp.of0 e0).trans (Stp.of e5 fun i _ hi => by subst hi; rw [X.R.lf]; simp)
  refine Br.ne (fun he => ?_) fun he => NilC.mk rfl ⟨_, R5.blk.cell rfl, MapN.del R5.dm fun h13 hs13 M13 e13 => ?_⟩
  · have := k h5 (by rw [hcr, if_pos he]; exact X.go st5 R5 X.W.change) st5
    rw [hcr, if_pos he] at this; exact this
  have Rn := R5.setM e13 M13
  have st : Stp lab h lab h13 := st5.trans (Stp.of e13 fun i _ hi => by rw [show i = D from hi, X.R.lD]; simp)
  have Wn : Wf { σ.change.2.2 with dirs := delN l σ.dirs } := ⟨fun p hp => X.W.dirs p (delN_sub hp), X.W.maps, X.W.files, fun p hp => X.W.names p (delN_sub hp), X.W.names', Nat.le_trans (delN_len _ _) X.W.most, X.W.most'⟩
  have := k h13 (by rw [hcr, if_neg (fun y => y he)]; exact X.go st Rn Wn) st
  rw [hcr, if_neg (fun y => y he)] at this; exact this

theorem c42 {h : Heap} {lab : Labs} {f D : Nat} {σ : Dk} (X : DW h lab f D σ) {n m : Int} {R : Heap → Prop}
    (k : ∀ h', DW h' lab f D { σ with fail := ⟨n, if 0 > m then 0 else m, 0⟩ } → Stp lab h lab h' → R h') : Call Go.Proofs.Tryz.prog 42 [.lf (.ptr (some (f, 0))), .lf (.int .i64 n), .lf (.int .i64 m)] h [] R := by
  refine ok42 (NilC.mk rfl (StC.many X.R.blk (by simp) fun h2 hs2 k2 e2 => ?_))
  have st : Stp lab h lab h2 := Stp.of e2 fun i _ hi => by rw [show i = f from hi, X.R.lf]; simp
  have R2 := X.R.setF (a := ⟨n, if 0 > m then 0 else m, 0⟩) (b := σ.stop) e2 (by simpa using k2)
  exact k h2 (X.go st R2 ⟨X.W.dirs, X.W.maps, X.W.files, X.W.names, X.W.names', X.W.most, X.W.most'⟩) st

def setR (σ : Dk) (x : Nat) (b : Tx) : Dk := { σ with fl := upd σ.fl x ⟨b, [], b⟩ }

def cutR (σ : Dk) (l : Tx) (i : Int) : Int × Dk := match fileE σ l with
  | (none, e) => (e, σ)
  | (some x, _) => match σ.fl x with
    | none => (6, σ)
    | some c => if i < 0 ∨ i > c.now.length then (1, σ) else if σ.change.1 ≠ 0 then (σ.change.1, σ.change.2.2) else (0, setR σ.change.2.2 x (c.now.take i.toNat))
theorem c71 {h : Heap} {lab : Labs} {f D : Nat} {σ : Dk} (X : DW h lab f D σ) (Z : Fine σ) {n : Nat} (F : Few σ n) (hn : n ≤ 4398046511104) {l : Tx} (hl : l.length < 4294967281) {i : Int} {R : Int → Heap → Prop}
    (k : ∀ h' lab', DW h' lab' f D (cutR σ l i).2 → Stp lab h lab' h' → R (cutR σ l i).1 h') :
    Call Go.Proofs.Tryz.prog 71 [.lf (.ptr (some (f, 0))), .lf (.str (tx l)), .lf (.int .i64 i)] h [.one (.int .i64)] R := by
  have stay : ∀ e (h' : Heap), cutR σ l i = (e, σ) → Ext0 h h' → R e h' := fun e h' hc e0 => by
    have := k h' lab (by rw [hc]; exact X.ext0 e0) (Stp.of0 e0)
    rwa [hc] at this
  refine ok71 (c53 X.R X.W X.M hl (fun e h' hp he e0 => Br.t (by simpa using he) (stay e h' (by unfold cutR; rw [hp]) e0)) fun x h' hf e0 => Br.f rfl ?_)
  obtain ⟨d, n', dd, m, c, hp, hdd, hm, hlk, hcx⟩ := fileE_some X.W hf
  have X1 := X.ext0 e0
  obtain ⟨sn, kn, yn⟩ := (X1.R.fls x c hcx).1.now
  have hno := (Z x c hcx).len
  have hnl := yn.arr.len
  have hcu : cutR σ l i = if i < 0 ∨ i > c.now.length then (1, σ) else if σ.change.1 ≠ 0 then (σ.change.1, σ.change.2.2) else (0, setR σ.change.2.2 x (c.now.take i.toNat)) := by unfold cutR; rw [hf]; simp only [hcx]
  refine ⟨fun q hh => hh = h' ∧ q = decide (i < 0 ∨ i > c.now.length), Br.dec (fun z => ⟨rfl, (decide_eq_true (.inl z)).symm⟩) fun z => NilC.mk rfl ⟨sn, kn, rfl, decide_eq_decide.2 (by omega)⟩, ?_⟩
  rintro q h8 ⟨rfl, rfl⟩
  refine Br.mk (fun z => stay 1 h8 (by rw [hcu, if_pos (of_decide_eq_true z)]) e0) fun z => ?_
  have hi := of_decide_eq_false z
  rw [if_neg hi] at hcu
  refine c55 X1.R (F.okF hn) (F.okS hn) fun h5 hs5 e5 R5 => ?_
  have st5 : Stp lab h lab h5 := (Stp.of0 e0).trans (Stp.of e5 fun i _ hi => by subst hi; rw [X.R.lf]; simp)
  have X5 : DW h5 lab f D σ.change.2.2 := X.go st5 R5 X.W.change
  refine Br.ne (fun he => ?_) fun he => NilC.mk rfl ?_
  · have := k h5 lab (by rw [hcu, if_pos he]; exact X5) st5
    rw [hcu, if_pos he] at this; exact this
  have lx := (X.R.fls x c hcx).2
  obtain ⟨sf, so, sn5, os, B, yf, oo, hs, hc, ho, yn5⟩ := (R5.fls x c hcx).1.ex
  have hn5 := yn5.arr.len
  have hc5 := yn5.cap
  refine ⟨sn5, B.cell rfl, by omega, by omega, ?_⟩
  have A := yn5.arr.sub (Nat.zero_le i.toNat) (by omega) (m := sn5.cap) (by omega)
  rw [List.drop_zero] at A
  refine c47 A (by rw [List.length_take]; omega) fun s15 h16 o16 f16 => NilC.mk rfl ?_
  refine StC.one (B.ext f16.ext) (by simp) fun h19 hs19 k19 e19 => NilC.mk rfl ⟨s15, k19.cell rfl, NilC.mk rfl (StC.one k19 (by simp) fun h25 hs25 k25 e25 => NilC.mk rfl (StC.one k25 (by simp) fun h28 hs28 k28 e28 => ?_))⟩
  have E : Ext (fun i => i = x) h16 h28 := (e19.trans e25).trans e28
  have hx16 : x < h16.size := (B.ext f16.ext).lt
  have hxl := B.lt
  have o28 : Own 1 dF h28 s15 (c.now.take i.toNat) := o16.ext E fun ⟨b, off, hb, hz⟩ => by have := f16.new _ _ hb; have : b = x := hz; omega
  have E5 : Ext (fun i => i = x ∨ lab i = some (.opn x)) h5 h28 := f16.ext.of0.trans (E.mono fun i hi => .inl hi)
  have hle : lab.Le (named lab s15 .dat) := named_le fun b off hb => .inl (R5.free (f16.new b off hb))
  have hlt : ∀ b, named lab s15 .dat b ≠ none → b < h28.size := fun b hb => by
    by_cases h1 : ∃ off, s15.a = some (b, off)
    · obtain ⟨off, h1⟩ := h1; exact (o28.lt _ _ h1).1
    · rw [named_ne fun off hz => h1 ⟨off, hz⟩] at hb; have := R5.lt b hb; have := E5.size; omega
  have Y := Byt.named o28 lab
  have Rn := R5.setXL lx E5 hle hlt (c0 := ⟨c.now.take i.toNat, [], c.now.take i.toNat⟩) ⟨s15, _, s15, [], by simpa using k28, Y, Own.nil 2 oF h28, fun y off hy => (by cases hy), rfl, fun o ho => (by cases ho), Y⟩
  have st : Stp lab h (named lab s15 .dat) h28 := st5.trans ⟨E5.size, fun i hi hl => E5.same i hi fun z => (by
      rcases z with z | z
      · rw [z, lx] at hl; simp at hl
      · rw [z] at hl; simp at hl), fun i hi => by
      rw [named_ne fun off hz => by have := f16.new _ _ hz; omega]⟩
  have := k h28 _ (by rw [hcu, if_neg (fun y => y he)]; exact X.go st Rn (X.W.change.newF x _)) st
  rw [hcu, if_neg (fun y => y he)] at this; exact this

def flipR (σ : Dk) (l : Tx) (i : Int) : Int × Dk := match fileE σ l with
  | (none, e) => (e, σ)
  | (some x, _) => match σ.fl x with
    | none => (6, σ)
    | some c => if c.opn ≠ [] then (8, σ) else if i < 0 ∨ 8 * (c.now.length : Int) ≤ i then (1, σ) else (0, setR σ x (flipT c.now i))
theorem c83 {h : Heap} {lab : Labs} {f D : Nat} {σ : Dk} (X : DW h lab f D σ) (Z : Fine σ) {l : Tx} (hl : l.length < 4294967281) {i : Int} (hi1 : -9223372036854775808 ≤ i) (hi2 : i ≤ 9223372036854775807) {R : Int → Heap → Prop}
    (k : ∀ h' lab', DW h' lab' f D (flipR σ l i).2 → Stp lab h lab' h' → R (flipR σ l i).1 h') :
    Call Go.Proofs.Tryz.prog 83 [.lf (.ptr (some (f, 0))), .lf (.str (tx l)), .lf (.int .i64 i)] h [.one (.int .i64)] R := by
  have stay : ∀ e (h' : Heap), flipR σ l i = (e, σ) → Ext0 h h' → R e h' := fun e h' hc e0 => by
    have := k h' lab (by rw [hc]; exact X.ext0 e0) (Stp.of0 e0)
    rwa [hc] at this
  refine ok83 (c53 X.R X.W X.M hl (fun e h' hp he e0 => Br.t (by simpa using he) (stay e h' (by unfold flipR; rw [hp]) e0)) fun x h' hf e0 => Br.f rfl (NilC.mk rfl ?_))
  obtain ⟨d, n', dd, m, c, hp, hdd, hm, hlk, hcx⟩ := fileE_some X.W hf
  have X1 := X.ext0 e0
  have hno := (Z x c hcx).len
  have lx := (X.R.fls x c hcx).2
  obtain ⟨sf, so, sn, os, B, yf, oo, hs, hc, ho, yn⟩ := (X1.R.fls x c hcx).1.ex
  have hol := oo.len
  rw [List.length_map] at hol
  have hcl : c.opn.length = os.length := by rw [hc, List.length_map]
  have hnl := yn.arr.len
  have hfl : flipR σ l i = if c.opn ≠ [] then (8, σ) else if i < 0 ∨ 8 * (c.now.length : Int) ≤ i then (1, σ) else (0, setR σ x (flipT c.now i)) := by unfold flipR; rw [hf]; simp only [hcx]
  refine ⟨so, B.cell rfl, Br.dec (fun hgt => stay 8 h' ?_ e0) fun hle => ?_⟩
  · rw [hfl, if_pos]; intro e; rw [e] at hcl; simp at hcl; simp [← hcl] at hol; omega
  have hw0 : c.opn = [] := List.length_eq_zero_iff.1 (by omega)
  rw [if_neg (fun z => z hw0)] at hfl
  refine ⟨fun q hh => hh = h' ∧ q = decide (i < 0 ∨ 8 * (c.now.length : Int) ≤ i), Br.dec (fun z => ⟨rfl, (decide_eq_true (.inl z)).symm⟩) fun z => NilC.mk rfl ⟨sn, B.cell rfl, rfl, ?_⟩, ?_⟩
  · rw [hnl, wi64 (by omega) (by omega)]; exact decide_eq_decide.2 (by omega)
  rintro q h8 ⟨rfl, rfl⟩
  refine Br.mk (fun z => stay 1 h8 (by rw [hfl, if_pos (of_decide_eq_true z)]) e0) fun z => NilC.mk rfl ?_
  have hin := of_decide_eq_false z
  rw [if_neg hin] at hfl
  refine ⟨sn, B.cell rfl, c47 yn.arr (by omega) fun s15 h16 o16 f16 => NilC.mk rfl ?_⟩
  have hd : Int.tdiv i 8 = i / 8 := Int.tdiv_eq_ediv_of_nonneg (by omega)
  have hmm : Int.tmod i 8 = i % 8 := Int.tmod_eq_emod_of_nonneg (by omega)
  refine StC.one (B.ext f16.ext) (by simp) fun h19 hs19 k19 e19 => NilC.mk rfl ⟨s15, k19.cell rfl, fun z => (by cases z), ?_⟩
  have hx16 : x < h16.size := (B.ext f16.ext).lt
  have hxl := B.lt
  have hs15 : ∀ b off, s15.a = some (b, off) → h8.size ≤ b ∧ b ≠ x := fun b off hb => ⟨f16.new _ _ hb, by have := f16.new _ _ hb; omega⟩
  have o19 : Own 1 dF h19 s15 c.now := o16.ext e19 fun ⟨b, off, hb, hz⟩ => (hs15 b off hb).2 hz
  rw [hd, hmm, wi64 (n := i / 8) (by omega) (by omega)]
  have hj : i / 8 = ((i / 8).toNat : Int) := by omega
  have hjl : (i / 8).toNat < c.now.length := by omega
  have hget := List.getElem?_eq_getElem hjl
  refine (o19.arr dF_sized).ix hj hget fun b20 b21 hcell => ⟨_, hcell, fun z => (by cases z), by omega, ?_⟩
  refine IxC.set dF_sized o19 hj hjl (x := flipB c.now[(i / 8).toNat] (i % 8)) (by rw [flipB_eq]; rfl) fun h28 hs28 o28 e28 => NilC.mk rfl ?_
  have hft : c.now.set (i / 8).toNat (flipB c.now[(i / 8).toNat] (i % 8)) = flipT c.now i := by
    unfold flipT; rw [List.getD_eq_getElem?_getD, hget, Option.getD_some]
  rw [hft] at o28
  have k28 := k19.ext e28 fun ⟨off, hz⟩ => (hs15 _ _ hz).2 rfl
  refine ⟨s15, k28.cell rfl, NilC.mk rfl (StC.one k28 (by simp) fun h34 hs34 k34 e34 => ?_)⟩
  have o34 : Own 1 dF h34 s15 (flipT c.now i) := o28.ext e34 fun ⟨b, off, hb, hz⟩ => (hs15 b off hb).2 hz
  have E5 : Ext (fun i => i = x ∨ lab i = some (.opn x)) h8 h34 := ((f16.ext.of0.trans (e19.mono fun i hi => .inl hi)).trans' e28 fun j hj ⟨off, hz⟩ => by have := (hs15 _ _ hz).1; omega).trans (e34.mono fun i hi => .inl hi)
  have hle : lab.Le (named lab s15 .dat) := named_le fun b off hb => .inl (X1.R.free (f16.new b off hb))
  have hlt : ∀ b, named lab s15 .dat b ≠ none → b < h34.size := fun b hb => by
    by_cases h1 : ∃ off, s15.a = some (b, off)
    · obtain ⟨off, h1⟩ := h1; exact (o34.lt _ _ h1).1
    · rw [named_ne fun off hz => h1 ⟨off, hz⟩] at hb; have := X1.R.lt b hb; have := E5.size; omega
  have Y := Byt.named o34 lab
  have hos : os = [] := List.length_eq_zero_iff.1 (by omega)
  subst hos
  have Rn := X1.R.setXL lx E5 hle hlt (c0 := ⟨flipT c.now i, [], flipT c.now i⟩) ⟨s15, so, s15, [], by simpa using k34, Y, ?_, fun y off hy => ?_, rfl, fun o ho => (by cases ho), Y⟩
  · have st : Stp lab h (named lab s15 .dat) h34 := (Stp.of0 e0).trans ⟨E5.size, fun i hi hl => E5.same i hi fun z => (by
        rcases z with z | z
        · rw [z, lx] at hl; simp at hl
        · rw [z] at hl; simp at hl), fun i hi => by
        rw [named_ne fun off hz => by have := f16.new _ _ hz; omega]⟩
    have := k h34 _ (by rw [hfl]; exact X.go st Rn (X.W.newF x _)) st
    rw [hfl] at this; exact this
  · refine (((oo.ext0 f16.ext).ext e19 fun ⟨b, off, hb, hz⟩ => ?_).ext e28 fun ⟨b, off, hb, off', hz⟩ => ?_).ext e34 fun ⟨b, off, hb, hz⟩ => ?_
    · have := hs _ _ hb; rw [show b = x from hz, lx] at this; cases this
    · have h1 := (hs15 _ _ hz).1; have := X1.R.lt b (by rw [hs _ _ hb]; simp); omega
    · have := hs _ _ hb; rw [show b = x from hz, lx] at this; cases this
  · exact hle _ _ (hs y off hy)

section
variable {h : Heap} {lab : Labs} {f D : Nat} {σ : Dk}
theorem c155 (X : DW h lab f D σ) {l : Tx} (hl : l.length < 4294967281) {R : Int → Int → Heap → Prop}
    (k : ∀ h', Ext0 h h' → R ((readE σ l).1.length : Int) (readE σ l).2 h') : Call Go.Proofs.Tryz.prog 155 [.lf (.ptr (some (f, 0))), .lf (.str (tx l))] h [.one (.int .i64), .one (.int .i64)] R := by
  refine ok155 (c53 X.R X.W X.M hl (fun e h' hp he e0 => Br.t (by simpa using he) ?_) fun x h' hf e0 => Br.f rfl (NilC.mk rfl ?_))
  · have hc : readE σ l = ([], e) := by unfold readE; rw [hp]
    have := k h' e0
    rw [hc] at this; exact this
  obtain ⟨d, n', dd, m, c, hp, hdd, hm, hlk, hcx⟩ := fileE_some X.W hf
  have hc : readE σ l = (c.now, 0) := by unfold readE; rw [hf]; simp only [hcx]
  obtain ⟨sn, kn, yn⟩ := ((X.ext0 e0).R.fls x c hcx).1.now
  refine ⟨sn, kn, ?_⟩
  have := k h' e0
  rw [hc] at this
  rw [yn.arr.len]; exact this

def readAtE (σ : Dk) (l : Tx) (i n : Int) : Tx × Int :=
  if (readE σ l).2 ≠ 0 then ([], (readE σ l).2) else if n < 0 ∨ i < 0 ∨ i > (readE σ l).1.length then ([], 1)
  else (((readE σ l).1.drop i.toNat).take n.toNat, 0)
theorem c156 (X : DW h lab f D σ) (Z : Fine σ) {l : Tx} (hl : l.length < 4294967281) {i n : Int} {R : Slc → Int → Heap → Prop}
    (k : ∀ s h', Own 1 dF h' s (readAtE σ l i n).1 → Fresh h h' s → R s (readAtE σ l i n).2 h') : Call Go.Proofs.Tryz.prog 156 [.lf (.ptr (some (f, 0))), .lf (.str (tx l)), .lf (.int .i64 i), .lf (.int .i64 n)] h [.one .slc, .one (.int .i64)] R := by
  refine ok156 (c53 X.R X.W X.M hl (fun e h' hp he e0 => Br.t (by simpa using he) ?_) fun x h' hf e0 => Br.f rfl ?_)
  · have hc : readE σ l = ([], e) := by unfold readE; rw [hp]
    have hr : readAtE σ l i n = ([], e) := by unfold readAtE; rw [hc]; exact if_pos he
    have := k ⟨none, 0, 0⟩ h' (by rw [hr]; exact Own.nil 1 dF h') ⟨e0, fun b off y => by cases y⟩
    rwa [hr] at this
  obtain ⟨d, n', dd, m, c, hp, hdd, hm, hlk, hcx⟩ := fileE_some X.W hf
  have hc : readE σ l = (c.now, 0) := by unfold readE; rw [hf]; simp only [hcx]
  have hra : readAtE σ l i n = if n < 0 ∨ i < 0 ∨ i > c.now.length then ([], 1) else ((c.now.drop i.toNat).take n.toNat, 0) := by unfold readAtE; rw [hc]; exact if_neg (fun z => z rfl)
  have X1 := X.ext0 e0
  obtain ⟨sn, kn, yn⟩ := (X1.R.fls x c hcx).1.now
  have hno := (Z x c hcx).len
  have hnl := yn.arr.len
  have hcap := yn.cap
  have bad : n < 0 ∨ i < 0 ∨ i > c.now.length → R ⟨none, 0, 0⟩ 1 h' := fun z => by
    rw [if_pos z] at hra
    have := k ⟨none, 0, 0⟩ h' (by rw [hra]; exact Own.nil 1 dF h') ⟨e0, fun b off y => by cases y⟩
    rwa [hra] at this
  refine ⟨fun hh => hh = h' ∧ ¬ (n < 0 ∨ i < 0 ∨ i > c.now.length), Br.dec (fun z => bad (.inl z)) fun z1 => Br.dec (fun z => bad (.inr (.inl z))) fun z2 => NilC.mk rfl ⟨sn, kn, Br.dec (fun z => bad (.inr (.inr (by omega)))) fun z3 => ⟨rfl, by omega⟩⟩, ?_⟩
  rintro h7 ⟨rfl, hno'⟩
  rw [if_neg hno'] at hra
  refine NilC.mk rfl ⟨sn, kn, by omega, by omega, ?_⟩
  have A := yn.arr.sub (lo := i.toNat) (hi := sn.len) (m := sn.cap) (by omega) (by omega) (by omega)
  rw [hnl, List.take_length, ← hnl] at A
  have hl2 : (sn.sub 1 i.toNat sn.len sn.cap).len = sn.len - i.toNat := rfl
  have hc2 : (sn.sub 1 i.toNat sn.len sn.cap).cap = sn.cap - i.toNat := rfl
  have hmin : (if ((sn.sub 1 i.toNat sn.len sn.cap).len : Int) < n then ((sn.sub 1 i.toNat sn.len sn.cap).len : Int) else n) = ((min (sn.len - i.toNat) n.toNat : Nat) : Int) := by rw [hl2]; split <;> omega
  rw [hmin]
  refine ⟨by omega, by rw [hc2]; omega, ?_⟩
  rw [Int.toNat_natCast]
  have A2 := A.sub (Nat.zero_le (min (sn.len - i.toNat) n.toNat)) (by rw [List.length_drop]; omega) (m := (sn.sub 1 i.toNat sn.len sn.cap).cap) (by rw [hc2]; omega)
  rw [List.drop_zero] at A2
  have ht : (c.now.drop i.toNat).take (min (sn.len - i.toNat) n.toNat) = (c.now.drop i.toNat).take n.toNat := by
    rcases Nat.le_total n.toNat (sn.len - i.toNat) with z | z
    · rw [Nat.min_eq_right z]
    · rw [Nat.min_eq_left z, List.take_of_length_le (by rw [List.length_drop]; omega), List.take_of_length_le (by rw [List.length_drop]; omega)]
  rw [ht] at A2
  refine c47 A2 (by rw [List.length_take, List.length_drop]; omega) fun s11 h12 o12 f12 => ?_
  have := k s11 h12 (by rw [hra]; exact o12) ⟨e0.trans f12.ext, fun b off y => Nat.le_trans e0.size (f12.new b off y)⟩
  rwa [hra] at this

def unsE (σ : Dk) (l : Tx) : Int × Int := match fileE σ l with
  | (none, e) => (0, e)
  | (some x, _) => match σ.fl x with
    | none => (0, 6)
    | some c => (unsW c.opn, 0)
theorem c158 (X : DW h lab f D σ) {n : Nat} (F : Few σ n) (hn : n ≤ 4398046511104) {l : Tx} (hl : l.length < 4294967281) {R : Int → Int → Heap → Prop}
    (k : ∀ h', Ext0 h h' → R (unsE σ l).1 (unsE σ l).2 h') : Call Go.Proofs.Tryz.prog 158 [.lf (.ptr (some (f, 0))), .lf (.str (tx l))] h [.one (.int .i64), .one (.int .i64)] R := by
  refine ok158 (c53 X.R X.W X.M hl (fun e h' hp he e0 => Br.t (by simpa using he) ?_) fun x h' hf e0 => Br.f rfl ?_)
  · have hc : unsE σ l = (0, e) := by unfold unsE; rw [hp]
    have := k h' e0
    rwa [hc] at this
  obtain ⟨d, n', dd, m, c, hp, hdd, hm, hlk, hcx⟩ := fileE_some X.W hf
  have hc : unsE σ l = (unsW c.opn, 0) := by unfold unsE; rw [hf]; simp only [hcx]
  refine c48 (X.ext0 e0).R hcx (by have := F.opn _ _ hcx; omega) fun h4 e4 => ?_
  have := k h4 (e0.trans e4)
  rwa [hc] at this

def openE (σ : Dk) (l : Tx) : Int × Int := match findE σ l with
  | (none, e) => (0, e)
  | (some b, _) => match σ.dr b with
    | none => (0, 6)
    | some d => ((d.was.length : Int), 0)
theorem c91 (X : DW h lab f D σ) {l : Tx} {R : Int → Int → Heap → Prop}
    (k : ∀ h', Ext0 h h' → R (openE σ l).1 (openE σ l).2 h') : Call Go.Proofs.Tryz.prog 91 [.lf (.ptr (some (f, 0))), .lf (.str (tx l))] h [.one (.int .i64), .one (.int .i64)] R := by
  refine ok91 (c106 X.R (fun e h' hp he e0 => Br.t (by simpa using he) ?_) fun b h' hf e0 => Br.f rfl (NilC.mk rfl ?_))
  · have hc : openE σ l = (0, e) := by unfold openE; rw [hp]
    have := k h' e0
    rwa [hc] at this
  obtain ⟨_, _, d, m, hd, hm, _⟩ := findE_at X.W hf
  have hc : openE σ l = ((d.was.length : Int), 0) := by unfold openE; rw [hf]; simp only [hd]
  obtain ⟨s, B, O, hl⟩ := ((X.ext0 e0).R.dirs b d hd).1.ex
  refine ⟨s, B.cell rfl, ?_⟩
  have := k h' e0
  rw [hc] at this
  rw [O.len]; exact this

def listE (σ : Dk) (l : Tx) : List Tx × Int := match findE σ l with
  | (none, e) => ([], e)
  | (some b, _) => match σ.at b with
    | none => ([], 6)
    | some (_, m) => (keysOf m, 0)
theorem c160 (X : DW h lab f D σ) {l : Tx} {R : Slc → Int → Heap → Prop}
    (k : ∀ s h', Own 1 sF h' s (listE σ l).1 → Fresh h h' s → R s (listE σ l).2 h') : Call Go.Proofs.Tryz.prog 160 [.lf (.ptr (some (f, 0))), .lf (.str (tx l))] h [.one .slc, .one (.int .i64)] R := by
  refine ok160 (c106 X.R (fun e h' hp he e0 => Br.t (by simpa using he) ?_) fun b h' hf e0 => Br.f rfl (NilC.mk rfl ?_))
  · have hc : listE σ l = ([], e) := by unfold listE; rw [hp]
    have := k ⟨none, 0, 0⟩ h' (by rw [hc]; exact Own.nil 1 sF h') ⟨e0, fun b off y => by cases y⟩
    rwa [hc] at this
  obtain ⟨_, _, d, m, hd, hm, hat⟩ := findE_at X.W hf
  have hc : listE σ l = (keysOf m, 0) := by unfold listE; rw [hf]; simp only [hat]
  have X1 := X.ext0 e0
  refine ⟨_, (X1.R.dirs b d hd).1.cell0, keysN (X1.R.mps _ _ hm).1 (by have := X.W.most' _ _ hm; omega) fun s h2 o2 f2 => ?_⟩
  have := k s h2 (by rw [hc]; exact o2) ⟨e0.trans f2.ext, fun b off y => Nat.le_trans e0.size (f2.new b off y)⟩
  rwa [hc] at this

theorem c44 (X : DW h lab f D σ) {R : Slc → Heap → Prop} (k : ∀ s h', Own 1 sF h' s (keysOf σ.dirs) → Fresh h h' s → R s h') :
    Call Go.Proofs.Tryz.prog 44 [.lf (.ptr (some (f, 0)))] h [.one .slc] R := ok44 (c50 X.R X.W k)
end

end Go.V.YtdeihieblljfcaaGreat
/-! The disk by the program and by the document: the same. Names. -/
namespace Go.V.YtdeihieblljfcaaGreat
open Go Go.V

theorem tlt {a b : Tx} : a < b ↔ ¬ b ≤ a := by rw [← List.not_lt, Classical.not_not]
theorem tlt_irrefl (a : Tx) : ¬ a < a := fun h => tlt.1 h (List.le_refl a)
theorem tlt_le {a b : Tx} (h : a < b) : a ≤ b := (List.le_total a b).elim id fun x => absurd x (tlt.1 h)
theorem tlt_of_lt_le {a b c : Tx} (h1 : a < b) (h2 : b ≤ c) : a < c := tlt.2 fun x => tlt.1 h1 (List.le_trans h2 x)
theorem tlt_trans {a b c : Tx} (h1 : a < b) (h2 : b < c) : a < c := tlt_of_lt_le h1 (tlt_le h2)
theorem tlt_of_le_ne {a b : Tx} (h1 : a ≤ b) (h2 : a ≠ b) : a < b := tlt.2 fun x => h2 (List.le_antisymm h1 x)
theorem tlt_ne {a b : Tx} (h : a < b) : a ≠ b := fun e => tlt_irrefl b (e ▸ h)

abbrev Srt (l : List Tx) : Prop := l.Pairwise (· < ·)
theorem Srt.nodup {l : List Tx} (h : Srt l) : l.Nodup := h.imp fun x => tlt_ne x
theorem sortT_srt {l : List Tx} (h : Srt l) : sortT l = l :=
  List.Perm.eq_of_pairwise (le := fun a b : Tx => a ≤ b) (fun x y _ _ h1 h2 => List.le_antisymm h1 h2) (sortT_sorted l) (h.imp fun x => tlt_le x) (sortT_perm l)

theorem look_putN (k n : Tx) (x : Nat) : ∀ m : List (Tx × Nat), look k (putN n x m) = if k = n then some x else look k m
  | [] => by unfold putN look; split <;> rfl
  | p :: r => by
    unfold putN
    by_cases h : n = p.1
    · rw [if_pos h]
      unfold look
      by_cases hk : k = n
      · rw [if_pos hk, if_pos hk]
      · rw [if_neg hk, if_neg hk, if_neg (by rw [← h]; exact hk)]
    · rw [if_neg h]
      unfold look
      by_cases hk : k = p.1
      · rw [if_pos hk, if_pos hk, if_neg (by rw [hk]; exact fun e => h e.symm)]
      · rw [if_neg hk, if_neg hk, look_putN k n x r]
theorem look_delN {k n : Tx} (h : k ≠ n) : ∀ m : List (Tx × Nat), look k (delN n m) = look k m
  | [] => rfl
  | p :: r => by
    unfold delN
    by_cases hp : n = p.1
    · rw [if_pos hp]
      conv => rhs; unfold look
      rw [if_neg (by rw [← hp]; exact h)]
    · rw [if_neg hp]
      unfold look
      split
      · rfl
      · exact look_delN h r
theorem putN_keys (n : Tx) (x : Nat) : ∀ m : List (Tx × Nat), (putN n x m).map (·.1) = if n ∈ m.map (·.1) then m.map (·.1) else m.map (·.1) ++ [n]
  | [] => rfl
  | p :: r => by
    unfold putN
    by_cases h : n = p.1
    · rw [if_pos h, if_pos (by simp [h])]; simp [h]
    · rw [if_neg h, List.map_cons, putN_keys n x r]
      by_cases hr : n ∈ r.map (·.1)
      · rw [if_pos hr, if_pos (by rw [List.map_cons]; exact List.mem_cons_of_mem _ hr)]; rfl
      · rw [if_neg hr, if_neg (by rw [List.map_cons]; intro z; rcases List.mem_cons.1 z with z | z; exact h z; exact hr z)]; rfl
theorem delN_keys (n : Tx) : ∀ m : List (Tx × Nat), (delN n m).map (·.1) = (m.map (·.1)).erase n
  | [] => rfl
  | p :: r => by
    unfold delN
    by_cases h : n = p.1
    · rw [if_pos h, List.map_cons, ← h, List.erase_cons_head]
    · rw [if_neg h, List.map_cons, List.map_cons, List.erase_cons_tail (by simpa using fun e : p.1 = n => h e.symm), delN_keys n r]
theorem mem_look : ∀ {l : Nm} {n : Tx} {i : Nat}, (l.map (·.1)).Nodup → (n, i) ∈ l → look n l = some i
  | p :: r, n, i, hn, h => by
    rw [List.map_cons, List.nodup_cons] at hn
    unfold look
    rcases List.mem_cons.1 h with h | h
    · rw [← h]; simp
    · rw [if_neg, mem_look hn.2 h]
      rintro rfl
      exact hn.1 (List.mem_map.2 ⟨_, h, rfl⟩)
theorem look_isNone {n : Tx} {m : List (Tx × Nat)} (h : n ∉ m.map (·.1)) : look n m = none := by
  cases hl : look n m with
  | none => rfl
  | some x => exact absurd (List.mem_map.2 ⟨_, look_mem hl, rfl⟩) h

/-! ### with -/

theorem wfold_lt {n : Tx} {x : Nat} : ∀ (A out : Nm), (∀ p ∈ A, p.1 < n) → A.foldl (wstep n x) (false, out) = (false, out ++ A)
  | [], out, _ => by simp
  | p :: A, out, h => by
    have hp := h p List.mem_cons_self
    have hle : ¬ n ≤ p.1 := tlt.1 hp
    have hs : wstep n x (false, out) p = (false, out ++ [p]) := by
      unfold wstep
      simp only [hle, and_false, if_false, if_neg (tlt_ne hp)]
      simp
    rw [List.foldl_cons, hs, wfold_lt A _ fun q hq => h q (List.mem_cons_of_mem _ hq)]; simp
theorem wfold_on {n : Tx} {x : Nat} : ∀ (B out : Nm), B.foldl (wstep n x) (true, out) = (true, out ++ B.filter fun p => decide (p.1 ≠ n))
  | [], out => by simp
  | p :: B, out => by
    rw [List.foldl_cons]
    by_cases h : p.1 = n
    · have hs : wstep n x (true, out) p = (true, out) := by unfold wstep; simp [h]
      rw [hs, wfold_on B out, List.filter_cons_of_neg (by simpa using h)]
    · have hs : wstep n x (true, out) p = (true, out ++ [p]) := by unfold wstep; simp [h]
      rw [hs, wfold_on B _, List.filter_cons_of_pos (by simpa using h)]; simp
theorem withD_neg (n : Tx) (l : Nm) : withD n (-1) l = l.filter fun p => decide (p.1 ≠ n) := by
  have : wfold n (-1) l = (true, l.filter fun p => decide (p.1 ≠ n)) := by unfold wfold; rw [show decide ((-1 : Int) < 0) = true from rfl, wfold_on]; simp
  unfold withD; rw [this]; rfl
theorem Srt.drop_ge {n : Tx} : ∀ {l : Nm}, Srt (l.map (·.1)) → ∀ p ∈ l.dropWhile (fun p => decide (p.1 < n)), n ≤ p.1
  | [], _, p, h => by simp at h
  | q :: r, hs, p, h => by
    rw [List.map_cons, Srt, List.pairwise_cons] at hs
    rw [List.dropWhile_cons] at h
    split at h
    · exact Srt.drop_ge hs.2 p h
    · rename_i hq
      have hq : n ≤ q.1 := List.not_lt.1 (by simpa using hq)
      rcases List.mem_cons.1 h with rfl | h
      · exact hq
      · exact List.le_trans hq (tlt_le (hs.1 p.1 (List.mem_map.2 ⟨p, h, rfl⟩)))
theorem tw_mem {α : Type} {f : α → Bool} {p : α} : ∀ {l : List α}, p ∈ l.takeWhile f → f p = true
  | [], h => by simp at h
  | q :: r, h => by
    rw [List.takeWhile_cons] at h
    split at h
    · rename_i hq
      rcases List.mem_cons.1 h with rfl | h
      · exact hq
      · exact tw_mem h
    · cases h
theorem withD_nat {n : Tx} {x : Nat} {l : Nm} (hs : Srt (l.map (·.1))) :
    withD n (x : Int) l = l.takeWhile (fun p => decide (p.1 < n)) ++ (n, x) :: (l.dropWhile fun p => decide (p.1 < n)).filter fun p => decide (p.1 ≠ n) := by
  have hA : ∀ p ∈ l.takeWhile (fun p => decide (p.1 < n)), p.1 < n := fun p hp => by simpa using tw_mem hp
  have hB := Srt.drop_ge (n := n) hs
  have hl : l = l.takeWhile (fun p => decide (p.1 < n)) ++ l.dropWhile (fun p => decide (p.1 < n)) := (List.takeWhile_append_dropWhile).symm
  generalize l.takeWhile (fun p => decide (p.1 < n)) = A at *
  generalize l.dropWhile (fun p => decide (p.1 < n)) = B at *
  have hx : ((x : Int)).toNat = x := rfl
  have hd : decide ((x : Int) < 0) = false := decide_eq_false (by omega)
  unfold withD wfold
  rw [hx, hd]
  cases B with
  | nil =>
    rw [List.append_nil] at hl
    rw [hl, wfold_lt A [] hA]; simp
  | cons p r =>
    have hp := hB p List.mem_cons_self
    have key : l.foldl (wstep n x) (false, []) = (true, A ++ (n, x) :: (p :: r).filter fun p => decide (p.1 ≠ n)) := by
      rw [hl, List.foldl_append, wfold_lt A [] hA, List.nil_append, List.foldl_cons]
      by_cases h : p.1 = n
      · have hst : wstep n x (false, A) p = (true, A ++ [(n, x)]) := by unfold wstep; simp [h, List.le_refl]
        rw [hst, wfold_on, List.filter_cons_of_neg (by simpa using h)]; simp
      · have hst : wstep n x (false, A) p = (true, A ++ [(n, x)] ++ [p]) := by unfold wstep; simp [h, hp]
        rw [hst, wfold_on, List.filter_cons_of_pos (by simpa using h)]; simp
    rw [key]; rfl

theorem filter_srt {l : Nm} (f : Tx × Nat → Bool) (h : Srt (l.map (·.1))) : Srt ((l.filter f).map (·.1)) := List.Pairwise.sublist (List.Sublist.map _ List.filter_sublist) h
theorem withD_neg_keys {n : Tx} {l : Nm} (h : Srt (l.map (·.1))) : Srt ((withD n (-1) l).map (·.1)) ∧ ((withD n (-1) l).map (·.1)) = (l.map (·.1)).erase n := by
  rw [withD_neg]
  refine ⟨filter_srt _ h, ?_⟩
  rw [(Srt.nodup h).erase_eq_filter, List.filter_map]
  congr 1
  apply List.filter_congr
  intro p _
  by_cases h : p.1 = n <;> simp [h]
theorem withD_nat_srt {n : Tx} {x : Nat} {l : Nm} (hs : Srt (l.map (·.1))) : Srt ((withD n (x : Int) l).map (·.1)) := by
  have hB := Srt.drop_ge (n := n) hs
  rw [withD_nat hs, List.map_append, List.map_cons]
  have hl : l = l.takeWhile (fun p => decide (p.1 < n)) ++ l.dropWhile (fun p => decide (p.1 < n)) := (List.takeWhile_append_dropWhile).symm
  have hA : ∀ p ∈ l.takeWhile (fun p => decide (p.1 < n)), p.1 < n := fun p hp => by simpa using tw_mem hp
  rw [hl, List.map_append] at hs
  obtain ⟨h1, h2, h3⟩ := List.pairwise_append.1 hs
  have gt : ∀ b ∈ ((l.dropWhile fun p => decide (p.1 < n)).filter fun p => decide (p.1 ≠ n)).map (·.1), n < b := fun b hb => by
    obtain ⟨p, hp, rfl⟩ := List.mem_map.1 hb
    obtain ⟨hp1, hp2⟩ := List.mem_filter.1 hp
    exact tlt_of_le_ne (hB p hp1) fun e => (by simpa using hp2 : p.1 ≠ n) e.symm
  refine List.pairwise_append.2 ⟨h1, List.pairwise_cons.2 ⟨gt, filter_srt _ h2⟩, fun a ha b hb => ?_⟩
  obtain ⟨p, hp, rfl⟩ := List.mem_map.1 ha
  rcases List.mem_cons.1 hb with rfl | hb
  · exact hA p hp
  · exact tlt_trans (hA p hp) (gt b hb)
theorem withD_nat_mem {n : Tx} {x : Nat} {l : Nm} (hs : Srt (l.map (·.1))) {p : Tx × Nat} (h : p ∈ withD n (x : Int) l) : p = (n, x) ∨ (p ∈ l ∧ p.1 ≠ n) := by
  rw [withD_nat hs] at h
  rcases List.mem_append.1 h with h | h
  · exact .inr ⟨(List.takeWhile_sublist _).subset h, tlt_ne (by simpa using tw_mem h)⟩
  · rcases List.mem_cons.1 h with h | h
    · exact .inl h
    · obtain ⟨h1, h2⟩ := List.mem_filter.1 h
      exact .inr ⟨(List.dropWhile_sublist _).subset h1, by simpa using h2⟩
theorem withD_nat_keys {n : Tx} {x : Nat} {l : Nm} (hs : Srt (l.map (·.1))) : ((withD n (x : Int) l).map (·.1)).Perm (if n ∈ l.map (·.1) then l.map (·.1) else l.map (·.1) ++ [n]) := by
  have h1 : ((withD n (x : Int) l).map (·.1)).Perm (n :: (l.map (·.1)).erase n) := by
    rw [withD_nat hs, List.map_append, List.map_cons]
    refine List.perm_middle.trans (List.Perm.cons _ ?_)
    rw [(Srt.nodup hs).erase_eq_filter]
    conv => rhs; rw [← List.takeWhile_append_dropWhile (p := fun p : Tx × Nat => decide (p.1 < n)) (l := l), List.map_append, List.filter_append]
    have hA : ∀ p ∈ l.takeWhile (fun p => decide (p.1 < n)), p.1 < n := fun p hp => by simpa using tw_mem hp
    have e1 : ((l.takeWhile fun p => decide (p.1 < n)).map (·.1)).filter (· != n) = (l.takeWhile fun p => decide (p.1 < n)).map (·.1) := by
      rw [List.filter_eq_self]
      intro a ha
      obtain ⟨p, hp, rfl⟩ := List.mem_map.1 ha
      simpa using tlt_ne (hA p hp)
    have e2 : ((l.dropWhile fun p => decide (p.1 < n)).map (·.1)).filter (· != n) = ((l.dropWhile fun p => decide (p.1 < n)).filter fun p => decide (p.1 ≠ n)).map (·.1) := by
      rw [List.filter_map]
      congr 1
      apply List.filter_congr
      intro p _
      by_cases h : p.1 = n <;> simp [h]
    rw [e1, e2]
  refine h1.trans ?_
  split
  · rename_i h; exact (List.perm_cons_erase h).symm
  · rename_i h
    rw [List.erase_of_not_mem h]
    exact (List.perm_append_singleton n _).symm

end Go.V.YtdeihieblljfcaaGreat
