/- This text proves a part of the laws of seat YtdeihieblljfcaaGreat, under no condition: F2x F2y F2z. -/
import Derived.Test.YtdeihieblljfcaaGreatPR
set_option linter.unusedVariables false
set_option linter.unusedSimpArgs false
/-! Append, Write, Sync, SyncDir, Stop, Read, Same, Used, New. -/
namespace Go.V.YtdeihieblljfcaaGreat
open Go Go.V

theorem StC.many {h : Heap} {b : Nat} {t : TypeId} {cs xs : List Lf} (k : Blk h b t cs) {off : Nat} (ho : off + xs.length ≤ cs.length) {K : Heap → Prop}
    (c : ∀ h', h'.size = h.size → Blk h' b t (cs.take off ++ xs ++ cs.drop (off + xs.length)) → Ext (fun i => i = b) h h' → K h') : StC h b off xs K := by
  refine ⟨_, t, (0, 0), k, by simp; omega, .inl (Nat.le_refl _), ?_⟩
  rintro h' rfl
  refine c _ (by simp) ?_ (set_ext h b _)
  have hw : wr (cs.map Lf.val).toArray off (xs.map Lf.val) = ((cs.take off ++ xs ++ cs.drop (off + xs.length)).map Lf.val).toArray := by
    apply Array.toList_inj.1
    rw [wr_splice _ _ _ (by simp; omega)]
    simp [List.map_take, List.map_drop]
  unfold Blk
  rw [hw]
  simp [k.lt]

theorem fileE_some {σ : Dk} (W : Wf σ) {l : Tx} {x : Nat} {e : Int} (h : fileE σ l = (some x, e)) : ∃ d n dd m c, pathE σ l = (some (d, n), 0) ∧ σ.dr d = some dd ∧ σ.mp dd.now = some m ∧ look n m = some x ∧ σ.fl x = some c := by
  obtain ⟨d, n, hp⟩ := fileE_path h
  obtain ⟨dd, m, hdd, hm⟩ := pathE_dir W hp
  have hb : ((σ.dr d).bind fun d => σ.mp d.now) = some m := by rw [hdd]; exact hm
  unfold fileE at h
  rw [hp] at h
  simp only [hb] at h
  cases hl : look n m with
  | none => rw [hl] at h; cases h
  | some y =>
    rw [hl] at h; cases h
    obtain ⟨c, hc⟩ := W.files _ _ hm _ (look_mem hl)
    exact ⟨d, n, dd, m, c, hp, hdd, hm, hl, hc⟩

theorem pathE_look {σ : Dk} {l n : Tx} {d : Nat} {e : Int} (h : pathE σ l = (some (d, n), e)) : ∃ a, look a σ.dirs = some d := by
  unfold pathE at h
  split at h
  · cases h
  · split at h
    · cases h
    · rename_i hd; cases h; exact ⟨_, hd⟩
theorem look_keys {n : Tx} {x : Nat} {m : List (Tx × Nat)} (h : look n m = some x) : n ∈ keysOf m := keysOf_mem.2 (List.mem_map.2 ⟨_, look_mem h, rfl⟩)
theorem fileE_walk {σ : Dk} (W : Wf σ) {l : Tx} {x : Nat} {e : Int} (h : fileE σ l = (some x, e)) : x ∈ (walkL σ).map (·.2) := by
  obtain ⟨d, n, dd, m, c, hp, hdd, hm, hl, hc⟩ := fileE_some W h
  obtain ⟨a, ha⟩ := pathE_look hp
  have hat : σ.at d = some (dd, m) := Dk.at_some.2 ⟨hdd, hm⟩
  refine List.mem_map.2 ⟨(a ++ 47 :: n, x), ?_, rfl⟩
  unfold walkL
  refine List.mem_flatMap.2 ⟨a, look_keys ha, ?_⟩
  unfold walkD
  rw [ha, Option.bind_some, hat]
  exact List.mem_map.2 ⟨n, look_keys hl, by rw [hl]; rfl⟩
theorem size_used {σ : Dk} {x : Nat} {c : Fl} (hx : x ∈ (walkL σ).map (·.2)) (hc : σ.fl x = some c) : c.now.length ≤ usedN σ := by
  have : σ.size x ∈ (distinct ((walkL σ).map (·.2))).map σ.size := List.mem_map.2 ⟨x, (mem_distinct _).2 hx, rfl⟩
  have := le_sum this
  unfold Dk.size at this
  simp only [hc] at this
  exact this

theorem Fine.upd {σ : Dk} (Z : Fine σ) {x : Nat} {c : Fl} (h : FlOk c) : Fine { σ with fl := upd σ.fl x c } := fun y d hd => by
  rcases upd_some hd with ⟨rfl, rfl⟩ | ⟨_, hd⟩
  · exact h
  · exact Z y d hd
theorem writesR_cases (σ : Dk) (x : Nat) (i : Int) (b : Tx) : (writesR σ x i b).2 = σ ∨ (writesR σ x i b).2 = σ.change.2.2 ∨
    ∃ c b', σ.fl x = some c ∧ 0 ≤ i ∧ i ≤ c.now.length ∧ b'.length ≤ b.length ∧ ¬ (i + b.length - c.now.length > 0 ∧ usedN σ + (i + b.length - c.now.length) > σ.quota) ∧
      (writesR σ x i b).2 = { σ.change.2.2 with fl := upd σ.fl x ⟨c.fast, c.opn ++ [(i.toNat, b')], overL i.toNat b' c.now⟩ } := by
  cases hc : σ.fl x with
  | none => left; unfold writesR; simp only [hc]
  | some c =>
    by_cases h1 : i < 0 ∨ i > c.now.length
    · left; unfold writesR; simp only [hc]; rw [if_pos h1]
    · by_cases h2 : i + b.length - c.now.length > 0 ∧ usedN σ + (i + b.length - c.now.length) > σ.quota
      · left; unfold writesR; simp only [hc]; rw [if_neg h1, if_pos h2]
      · right
        have hcr : writesR σ x i b = if (σ.change.1 = 0 ∨ σ.change.2.1 = true) ∧ (if σ.change.2.1 = true then b.take (b.length / 2) else b) ≠ [] then (σ.change.1, { σ.change.2.2 with fl := upd σ.fl x ⟨c.fast, c.opn ++ [(i.toNat, (if σ.change.2.1 = true then b.take (b.length / 2) else b))], overL i.toNat (if σ.change.2.1 = true then b.take (b.length / 2) else b) c.now⟩ }) else (σ.change.1, σ.change.2.2) := by
          unfold writesR; simp only [hc]; rw [if_neg h1, if_neg h2]
        generalize hbb : (if σ.change.2.1 = true then b.take (b.length / 2) else b) = b' at hcr
        have hb'l : b'.length ≤ b.length := by rw [← hbb]; split <;> simp <;> omega
        rw [hcr]
        split
        · exact .inr ⟨c, b', rfl, by omega, by omega, hb'l, h2, rfl⟩
        · exact .inl rfl
theorem Fine.writes {σ : Dk} (Z : Fine σ) {x : Nat} {i : Int} {b : Tx} (hx : x ∈ (walkL σ).map (·.2)) (hq : σ.quota ≤ 268435456) : Fine (writesR σ x i b).2 := by
  rcases writesR_cases σ x i b with h | h | ⟨c, b', hc, h1, h2, h3, h4, h⟩ <;> rw [h]
  · exact Z
  · exact Z
  · have ok := Z x c hc
    have hs := size_used hx hc
    have hch : chain c.fast (c.opn ++ [(i.toNat, b')]) := chain_snoc ok.ch (by rw [← ok.now]; show i.toNat ≤ _; omega)
    refine Fine.upd (σ := σ.change.2.2) Z ⟨hch, ?_, ?_⟩
    · show overL _ _ _ = appl c.fast (c.opn ++ [(i.toNat, b')]); rw [appl_snoc, ← ok.now]
    · have := ok.len
      show (overL _ _ _).length ≤ _
      rw [overL_len (by omega)]
      omega
theorem Few.writes {σ : Dk} {n : Nat} (F : Few σ n) (x : Nat) (i : Int) (b : Tx) : Few (writesR σ x i b).2 (n + 1) := by
  rcases writesR_cases σ x i b with h | h | ⟨c, b', hc, h1, h2, h3, h4, h⟩ <;> rw [h]
  · exact F.mono (Nat.le_succ n)
  · exact F.change
  · have F' := F.change
    refine ⟨F'.fail, F'.stop, F'.was, fun y d hd => ?_⟩
    rcases upd_some hd with ⟨rfl, rfl⟩ | ⟨_, hd⟩
    · have := F.opn _ _ hc; simp; omega
    · exact F'.opn _ _ hd

def appendR (σ : Dk) (l b : Tx) : Int × Dk := match fileE σ l with
  | (none, e) => (e, σ)
  | (some x, _) => writesR σ x (σ.size x) b
def writeR (σ : Dk) (l : Tx) (i : Int) (b : Tx) : Int × Dk := match fileE σ l with
  | (none, e) => (e, σ)
  | (some x, _) => writesR σ x i b

theorem c15 {h : Heap} {lab : Labs} {f D : Nat} {σ : Dk} (X : DW h lab f D σ) (Z : Fine σ) {n : Nat} (F : Few σ n) (hn : n ≤ 4398046511000) {l : Tx} (hl : l.length < 4294967281)
    {s : Slc} {b : Tx} (A : Arr 1 dF h s b) (hsc : s.len ≤ s.cap) (hsl : ∀ y off, s.a = some (y, off) → lab y = none ∨ lab y = some .dat) (hb : b.length ≤ 4398046511104) {R : Int → Heap → Prop}
    (k : ∀ h' lab', DW h' lab' f D (appendR σ l b).2 → Stp lab h lab' h' → R (appendR σ l b).1 h') :
    Call Go.Proofs.Tryz.prog 15 [.lf (.ptr (some (f, 0))), .lf (.str (tx l)), .lf (.slc s)] h [.one (.int .i64)] R := by
  refine ok15 (c53 X.R X.W X.M hl (fun e h' hp he e0 => Br.t (by simpa using he) ?_) fun x h' hf e0 => Br.f rfl (NilC.mk rfl ?_))
  · have hc : appendR σ l b = (e, σ) := by unfold appendR; rw [hp]
    have := k h' lab (by rw [hc]; exact X.ext0 e0) (Stp.of0 e0)
    rwa [hc] at this
  · obtain ⟨d, n', dd, m, c, hp, hdd, hm, hlk, hcx⟩ := fileE_some X.W hf
    have X1 := X.ext0 e0
    obtain ⟨sn, kn, yn⟩ := (X1.R.fls x c hcx).1.now
    have hno := (Z x c hcx).len
    have hnl := yn.arr.len
    have hc : appendR σ l b = writesR σ x (c.now.length : Int) b := by unfold appendR; rw [hf]; simp only [Dk.size, hcx]
    refine ⟨sn, kn, ?_⟩
    rw [hnl]
    refine c54 X1 Z F hn hcx (by omega) (by omega) (A.ext0 e0) hsc hsl hb fun h2 lab2 X2 s2 => ?_
    rw [← hc] at X2 ⊢
    exact k h2 lab2 X2 ((Stp.of0 e0).trans s2)
theorem c39 {h : Heap} {lab : Labs} {f D : Nat} {σ : Dk} (X : DW h lab f D σ) (Z : Fine σ) {n : Nat} (F : Few σ n) (hn : n ≤ 4398046511000) {l : Tx} (hl : l.length < 4294967281) {i : Int} (hi1 : -9223372036854775808 ≤ i) (hi2 : i ≤ 9223372036854775807)
    {s : Slc} {b : Tx} (A : Arr 1 dF h s b) (hsc : s.len ≤ s.cap) (hsl : ∀ y off, s.a = some (y, off) → lab y = none ∨ lab y = some .dat) (hb : b.length ≤ 4398046511104) {R : Int → Heap → Prop}
    (k : ∀ h' lab', DW h' lab' f D (writeR σ l i b).2 → Stp lab h lab' h' → R (writeR σ l i b).1 h') :
    Call Go.Proofs.Tryz.prog 39 [.lf (.ptr (some (f, 0))), .lf (.str (tx l)), .lf (.int .i64 i), .lf (.slc s)] h [.one (.int .i64)] R := by
  refine ok39 (c53 X.R X.W X.M hl (fun e h' hp he e0 => Br.t (by simpa using he) ?_) fun x h' hf e0 => Br.f rfl ?_)
  · have hc : writeR σ l i b = (e, σ) := by unfold writeR; rw [hp]
    have := k h' lab (by rw [hc]; exact X.ext0 e0) (Stp.of0 e0)
    rwa [hc] at this
  · obtain ⟨d, n', dd, m, c, hp, hdd, hm, hlk, hcx⟩ := fileE_some X.W hf
    have X1 := X.ext0 e0
    have hc : writeR σ l i b = writesR σ x i b := by unfold writeR; rw [hf]
    refine c54 X1 Z F hn hcx hi1 hi2 (A.ext0 e0) hsc hsl hb fun h2 lab2 X2 s2 => ?_
    rw [← hc] at X2 ⊢
    exact k h2 lab2 X2 ((Stp.of0 e0).trans s2)

def syncR (σ : Dk) (l : Tx) : Int × Dk := match fileE σ l with
  | (none, e) => (e, σ)
  | (some x, _) => match σ.fl x with
    | none => (6, σ)
    | some c => if σ.change.1 ≠ 0 then (σ.change.1, σ.change.2.2) else (0, { σ.change.2.2 with fl := upd σ.fl x ⟨c.now, [], c.now⟩ })
theorem c16 {h : Heap} {lab : Labs} {f D : Nat} {σ : Dk} (X : DW h lab f D σ) {n : Nat} (F : Few σ n) (hn : n ≤ 4398046511104) {l : Tx} (hl : l.length < 4294967281) {R : Int → Heap → Prop}
    (k : ∀ h', DW h' lab f D (syncR σ l).2 → Stp lab h lab h' → R (syncR σ l).1 h') :
    Call Go.Proofs.Tryz.prog 16 [.lf (.ptr (some (f, 0))), .lf (.str (tx l))] h [.one (.int .i64)] R := by
  refine ok16 (c53 X.R X.W X.M hl (fun e h' hp he e0 => Br.t (by simpa using he) ?_) fun x h' hf e0 => Br.f rfl ?_)
  · have hc : syncR σ l = (e, σ) := by unfold syncR; rw [hp]
    have := k h' (by rw [hc]; exact X.ext0 e0) (Stp.of0 e0)
    rwa [hc] at this
  obtain ⟨d, n', dd, m, c, hp, hdd, hm, hlk, hcx⟩ := fileE_some X.W hf
  have X1 := X.ext0 e0
  have hcr : syncR σ l = if σ.change.1 ≠ 0 then (σ.change.1, σ.change.2.2) else (0, { σ.change.2.2 with fl := upd σ.fl x ⟨c.now, [], c.now⟩ }) := by unfold syncR; rw [hf]; simp only [hcx]
  refine c55 X1.R (F.okF hn) (F.okS hn) fun h5 hs5 e5 R5 => ?_
  have st5 : Stp lab h lab h5 := (Stp.of0 e0).trans (Stp.of e5 fun i _ hi => by subst hi; rw [X.R.lf]; simp)
  refine Br.ne (fun he => ?_) fun he => NilC.mk rfl ?_
  · have := k h5 (by rw [hcr, if_pos he]; exact X.go st5 R5 X.W.change) st5
    rw [hcr, if_pos he] at this; exact this
  have lx := (X.R.fls x c hcx).2
  obtain ⟨sf, so, sn, os, B, yf, oo, hs, hc, ho, yn⟩ := (R5.fls x c hcx).1.ex
  refine ⟨sn, B.cell rfl, NilC.mk rfl (StC.one B (by simp) fun h11 hs11 k11 e11 => NilC.mk rfl (StC.one k11 (by simp) fun h14 hs14 k14 e14 => ?_))⟩
  have E : Ext (fun i => i = x) h5 h14 := e11.trans e14
  have Y := yn.ext E fun z hz => by rw [show z = x from hz, lx]; simp
  have Rn := R5.setX (x0 := x) (c0 := ⟨c.now, [], c.now⟩) lx (E.mono fun i hi => .inl hi) ⟨sn, _, sn, [], by simpa using k14, Y, Own.nil 2 oF h14, fun y off hy => (by cases hy), rfl, fun o ho => (by cases ho), Y⟩
  have st : Stp lab h lab h14 := st5.trans (Stp.of E fun i _ hi => by rw [show i = x from hi, lx]; simp)
  have := k h14 (by rw [hcr, if_neg (fun y => y he)]; exact X.go st Rn (X.W.change.newF x _)) st
  rw [hcr, if_neg (fun y => y he)] at this; exact this

def syncDirR (σ : Dk) (l : Tx) : Int × Dk := match findE σ l with
  | (none, e) => (e, σ)
  | (some b, _) => match σ.dr b with
    | none => (6, σ)
    | some d => if σ.change.1 ≠ 0 then (σ.change.1, σ.change.2.2) else (0, { σ.change.2.2 with dr := upd σ.dr b ⟨d.now, []⟩ })
theorem Wf.wasNil {σ : Dk} (W : Wf σ) {b : Nat} {d : Dr} (hd : σ.dr b = some d) : Wf { σ with dr := upd σ.dr b ⟨d.now, []⟩ } := by
  refine ⟨fun p hp => ?_, fun b' d' hd' => ?_, W.files, W.names, W.names', W.most, W.most'⟩
  · obtain ⟨d0, hd0⟩ := W.dirs p hp
    by_cases e : p.2 = b
    · exact ⟨_, by show upd _ _ _ _ = _; rw [e, upd_same]⟩
    · exact ⟨d0, by show upd _ _ _ _ = _; rw [upd_ne e]; exact hd0⟩
  · rcases upd_some hd' with ⟨rfl, rfl⟩ | ⟨_, hd'⟩
    · exact ⟨(W.maps _ _ hd).1, fun r h => by cases h⟩
    · exact W.maps _ _ hd'
theorem findE_some {σ : Dk} (W : Wf σ) {l : Tx} {b : Nat} {e : Int} (h : findE σ l = (some b, e)) : look l σ.dirs = some b ∧ ∃ d, σ.dr b = some d := by
  unfold findE at h
  split at h
  · split at h
    · cases h
    · rename_i hd; cases h
      exact ⟨hd, W.dirs _ (look_mem hd)⟩
  · cases h
theorem c40 {h : Heap} {lab : Labs} {f D : Nat} {σ : Dk} (X : DW h lab f D σ) {n : Nat} (F : Few σ n) (hn : n ≤ 4398046511104) {l : Tx} {R : Int → Heap → Prop}
    (k : ∀ h', DW h' lab f D (syncDirR σ l).2 → Stp lab h lab h' → R (syncDirR σ l).1 h') :
    Call Go.Proofs.Tryz.prog 40 [.lf (.ptr (some (f, 0))), .lf (.str (tx l))] h [.one (.int .i64)] R := by
  refine ok40 (c106 X.R (fun e h' hp he e0 => Br.t (by simpa using he) ?_) fun b h' hf e0 => Br.f rfl ?_)
  · have hc : syncDirR σ l = (e, σ) := by unfold syncDirR; rw [hp]
    have := k h' (by rw [hc]; exact X.ext0 e0) (Stp.of0 e0)
    rwa [hc] at this
  obtain ⟨hlk, d, hd⟩ := findE_some X.W hf
  have X1 := X.ext0 e0
  have hcr : syncDirR σ l = if σ.change.1 ≠ 0 then (σ.change.1, σ.change.2.2) else (0, { σ.change.2.2 with dr := upd σ.dr b ⟨d.now, []⟩ }) := by unfold syncDirR; rw [hf]; simp only [hd]
  refine c55 X1.R (F.okF hn) (F.okS hn) fun h5 hs5 e5 R5 => ?_
  have st5 : Stp lab h lab h5 := (Stp.of0 e0).trans (Stp.of e5 fun i _ hi => by subst hi; rw [X.R.lf]; simp)
  refine Br.ne (fun he => ?_) fun he => NilC.mk rfl ?_
  · have := k h5 (by rw [hcr, if_pos he]; exact X.go st5 R5 X.W.change) st5
    rw [hcr, if_pos he] at this; exact this
  obtain ⟨s, B, O, hl⟩ := (R5.dirs b d hd).1.ex
  have lb := (R5.dirs b d hd).2
  refine StC.one B (by simp) fun h8 hs8 k8 e8 => ?_
  have Rn := R5.setD (b0 := b) (d0 := ⟨d.now, []⟩) lb (e8.mono fun i hi => .inl hi) ⟨_, by simpa using k8, Own.nil 1 wF h8, fun y off hy => by cases hy⟩
  have st : Stp lab h lab h8 := st5.trans (Stp.of e8 fun i _ hi => by rw [show i = b from hi, lb]; simp)
  have := k h8 (by rw [hcr, if_neg (fun y => y he)]; exact X.go st Rn (X.W.change.wasNil hd)) st
  rw [hcr, if_neg (fun y => y he)] at this; exact this

theorem c43 {h : Heap} {lab : Labs} {f D : Nat} {σ : Dk} (X : DW h lab f D σ) {n : Int} {R : Heap → Prop}
    (k : ∀ h', DW h' lab f D { σ with stop := ⟨n, -1, 0⟩ } → Stp lab h lab h' → R h') : Call Go.Proofs.Tryz.prog 43 [.lf (.ptr (some (f, 0))), .lf (.int .i64 n)] h [] R := by
  refine ok43 (NilC.mk rfl (StC.many X.R.blk (by simp) fun h2 hs2 k2 e2 => ?_))
  have st : Stp lab h lab h2 := Stp.of e2 fun i _ hi => by rw [show i = f from hi, X.R.lf]; simp
  have R2 := X.R.setF (a := σ.fail) (b := ⟨n, -1, 0⟩) e2 (by simpa using k2)
  exact k h2 (X.go st R2 ⟨X.W.dirs, X.W.maps, X.W.files, X.W.names, X.W.names', X.W.most, X.W.most'⟩) st

def readE (σ : Dk) (l : Tx) : Tx × Int := match fileE σ l with
  | (none, e) => ([], e)
  | (some x, _) => match σ.fl x with
    | none => ([], 6)
    | some c => (c.now, 0)
theorem c41 {h : Heap} {lab : Labs} {f D : Nat} {σ : Dk} (X : DW h lab f D σ) (Z : Fine σ) {l : Tx} (hl : l.length < 4294967281) {R : Slc → Int → Heap → Prop}
    (k : ∀ s h', Own 1 dF h' s (readE σ l).1 → Fresh h h' s → ((readE σ l).2 ≠ 0 → s = ⟨none, 0, 0⟩) → R s (readE σ l).2 h') :
    Call Go.Proofs.Tryz.prog 41 [.lf (.ptr (some (f, 0))), .lf (.str (tx l))] h [.one .slc, .one (.int .i64)] R := by
  refine ok41 (c53 X.R X.W X.M hl (fun e h' hp he e0 => Br.t (by simpa using he) ?_) fun x h' hf e0 => Br.f rfl (NilC.mk rfl ?_))
  · have hc : readE σ l = ([], e) := by unfold readE; rw [hp]
    have := k ⟨none, 0, 0⟩ h' (by rw [hc]; exact Own.nil 1 dF h') ⟨e0, fun b off y => by cases y⟩ fun _ => rfl
    rwa [hc] at this
  obtain ⟨d, n', dd, m, c, hp, hdd, hm, hlk, hcx⟩ := fileE_some X.W hf
  have X1 := X.ext0 e0
  have hc : readE σ l = (c.now, 0) := by unfold readE; rw [hf]; simp only [hcx]
  obtain ⟨sn, kn, yn⟩ := (X1.R.fls x c hcx).1.now
  have hno := (Z x c hcx).len
  refine ⟨sn, kn, c47 yn.arr (by omega) fun s' h2 o2 f2 => ?_⟩
  have := k s' h2 (by rw [hc]; exact o2) ⟨e0.trans f2.ext, fun b off y => Nat.le_trans e0.size (f2.new b off y)⟩ (by rw [hc]; intro z; exact absurd rfl z)
  rwa [hc] at this

def sameE (σ : Dk) (l l' : Tx) : Bool := match fileE σ l, fileE σ l' with
  | (some x, _), (some y, _) => decide (x = y)
  | _, _ => false
theorem c162 {h : Heap} {lab : Labs} {f D : Nat} {σ : Dk} (X : DW h lab f D σ) {l l' : Tx} (hl : l.length < 4294967281) (hl' : l'.length < 4294967281) {R : Bool → Heap → Prop}
    (k : ∀ h', Ext0 h h' → R (sameE σ l l') h') : Call Go.Proofs.Tryz.prog 162 [.lf (.ptr (some (f, 0))), .lf (.str (tx l)), .lf (.str (tx l'))] h [.one .bool] R := by
  refine ok162 (c53 X.R X.W X.M hl (fun e h1 hp he e0 => ?_) fun x h1 hf e0 => ?_)
  · have X1 := X.ext0 e0
    have no : ∀ h2, Ext0 h1 h2 → R false h2 := fun h2 e2 => by
      have := k h2 (e0.trans e2)
      have hs : sameE σ l l' = false := by unfold sameE; rw [hp]
      rwa [hs] at this
    exact c53 X1.R X1.W X1.M hl' (fun e' h2 _ _ e2 => Br.f (by simpa using he) (no h2 e2)) fun y h2 _ e2 => Br.f (by simpa using he) (no h2 e2)
  · have X1 := X.ext0 e0
    refine c53 X1.R X1.W X1.M hl' (fun e' h2 hp2 he2 e2 => Br.t rfl (Br.f (by simpa using he2) ?_)) fun y h2 hf2 e2 => Br.t rfl (Br.t rfl ?_)
    · have := k h2 (e0.trans e2)
      have hs : sameE σ l l' = false := by unfold sameE; rw [hf, hp2]
      rwa [hs] at this
    · have := k h2 (e0.trans e2)
      have hs : sameE σ l l' = decide (x = y) := by unfold sameE; rw [hf, hf2]
      have X2 := X1.ext0 e2
      obtain ⟨_, _, _, _, c, _, _, _, _, hc⟩ := fileE_some X.W hf
      obtain ⟨_, _, _, _, c', _, _, _, _, hc'⟩ := fileE_some X.W hf2
      refine ⟨.inr ⟨filePlain X2.R hc, filePlain X2.R hc'⟩, ?_⟩
      have hp : ptrEq (some (x, 0)) (some (y, 0)) = decide (x = y) := by unfold ptrEq; rw [Bool.eq_iff_iff]; simp
      rw [hp, ← hs]; exact this

theorem c87 {h : Heap} {lab : Labs} {f D : Nat} {σ : Dk} (X : DW h lab f D σ) (Z : Fine σ) {R : Int → Heap → Prop}
    (k : ∀ h', Ext0 h h' → R (usedN σ : Int) h') : Call Go.Proofs.Tryz.prog 87 [.lf (.ptr (some (f, 0)))] h [.one (.int .i64)] R := ok87 (c112 X Z k)

def Dk.new (q : Int) : Dk := ⟨q, [], fun _ => none, fun _ => none, fun _ => none, ⟨0, 0, 0⟩, ⟨0, 0, 0⟩⟩
theorem Wf.new (q : Int) : Wf (Dk.new q) := ⟨fun p h => (by cases h), fun b d h => (by cases h), fun r m h => (by cases h), fun p h => (by cases h), fun r m h => (by cases h), by show (0 : Nat) ≤ 64; omega, fun r m h => (by cases h)⟩
theorem Few.new (q : Int) : Few (Dk.new q) 0 :=
  ⟨by show (-9223372036854775808 : Int) ≤ 0 ∧ (0 : Int) ≤ 9223372036854775807 ∧ (0 : Int) ≤ 0 ∧ (0 : Int) ≤ ((0 : Nat) : Int); omega, by show (-9223372036854775808 : Int) ≤ 0 ∧ (0 : Int) ≤ 9223372036854775807 ∧ (0 : Int) ≤ 0 ∧ (0 : Int) ≤ ((0 : Nat) : Int); omega, fun b d h => (by cases h), fun b d h => (by cases h)⟩
theorem Fine.new (q : Int) : Fine (Dk.new q) := fun x c h => by cases h
theorem c36 {h : Heap} (M : MaxL h) {q : Int} {R : Option (Nat × Nat) → Int → Heap → Prop}
    (k0 : q < 0 ∨ q > 268435456 → R none 1 h)
    (k : 0 ≤ q → q ≤ 268435456 → ∀ f D lab h', DW h' lab f D (Dk.new q) → Ext0 h h' → (∀ i, i < h.size → lab i = none) → R (some (f, 0)) 0 h') :
    Call Go.Proofs.Tryz.prog 36 [.lf (.int .i64 q)] h [.one .ptr, .one (.int .i64)] R := by
  refine ok36 (Br.dec (fun hneg => k0 (.inl hneg)) fun hge => Br.dec (fun hgt => k0 (.inr hgt)) fun hle => NewM.mk fun D h1 hD hs1 e1 k1 => New.mk fun f h3 hf hs3 e3 k3 => ?_)
  have e03 := e1.trans e3
  have M3 := M.lt
  refine k (by omega) (by omega) f D (upd (upd (fun _ => none) D .dm) f .fs) h3 ⟨⟨k3, MapR.ext (MapR.new k1) e3, upd_same _ _ _, by rw [upd_ne (by omega)]; exact upd_same _ _ _, fun b d hb => (by cases hb), fun r m hm => (by cases hm), fun x c hc => (by cases hc), fun b hb => ?_⟩, Wf.new q, M.ext e03 id, ?_⟩ e03 fun i hi => ?_
  · by_cases h1 : b = f
    · omega
    · rw [upd_ne h1] at hb
      by_cases h2 : b = D
      · omega
      · rw [upd_ne h2] at hb; exact absurd rfl hb
  · rw [upd_ne (by omega), upd_ne (by omega)]
  · rw [upd_ne (by omega), upd_ne (by omega)]

end Go.V.YtdeihieblljfcaaGreat
/-! A crash. -/
namespace Go.V.YtdeihieblljfcaaGreat
open Go Go.V

def iF : Int → List Lf := fun i => [.int .i64 i]
theorem iF_sized : Sized 1 iF := fun _ => rfl
def turnV (l : List Int) (t : Nat) : Nat := (l[t % l.length]?.getD 0).toNat

structure Turn (h : Heap) (b0 b2 : Nat) (s : Slc) (l : List Int) (t : Nat) : Prop where
  k0 : Blk h b0 23 [.slc s]
  k2 : ∃ n : Int, Blk h b2 3 [.int .i64 n] ∧ (l = [] ∨ n = (t : Int))
  arr : Arr 1 iF h s l
theorem Turn.ext {S : Nat → Prop} {h h' : Heap} {b0 b2 : Nat} {s : Slc} {l : List Int} {t : Nat} (T : Turn h b0 b2 s l t) (e : Ext S h h') (h0 : ¬ S b0) (h2 : ¬ S b2) (hs : ∀ b off, s.a = some (b, off) → ¬ S b) : Turn h' b0 b2 s l t :=
  ⟨T.k0.ext e h0, let ⟨n, k, hn⟩ := T.k2; ⟨n, k.ext e h2, hn⟩, T.arr.ext e fun ⟨b, off, x, y⟩ => hs b off x y⟩
def turnC (b0 b2 : Nat) : Value := .func (.func 109) #[] #[.pointer (some ⟨b0, 0, none⟩), .pointer (some ⟨b2, 0, none⟩)]

theorem v58 {h : Heap} {b0 b2 : Nat} {s : Slc} {l : List Int} {t : Nat} (T : Turn h b0 b2 s l t) (hne : b0 ≠ b2) (hs : ∀ b off, s.a = some (b, off) → b ≠ b2) (ht : t ≤ 4611686018427387904) (hl : l.length ≤ 4611686018427387904) {R : Int → Heap → Prop}
    (k : ∀ h', h'.size = h.size → Ext (fun i => i = b2) h h' → Turn h' b0 b2 s l (t + 1) → R (turnV l t : Int) h') : CallV Go.Proofs.Tryz.prog (turnC b0 b2) [] h [.one (.int .i64)] R := by
  obtain ⟨n, k2, hn⟩ := T.k2
  have hlen := T.arr.len
  refine .inl ⟨109, [], [.lf (.ptr (some (b0, 0))), .lf (.ptr (some (b2, 0)))], _, _, rfl, Go.Proofs.Tryz.func109, rfl, ok109 ⟨s, T.k0.cell rfl, Br.eq (fun h0 => ?_) fun h0 => ?_⟩⟩
  · have hl0 : l = [] := List.length_eq_zero_iff.1 (by omega)
    subst hl0
    have := k h rfl (Ext.refl _ _) ⟨T.k0, ⟨n, k2, .inl rfl⟩, T.arr⟩
    exact this
  · have hl0 : l ≠ [] := fun e => h0 (by rw [hlen, e]; rfl)
    have hn : n = (t : Int) := hn.resolve_left hl0
    subst hn
    have hpos := List.length_pos_iff.2 hl0
    refine ⟨_, k2.cell rfl, ?_⟩
    rw [wi64 (n := (t : Int) + 1) (by omega) (by omega)]
    refine StC.one k2 (by simp) fun h2 hs2 k2' e2 => ?_
    have k0' := T.k0.ext e2 hne
    have A' : Arr 1 iF h2 s l := T.arr.ext e2 fun ⟨b, off, x, y⟩ => hs b off x y
    refine ⟨s, k0'.cell rfl, _, k2'.cell rfl, s, k0'.cell rfl, fun x => h0 (by omega), ?_⟩
    rw [wi64 (n := (t : Int) + 1 - 1) (by omega) (by omega)]
    have hmod : Int.tmod ((t : Int) + 1 - 1) (s.len : Int) = ((t % l.length : Nat) : Int) := by
      rw [show (t : Int) + 1 - 1 = (t : Int) by omega, hlen]; rfl
    have hlt : t % l.length < l.length := Nat.mod_lt _ hpos
    rw [hmod]
    refine A'.ix rfl (x := l[t % l.length]) (List.getElem?_eq_getElem hlt) fun b6 b7 hc => ⟨_, hc, ?_⟩
    have hv : (if (0 : Int) > l[t % l.length] then (0 : Int) else l[t % l.length]) = (turnV l t : Int) := by
      unfold turnV
      rw [List.getElem?_eq_getElem hlt, Option.getD_some]
      split <;> omega
    rw [hv]
    exact k h2 hs2 e2 ⟨k0', ⟨_, by simpa using k2', .inr (by omega)⟩, A'⟩

theorem c49 {h : Heap} {s : Slc} {l : List Int} (A : Arr 1 iF h s l) {R : Value → Heap → Prop}
    (k : ∀ b0 b2 h', b0 = h.size → b2 = h.size + 1 → h'.size = h.size + 2 → Ext0 h h' → Turn h' b0 b2 s l 0 → R (turnC b0 b2) h') : Call Go.Proofs.Tryz.prog 49 [.lf (.slc s)] h [.one .raw] R := by
  refine ok49 (New.mk fun b0 h1 hb0 hs1 e1 k1 => New.mk fun b2 h3 hb2 hs3 e3 k3 => StC.one k3 (by simp) fun h4 hs4 k4 e4 => ?_)
  have e : Ext0 h h4 := (e1.trans e3).tmp e4 (by omega)
  exact k b0 b2 h4 hb0 (by omega) (by omega) e ⟨(k1.ext e3).ext e4 (by omega), ⟨0, by simpa using k4, .inr rfl⟩, A.ext0 e⟩

def dstep (l : List Int) (a : Nat × Dk) (n : Tx) : Nat × Dk := match (look n a.2.dirs).bind fun b => (a.2.dr b).map fun d => (b, d) with
  | none => a
  | some (b, d) => if d.was = [] then a else (a.1 + 1, { a.2 with dr := upd a.2.dr b ⟨(d.was[turnV l a.1 % (d.was.length + 1)]?).getD d.now, []⟩ })
def cutN (t : Nat) (u : Int) : Nat := (Int.tmod (t : Int) (IntKind.wrap .i64 (u + 1))).toNat
def cstep (l : List Int) (a : List Nat × Nat × Dk) (e : Tx × Nat) : List Nat × Nat × Dk := (a.1 ++ [e.2], match a.2.2.fl e.2 with
  | none => a.2
  | some c => if e.2 ∉ a.1 ∧ 0 < unsW c.opn then
      (a.2.1 + 1, { a.2.2 with fl := upd a.2.2.fl e.2 ⟨keptL (cutN (turnV l a.2.1) (unsW c.opn)) c.fast c.opn, [], keptL (cutN (turnV l a.2.1) (unsW c.opn)) c.fast c.opn⟩ })
    else a.2)
def crashD (σ : Dk) (names : List Int) (w : List Tx) : Nat × Dk := w.foldl (dstep names) (0, σ)
def crashF (σ : Dk) (keeps : List Int) (w : List (Tx × Nat)) : List Nat × Nat × Dk := w.foldl (cstep keeps) ([], 0, σ)
def crashR (σ : Dk) (keeps names : List Int) : Dk :=
  let σ1 := (crashD σ names (keysOf σ.dirs)).2
  { (crashF σ1 keeps (walkL σ1)).2.2 with fail := ⟨0, 0, 0⟩, stop := ⟨0, 0, 0⟩ }

theorem crashD_snoc (σ : Dk) (l : List Int) (w : List Tx) (n : Tx) : crashD σ l (w ++ [n]) = dstep l (crashD σ l w) n := by unfold crashD; rw [List.foldl_append]; rfl
theorem crashF_snoc (σ : Dk) (l : List Int) (w : List (Tx × Nat)) (e : Tx × Nat) : crashF σ l (w ++ [e]) = cstep l (crashF σ l w) e := by unfold crashF; rw [List.foldl_append]; rfl
theorem crashF_seen (σ : Dk) (l : List Int) : ∀ w, (crashF σ l w).1 = w.map (·.2) := fun w => by
  induction w using snoc_ind with
  | h0 => rfl
  | h1 w e ih => rw [crashF_snoc, List.map_append]; show (crashF σ l w).1 ++ [e.2] = _; rw [ih]; rfl

structure Good (σ : Dk) (n : Nat) : Prop where
  W : Wf σ
  F : Few σ n
  Z : Fine σ
theorem dstep_cases (l : List Int) (a : Nat × Dk) (n : Tx) : dstep l a n = a ∨ ∃ b d, look n a.2.dirs = some b ∧ a.2.dr b = some d ∧ d.was ≠ [] ∧ dstep l a n = (a.1 + 1, { a.2 with dr := upd a.2.dr b ⟨(d.was[turnV l a.1 % (d.was.length + 1)]?).getD d.now, []⟩ }) := by
  unfold dstep
  cases hl : look n a.2.dirs with
  | none => exact .inl rfl
  | some b =>
    cases hd : a.2.dr b with
    | none => left; simp [hd]
    | some d =>
      simp only [Option.bind_some, hd, Option.map_some]
      by_cases hw : d.was = []
      · rw [if_pos hw]; exact .inl rfl
      · rw [if_neg hw]; exact .inr ⟨b, d, rfl, hd, hw, rfl⟩
theorem Good.dstep {a : Nat × Dk} {n : Nat} (G : Good a.2 n) (l : List Int) (nm : Tx) : Good (dstep l a nm).2 n ∧ (dstep l a nm).2.dirs = a.2.dirs ∧ (dstep l a nm).2.fl = a.2.fl := by
  rcases dstep_cases l a nm with h | ⟨b, d, h1, h2, h3, h⟩ <;> rw [h]
  · exact ⟨G, rfl, rfl⟩
  · have hin : (d.was[turnV l a.1 % (d.was.length + 1)]?).getD d.now = d.now ∨ (d.was[turnV l a.1 % (d.was.length + 1)]?).getD d.now ∈ d.was := by
      cases hx : d.was[turnV l a.1 % (d.was.length + 1)]? with
      | none => exact .inl rfl
      | some r => exact .inr (List.mem_of_getElem? hx)
    refine ⟨⟨⟨fun p hp => ?_, fun b' d' hd' => ?_, G.W.files, G.W.names, G.W.names', G.W.most, G.W.most'⟩, ⟨G.F.fail, G.F.stop, fun b' d' hd' => ?_, G.F.opn⟩, G.Z⟩, rfl, rfl⟩
    · obtain ⟨d0, hd0⟩ := G.W.dirs p hp
      by_cases e : p.2 = b
      · exact ⟨_, by show upd _ _ _ _ = _; rw [e, upd_same]⟩
      · exact ⟨d0, by show upd _ _ _ _ = _; rw [upd_ne e]; exact hd0⟩
    · rcases upd_some hd' with ⟨rfl, rfl⟩ | ⟨_, hd'⟩
      · refine ⟨?_, fun r h => by cases h⟩
        rcases hin with h | h
        · rw [h]; exact (G.W.maps _ _ h2).1
        · exact (G.W.maps _ _ h2).2 _ h
      · exact G.W.maps _ _ hd'
    · rcases upd_some hd' with ⟨rfl, rfl⟩ | ⟨_, hd'⟩
      · simp
      · exact G.F.was _ _ hd'
theorem Good.crashD {σ : Dk} {n : Nat} (G : Good σ n) (l : List Int) : ∀ w, Good (crashD σ l w).2 n ∧ (crashD σ l w).2.dirs = σ.dirs ∧ (crashD σ l w).2.fl = σ.fl ∧ (crashD σ l w).1 ≤ w.length := fun w => by
  induction w using snoc_ind with
  | h0 => exact ⟨G, rfl, rfl, Nat.le_refl _⟩
  | h1 w e ih =>
    rw [crashD_snoc]
    obtain ⟨g1, g2, g3⟩ := ih.1.dstep l e
    refine ⟨g1, g2.trans ih.2.1, g3.trans ih.2.2.1, ?_⟩
    rw [List.length_append]
    have := ih.2.2.2
    rcases dstep_cases l (YtdeihieblljfcaaGreat.crashD σ l w) e with h | ⟨b, d, h1, h2, h3, h⟩ <;> rw [h] <;> simp <;> omega

theorem keptL_ok : ∀ {os : List (Nat × Tx)} {c : Tx} (k : Nat), chain c os → (keptL k c os).length ≤ (appl c os).length
  | [], c, k, _ => Nat.le_refl _
  | o :: r, c, k, ⟨h1, h2⟩ => by
    have zero : ∀ (os : List (Nat × Tx)) (c : Tx), keptL 0 c os = c := by
      intro os
      induction os with
      | nil => intro c; rfl
      | cons o r ih => intro c; unfold keptL; simp [ih]
    have hm := (appl_len (r := r) h2).1
    rw [overL_len h1] at hm
    show (keptL (k - min k o.2.length) (if 0 < min k o.2.length then overL o.1 (o.2.take (min k o.2.length)) c else c) r).length ≤ (appl (overL o.1 o.2 c) r).length
    by_cases hk : k ≤ o.2.length
    · have : k - min k o.2.length = 0 := by omega
      rw [this, zero]
      split
      · rw [overL_len h1]; simp; omega
      · omega
    · have : min k o.2.length = o.2.length := by omega
      rw [this, List.take_length]
      split
      · exact keptL_ok _ h2
      · rename_i h0
        have h0 : o.2 = [] := List.length_eq_zero_iff.1 (by omega)
        have : overL o.1 o.2 c = c := by unfold overL; rw [h0]; simp
        rw [this] at h2 ⊢
        exact keptL_ok _ h2
theorem cstep_cases (l : List Int) (a : List Nat × Nat × Dk) (e : Tx × Nat) : (cstep l a e).2 = a.2 ∨ ∃ c, a.2.2.fl e.2 = some c ∧ e.2 ∉ a.1 ∧ 0 < unsW c.opn ∧
    (cstep l a e).2 = (a.2.1 + 1, { a.2.2 with fl := upd a.2.2.fl e.2 ⟨keptL (cutN (turnV l a.2.1) (unsW c.opn)) c.fast c.opn, [], keptL (cutN (turnV l a.2.1) (unsW c.opn)) c.fast c.opn⟩ }) := by
  unfold cstep
  cases hc : a.2.2.fl e.2 with
  | none => exact .inl rfl
  | some c =>
    simp only
    by_cases h : e.2 ∉ a.1 ∧ 0 < unsW c.opn
    · rw [if_pos h]; exact .inr ⟨c, rfl, h.1, h.2, rfl⟩
    · rw [if_neg h]; exact .inl rfl
theorem Good.cstep {a : List Nat × Nat × Dk} {n : Nat} (G : Good a.2.2 n) (l : List Int) (e : Tx × Nat) : Good (cstep l a e).2.2 n ∧ (cstep l a e).2.2.dirs = a.2.2.dirs ∧ (cstep l a e).2.2.dr = a.2.2.dr ∧ (cstep l a e).2.2.mp = a.2.2.mp ∧ (∀ x c, a.2.2.fl x = some c → ∃ c', (cstep l a e).2.2.fl x = some c') := by
  rcases cstep_cases l a e with h | ⟨c, h1, h2, h3, h⟩ <;> rw [h]
  · exact ⟨G, rfl, rfl, rfl, fun x c hc => ⟨c, hc⟩⟩
  · have ok := G.Z _ _ h1
    have hl := keptL_ok (cutN (turnV l a.2.1) (unsW c.opn)) ok.ch
    have := ok.len
    rw [ok.now] at this
    refine ⟨⟨G.W.newF e.2 _, ⟨G.F.fail, G.F.stop, G.F.was, fun x d hd => ?_⟩, G.Z.upd ⟨trivial, rfl, by show (keptL _ _ _).length ≤ _; omega⟩⟩, rfl, rfl, rfl, fun x d hd => ?_⟩
    · rcases upd_some hd with ⟨rfl, rfl⟩ | ⟨_, hd⟩
      · simp
      · exact G.F.opn _ _ hd
    · by_cases hx : x = e.2
      · exact ⟨_, by show upd _ _ _ _ = _; rw [hx, upd_same]⟩
      · exact ⟨d, by show upd _ _ _ _ = _; rw [upd_ne hx]; exact hd⟩
theorem Good.crashF {σ : Dk} {n : Nat} (G : Good σ n) (l : List Int) : ∀ w, Good (crashF σ l w).2.2 n ∧ (crashF σ l w).2.2.dirs = σ.dirs ∧ (crashF σ l w).2.2.dr = σ.dr ∧ (crashF σ l w).2.2.mp = σ.mp ∧ (∀ x c, σ.fl x = some c → ∃ c', (crashF σ l w).2.2.fl x = some c') ∧ (crashF σ l w).2.1 ≤ w.length := fun w => by
  induction w using snoc_ind with
  | h0 => exact ⟨G, rfl, rfl, rfl, fun x c hc => ⟨c, hc⟩, Nat.le_refl _⟩
  | h1 w e ih =>
    rw [crashF_snoc]
    obtain ⟨g1, g2, g3, g4, g5⟩ := ih.1.cstep l e
    refine ⟨g1, g2.trans ih.2.1, g3.trans ih.2.2.1, g4.trans ih.2.2.2.1, fun x c hc => ?_, ?_⟩
    · obtain ⟨c', hc'⟩ := ih.2.2.2.2.1 x c hc
      exact g5 x c' hc'
    · rw [List.length_append]
      have := ih.2.2.2.2.2
      rcases cstep_cases l (YtdeihieblljfcaaGreat.crashF σ l w) e with h | ⟨c, h1, h2, h3, h⟩ <;> rw [h] <;> simp <;> omega
theorem Good.crash {σ : Dk} {n : Nat} (G : Good σ n) (keeps names : List Int) : Good (crashR σ keeps names) n := by
  have g := ((G.crashD names (keysOf σ.dirs)).1.crashF keeps (walkL (YtdeihieblljfcaaGreat.crashD σ names (keysOf σ.dirs)).2)).1
  refine ⟨⟨g.W.dirs, g.W.maps, g.W.files, g.W.names, g.W.names', g.W.most, g.W.most'⟩, ⟨?_, ?_, g.F.was, g.F.opn⟩, g.Z⟩
  · show (-9223372036854775808 : Int) ≤ 0 ∧ (0 : Int) ≤ 9223372036854775807 ∧ (0 : Int) ≤ 0 ∧ (0 : Int) ≤ (n : Int); omega
  · show (-9223372036854775808 : Int) ≤ 0 ∧ (0 : Int) ≤ 9223372036854775807 ∧ (0 : Int) ≤ 0 ∧ (0 : Int) ≤ (n : Int); omega

end Go.V.YtdeihieblljfcaaGreat
/-! A crash, walked. -/
namespace Go.V.YtdeihieblljfcaaGreat
open Go Go.V

theorem wrap_suc {u : Int} (h1 : 0 < u) (h2 : u ≤ 9223372036854775807) : IntKind.wrap .i64 (u + 1) ≠ 0 := by
  rw [IntKind.wrap_i64]; omega
theorem cutN_eq (t : Nat) (u : Int) : Int.tmod (t : Int) (IntKind.wrap .i64 (u + 1)) = ((cutN t u : Nat) : Int) := by
  unfold cutN
  rw [Int.toNat_of_nonneg (Int.tmod_nonneg _ (by omega))]
theorem cutN_lt (t : Nat) {u : Int} (h1 : 0 < u) (h2 : u ≤ 9223372036854775807) : cutN t u ≤ 9223372036854775807 := by
  have h0 := wrap_suc h1 h2
  have hr := wrap_rng (u + 1)
  have he := cutN_eq t u
  have hn := congrArg Int.natAbs he
  rw [Int.natAbs_tmod] at hn
  have hl := Nat.mod_lt (t : Int).natAbs (y := (IntKind.wrap .i64 (u + 1)).natAbs) (by omega)
  omega

theorem c13 {h : Heap} {lab : Labs} {f D : Nat} {σ : Dk} (X : DW h lab f D σ) {n : Nat} (G : Good σ n) (hn : n ≤ 4398046511104) {sk sc : Slc} {keeps names : List Int} (Ak : Arr 1 iF h sk keeps) (Ac : Arr 1 iF h sc names)
    (hk : ∀ b off, sk.a = some (b, off) → lab b = none ∧ b < h.size) (hc : ∀ b off, sc.a = some (b, off) → lab b = none ∧ b < h.size) (hkl : keeps.length ≤ 4611686018427387904) (hcl : names.length ≤ 4611686018427387904) {R : Heap → Prop}
    (k : ∀ h' lab', DW h' lab' f D (crashR σ keeps names) → Stp lab h lab' h' → R h') :
    Call Go.Proofs.Tryz.prog 13 [.lf (.ptr (some (f, 0))), .lf (.slc sk), .lf (.slc sc)] h [] R := by
  refine ok13 (c49 Ak fun k0 k2 h1 hk0 hk2 hs1 e1 T1 => c49 (Ac.ext0 e1) fun n0 n2 h3 hn0 hn2 hs3 e3 T3 => New.mk fun b4 h5 hb4 hs5 e5 k5 => StC.one k5 (by simp) fun h6 hs6 k6 e6 => ?_)
  have e36 : Ext0 h3 h6 := e5.tmp e6 (by omega)
  have e06 : Ext0 h h6 := (e1.trans e3).trans e36
  have Tk6 : Turn h6 k0 k2 sk keeps 0 := ((T1.ext e3 id id fun _ _ _ => id).ext e36 id id fun _ _ _ => id)
  have Tn6 : Turn h6 n0 n2 sc names 0 := T3.ext e36 id id fun _ _ _ => id
  have k6' : Blk h6 b4 103 [.raw (turnC k0 k2)] := by simpa using k6
  have X6 := X.ext0 e06
  refine c50 X6.R X6.W fun s7 h8 o8 f8 => ?_
  have X8 := X6.ext0 f8.ext
  have hdlen : (keysOf σ.dirs).length ≤ 64 := by rw [keysOf_len]; exact X.W.most
  have z8 := f8.ext.size
  -- The labels of the new blocks.
  have nl : ∀ i, h.size ≤ i → lab i = none := fun i hi => X.R.free hi
  have hdl := o8.len
  refine ⟨fun i hh d => ∃ m : Nat, i = (m : Int) ∧ m ≤ (keysOf σ.dirs).length ∧ DW hh lab f D (crashD σ names ((keysOf σ.dirs).take m)).2 ∧ Ext (fun i => (lab i ≠ none ∧ lab i ≠ some .dat) ∨ i = n2) h8 hh ∧ Turn hh n0 n2 sc names (crashD σ names ((keysOf σ.dirs).take m)).1 ∧ d = (keysOf σ.dirs).length - m,
    ⟨_, 0, rfl, Nat.zero_le _, X8, Ext.refl _ _, Tn6.ext f8.ext id id fun _ _ _ => id, rfl⟩, ?_⟩
  rintro i h12 d ⟨m, rfl, hm, X12, e12, T12, rfl⟩
  have keep : ∀ b, b < h8.size → lab b = none → b ≠ n2 → ¬ ((lab b ≠ none ∧ lab b ≠ some .dat) ∨ b = n2) := fun b _ h1 h2 h3 => h3.elim (fun w => w.1 h1) h2
  have o12 : Own 1 sF h12 s7 (keysOf σ.dirs) := o8.ext e12 fun ⟨b, off, hb, hz⟩ => by
    have h1 := f8.new _ _ hb
    exact keep b (o8.lt _ _ hb).1 (nl b (by omega)) (by omega) hz
  have g12 := G.crashD names ((keysOf σ.dirs).take m)
  refine Br.dec (fun hlt => ?_) fun hge => ?_
  · have hlt' : m < (keysOf σ.dirs).length := by omega
    obtain ⟨nm, hnm⟩ : ∃ nm, (keysOf σ.dirs)[m]? = some nm := ⟨_, List.getElem?_eq_getElem hlt'⟩
    have htk : (keysOf σ.dirs).take (m + 1) = (keysOf σ.dirs).take m ++ [nm] := by rw [List.take_add_one, hnm]; rfl
    have hsn : crashD σ names ((keysOf σ.dirs).take (m + 1)) = dstep names (crashD σ names ((keysOf σ.dirs).take m)) nm := by rw [htk, crashD_snoc]
    have ht1 := g12.2.2.2
    rw [List.length_take] at ht1
    obtain ⟨b, hb⟩ := look_isSome (keysOf_mem.1 (List.mem_of_getElem? hnm))
    rw [← g12.2.1] at hb
    obtain ⟨dd, hdd⟩ := X12.W.dirs _ (look_mem hb)
    simp only at hdd
    generalize hσ : crashD σ names ((keysOf σ.dirs).take m) = a at *
    obtain ⟨t, τ⟩ := a
    simp only at X12 T12 hb hdd ht1 g12
    obtain ⟨s, B, O, hl⟩ := (X12.R.dirs b dd hdd).1.ex
    have lb := (X12.R.dirs b dd hdd).2
    have hOl := O.len
    have hwas := g12.1.F.was _ _ hdd
    have next : ∀ hh, DW hh lab f D (dstep names (t, τ) nm).2 → Ext (fun i => (lab i ≠ none ∧ lab i ≠ some .dat) ∨ i = n2) h8 hh → Turn hh n0 n2 sc names (dstep names (t, τ) nm).1 →
        ∃ b25, b25 < (keysOf σ.dirs).length - m ∧ ∃ m' : Nat, IntKind.wrap .i64 ((m : Int) + 1) = (m' : Int) ∧ m' ≤ (keysOf σ.dirs).length ∧ DW hh lab f D (crashD σ names ((keysOf σ.dirs).take m')).2 ∧ Ext (fun i => (lab i ≠ none ∧ lab i ≠ some .dat) ∨ i = n2) h8 hh ∧ Turn hh n0 n2 sc names (crashD σ names ((keysOf σ.dirs).take m')).1 ∧ b25 = (keysOf σ.dirs).length - m' := fun hh a1 a2 a3 =>
      ⟨(keysOf σ.dirs).length - (m + 1), by omega, m + 1, by rw [wi64 (by omega) (by omega)]; rfl, by omega, by rw [hsn]; exact a1, a2, by rw [hsn]; exact a3, rfl⟩
    refine (o12.arr sF_sized).ix rfl (x := nm) hnm fun b14 b15 hcell => ⟨_, hcell, NilC.mk rfl ⟨_, X12.R.blk.cell rfl, _, _, MapN.look X12.R.dm _, ?_⟩⟩
    rw [hb]
    have hds : dstep names (t, τ) nm = if dd.was = [] then (t, τ) else (t + 1, { τ with dr := upd τ.dr b ⟨(dd.was[turnV names t % (dd.was.length + 1)]?).getD dd.now, []⟩ }) := by
      unfold dstep; simp only [hb, hdd, Option.bind_some, Option.map_some]
    refine NilC.mk rfl ⟨s, B.cell rfl, Br.eq (fun h0 => ?_) fun h0 => NilC.mk rfl ⟨s, B.cell rfl, ?_⟩⟩
    · have hw : dd.was = [] := List.length_eq_zero_iff.1 (by omega)
      rw [hds, if_pos hw] at next
      exact next h12 X12 e12 T12
    have hw : dd.was ≠ [] := fun e => h0 (by rw [hOl, e]; rfl)
    rw [hds, if_neg hw] at next
    refine v58 T12 (by omega) (fun y off hy z => by have := (hc _ _ hy).2; omega) (by omega) hcl fun h30 hs30 e30 T30 => ?_
    have hbn2 : b ≠ n2 := fun z => by rw [z, nl n2 (by omega)] at lb; cases lb
    have R30 := X12.R.ext e30 fun i hi => by rw [show i = n2 from hi]; exact nl n2 (by omega)
    have B30 : Blk h30 b 116 [.map (some dd.now), .slc s] := B.ext e30 hbn2
    have O30 : Own 1 wF h30 s dd.was := O.ext e30 fun ⟨y, off, hy, hz⟩ => by
      have := hl _ _ hy
      rw [show y = n2 from hz, nl n2 (by omega)] at this; cases this
    have E30 : Ext (fun i => (lab i ≠ none ∧ lab i ≠ some .dat) ∨ i = n2) h8 h30 := e12.trans (e30.mono fun i hi => .inr hi)
    have X30 : DW h30 lab f D τ := ⟨R30, X12.W, X12.M.ext e30 (by omega), X12.l0⟩
    have hmod : Int.tmod (turnV names t : Int) (IntKind.wrap .i64 ((s.len : Int) + 1)) = ((turnV names t % (dd.was.length + 1) : Nat) : Int) := by
      rw [wi64 (n := (s.len : Int) + 1) (by omega) (by omega), hOl]; rfl
    refine ⟨B30.cell rfl, fun z => ?_, NilC.mk rfl ⟨s, B30.cell rfl, ?_⟩⟩
    · rw [wi64 (by omega) (by omega)] at z; omega
    rw [hmod]
    have hmlt : turnV names t % (dd.was.length + 1) < dd.was.length + 1 := Nat.mod_lt _ (by omega)
    have g' := (g12.1.dstep (a := (t, τ)) names nm).1
    rw [hds, if_neg hw] at g'
    simp only at g'
    refine Br.dec (fun hin => NilC.mk rfl ⟨s, B30.cell rfl, ?_⟩) fun hout => NilC.mk rfl ?_
    · have hin' : turnV names t % (dd.was.length + 1) < dd.was.length := by omega
      have hget : (dd.was[turnV names t % (dd.was.length + 1)]?).getD dd.now = dd.was[turnV names t % (dd.was.length + 1)] := by rw [List.getElem?_eq_getElem hin']; rfl
      refine (O30.arr wF_sized).ix rfl (x := dd.was[turnV names t % (dd.was.length + 1)]) (List.getElem?_eq_getElem hin') fun b37 b38 hcell2 => ⟨_, hcell2, NilC.mk rfl (StC.one B30 (by simp) fun h42 hs42 k42 e42 => NilC.mk rfl (StC.one k42 (by simp) fun h45 hs45 k45 e45 => ?_))⟩
      have E : Ext (fun i => i = b) h30 h45 := e42.trans e45
      have Rn := R30.setD (b0 := b) (d0 := ⟨(dd.was[turnV names t % (dd.was.length + 1)]?).getD dd.now, []⟩) lb (E.mono fun i hi => .inl hi) ⟨_, by rw [hget]; simpa using k45, Own.nil 1 wF h45, fun y off hy => by cases hy⟩
      refine next h45 (X30.go (Stp.of E fun i _ hi => by rw [show i = b from hi, lb]; simp) Rn g'.W) (E30.trans (E.mono fun i hi => .inl (by rw [show i = b from hi, lb]; simp))) (T30.ext E (fun z => ?_) (fun z => hbn2 z.symm) fun y off hy z => ?_)
      · rw [← show n0 = b from z, nl n0 (by omega)] at lb; cases lb
      · have := (hc _ _ hy).1; rw [show y = b from z, lb] at this; cases this
    · have hget : (dd.was[turnV names t % (dd.was.length + 1)]?).getD dd.now = dd.now := by rw [List.getElem?_eq_none (by omega)]; rfl
      refine StC.one B30 (by simp) fun h45 hs45 k45 E => ?_
      have Rn := R30.setD (b0 := b) (d0 := ⟨(dd.was[turnV names t % (dd.was.length + 1)]?).getD dd.now, []⟩) lb (E.mono fun i hi => .inl hi) ⟨_, by rw [hget]; simpa using k45, Own.nil 1 wF h45, fun y off hy => by cases hy⟩
      refine next h45 (X30.go (Stp.of E fun i _ hi => by rw [show i = b from hi, lb]; simp) Rn g'.W) (E30.trans (E.mono fun i hi => .inl (by rw [show i = b from hi, lb]; simp))) (T30.ext E (fun z => ?_) (fun z => hbn2 z.symm) fun y off hy z => ?_)
      · rw [← show n0 = b from z, nl n0 (by omega)] at lb; cases lb
      · have := (hc _ _ hy).1; rw [show y = b from z, lb] at this; cases this
  · have hm' : m = (keysOf σ.dirs).length := by omega
    subst hm'
    rw [List.take_length] at X12 T12 g12
    unfold crashR at k
    generalize hτ : crashD σ names (keysOf σ.dirs) = a at *
    obtain ⟨t, τ⟩ := a
    simp only at X12 T12 g12 k
    have G12 := g12.1
    have nk2 : ¬ ((lab k2 ≠ none ∧ lab k2 ≠ some .dat) ∨ k2 = n2) := fun z => z.elim (fun w => w.1 (nl k2 (by omega))) (by omega)
    have nk0 : ¬ ((lab k0 ≠ none ∧ lab k0 ≠ some .dat) ∨ k0 = n2) := fun z => z.elim (fun w => w.1 (nl k0 (by omega))) (by omega)
    have nb4 : ¬ ((lab b4 ≠ none ∧ lab b4 ≠ some .dat) ∨ b4 = n2) := fun z => z.elim (fun w => w.1 (nl b4 (by omega))) (by omega)
    have Tk12 : Turn h12 k0 k2 sk keeps 0 := (Tk6.ext f8.ext id id fun _ _ _ => id).ext e12 nk0 nk2 fun b off hb z => z.elim (fun w => w.1 (hk _ _ hb).1) fun w => by have := (hk _ _ hb).2; omega
    have kb12 : Blk h12 b4 103 [.raw (turnC k0 k2)] := (k6'.ext f8.ext).ext e12 nb4
    have st8 : Stp lab h lab h8 := (Stp.of0 e06).trans (Stp.of0 f8.ext)
    have st12 : Stp lab h lab h12 := ⟨Nat.le_trans st8.size e12.size, fun b hb hl => (e12.same b (Nat.lt_of_lt_of_le hb st8.size) fun z => z.elim (fun w => hl.elim w.1 w.2) fun w => by omega).trans (st8.same b hb hl), fun _ _ => rfl⟩
    refine c45 X12 (J := fun pre hh Gs => ∃ lab', Gs = (fun i => lab' i = some .file ∨ lab' i = some .dat ∨ (∃ x, lab' i = some (.opn x)) ∨ i = k2) ∧ DW hh lab' f D (crashF τ keeps pre).2.2 ∧ Turn hh k0 k2 sk keeps (crashF τ keeps pre).2.1 ∧ Blk hh b4 103 [.raw (turnC k0 k2)] ∧
        Stp lab h lab' hh ∧ (∀ i, lab i = none → lab' i = none ∨ lab' i = some .dat) ∧ (∀ i, i < h12.size → lab' i = lab i) ∧ h12.size ≤ hh.size)
      (G0 := fun i => lab i = some .file ∨ lab i = some .dat ∨ (∃ x, lab i = some (.opn x)) ∨ i = k2) ?_ ⟨lab, rfl, X12, Tk12, kb12, st12, fun i hi => .inl hi, fun i hi => rfl, Nat.le_refl _⟩ ?_ ?_ ?_ ?_
    · have z12 := e12.size
      rintro i (hi | hi | ⟨x, hi⟩ | hi)
      · exact ⟨X12.R.lt i (by rw [hi]; simp), by rw [hi]; simp, by rw [hi]; simp, by rw [hi]; simp, by rw [hi]; simp⟩
      · exact ⟨X12.R.lt i (by rw [hi]; simp), by rw [hi]; simp, by rw [hi]; simp, by rw [hi]; simp, by rw [hi]; simp⟩
      · exact ⟨X12.R.lt i (by rw [hi]; simp), by rw [hi]; simp, by rw [hi]; simp, by rw [hi]; simp, by rw [hi]; simp⟩
      · subst hi
        exact ⟨Tk12.k2.choose_spec.1.lt, by rw [nl _ (by omega)]; simp, by rw [nl _ (by omega)]; simp, by rw [nl _ (by omega)]; simp, by rw [nl _ (by omega)]; simp⟩
    · rintro pre h1 h2 Gs S ⟨lab', rfl, X', T', kb', st', hn', hle', hz'⟩ e hS
      have z12 := e12.size
      have hSl : ∀ i, S i → lab' i = none := fun i hi => by
        have := hS i hi
        rcases hn' i (nl i (by omega)) with w | w
        · exact w
        · exact absurd (.inr (.inl w)) this.1
      refine ⟨lab', rfl, ⟨X'.R.ext e hSl, X'.W, X'.M.ext e fun w => by have := (hS 0 w).2; have := X.M.lt; omega, X'.l0⟩, T'.ext e (fun w => by have := (hS _ w).2; omega) (fun w => by have := (hS _ w).2; omega) (fun b off hb w => by have := (hS _ w).2; have := (hk _ _ hb).2; omega),
        kb'.ext e (fun w => by have := (hS _ w).2; omega), ⟨Nat.le_trans st'.size e.size, fun b hb hl => (e.same b (Nat.lt_of_lt_of_le hb st'.size) fun w => by have := (hS _ w).2; omega).trans (st'.same b hb hl), st'.lab⟩, hn', hle', Nat.le_trans hz' e.size⟩
    · rintro pre h1 Gs ⟨lab', rfl, X', T', kb', st', hn', hle', hz'⟩ x c hxc
      obtain ⟨c', hc'⟩ := (G12.crashF keeps pre).2.2.2.2.1 x c hxc
      exact filePlain X'.R hc'
    · rintro pre path x rest h1 Gs hw ⟨c0, hc0⟩ ⟨lab', rfl, X', T', kb', st', hn', hle', hz'⟩ _ K kk
      have z12 := e12.size
      have gp := G12.crashF keeps pre
      obtain ⟨c, hcx⟩ := gp.2.2.2.2.1 x c0 hc0
      have hsn := crashF_snoc τ keeps pre (path, x)
      have hseen := crashF_seen τ keeps pre
      have ht1 := gp.2.2.2.2.2
      have hplen : pre.length ≤ 65536 := by
        have h1 := walkL_len G12.W
        rw [hw, List.length_append] at h1; omega
      generalize ha : crashF τ keeps pre = a at *
      obtain ⟨sn, t2, τ2⟩ := a
      simp only at X' T' gp hcx hseen ht1
      have hcs : (cstep keeps (sn, t2, τ2) (path, x)).2 = if x ∉ pre.map (·.2) ∧ 0 < unsW c.opn then (t2 + 1, { τ2 with fl := upd τ2.fl x ⟨keptL (cutN (turnV keeps t2) (unsW c.opn)) c.fast c.opn, [], keptL (cutN (turnV keeps t2) (unsW c.opn)) c.fast c.opn⟩ }) else (t2, τ2) := by
        unfold cstep; simp only [hcx, hseen]
      have hu := wrap_rng (uns c.opn : Int)
      have hopl := gp.1.F.opn _ _ hcx
      have lx := (X'.R.fls x c hcx).2
      have nl' : ∀ i, h.size ≤ i → i < h12.size → lab' i = none ∨ lab' i = some .dat := fun i hi _ => hn' i (nl i hi)
      refine .inl ⟨51, [], [.lf (.ptr (some (b4, 0)))], _, _, rfl, Go.Proofs.Tryz.func51, rfl, ok51 (c48 X'.R hcx (by omega) fun h2 e2 => ?_)⟩
      have X2 := X'.ext0 e2
      have T2 := T'.ext e2 id id fun _ _ _ => id
      have kb2 := kb'.ext e2
      have st2 : Stp lab h lab' h2 := st'.trans (Stp.of0 e2)
      have same : ¬ (x ∉ pre.map (·.2) ∧ 0 < unsW c.opn) → K h2 := fun hno => by
        rw [if_neg hno] at hcs
        refine kk h2 _ ⟨lab', rfl, ?_, ?_, kb2, st2, hn', hle', Nat.le_trans hz' e2.size⟩ e2.of0 fun i hi => ⟨.inl hi, ?_⟩
        · rw [hsn, hcs]; exact X2
        · rw [hsn, hcs]; exact T2
        · rcases hi with hi | hi | ⟨y, hi⟩ | hi
          · exact X2.R.lt i (by rw [hi]; simp)
          · exact X2.R.lt i (by rw [hi]; simp)
          · exact X2.R.lt i (by rw [hi]; simp)
          · rw [hi]; exact T2.k2.choose_spec.1.lt
      refine Br.mk (fun hf => ?_) fun hf => same fun w => ?_
      rotate_left 1
      · simp at hf; obtain ⟨y, hy⟩ := hf; exact w.1 (List.mem_map.2 ⟨_, hy, rfl⟩)
      have hns : x ∉ pre.map (·.2) := by simpa using hf
      refine Br.dec (fun hpos => ⟨_, kb2.cell rfl, ?_⟩) fun hneg => same fun w => by have : unsW c.opn = IntKind.wrap .i64 (uns c.opn : Int) := rfl; omega
      have hyes : x ∉ pre.map (·.2) ∧ 0 < unsW c.opn := ⟨hns, by have : unsW c.opn = IntKind.wrap .i64 (uns c.opn : Int) := rfl; omega⟩
      rw [if_pos hyes] at hcs
      have lk2 : lab' k2 = none := (hle' k2 (by omega)).trans (nl k2 (by omega))
      have lk0 : lab' k0 = none := (hle' k0 (by omega)).trans (nl k0 (by omega))
      have lb4 : lab' b4 = none := (hle' b4 (by omega)).trans (nl b4 (by omega))
      have nex : ∀ {i : Nat}, lab' i = none → i ≠ x := fun hi z => by rw [z, lx] at hi; cases hi
      have hz2 := st2.size
      refine v58 T2 (by omega) (fun y off hy z => by have := (hk _ _ hy).2; omega) (by omega) hkl fun h4 hs4 e4 T4 => ?_
      have X4 : DW h4 lab' f D τ2 := ⟨X2.R.ext e4 fun i hi => by rw [show i = k2 from hi]; exact lk2, X2.W, X2.M.ext e4 (by omega), X2.l0⟩
      have st4 : Stp lab h lab' h4 := ⟨Nat.le_trans st2.size e4.size, fun b hb hl => (e4.same b (by omega) fun z => by have : b = k2 := z; omega).trans (st2.same b hb hl), st2.lab⟩
      have hmod := cutN_eq (turnV keeps t2) (unsW c.opn)
      have hmlt := cutN_lt (turnV keeps t2) hyes.2 hu.2
      refine ⟨fun z => wrap_suc hyes.2 hu.2 z, ?_⟩
      rw [hmod]
      refine c52 X4.R hcx (gp.1.Z _ _ hcx) (by omega) (by omega) fun h5 lab5 F5 R5 st5 hle5 hnew5 e5 => ?_
      have gn := (gp.1.cstep (a := (sn, t2, τ2)) keeps (path, x)).1
      rw [hcs] at gn
      have zz := e2.size
      have zz4 := e4.size
      refine kk h5 _ ⟨lab5, rfl, ?_, ?_, ?_, st4.trans st5, fun i hi => ?_, fun i hi => ?_, ?_⟩ (e2.of0.trans ((e4.mono fun i hi => .inr (.inr (.inr hi))).trans (e5.mono fun i hi => .inl (by rw [show i = x from hi]; exact lx)))) fun i hi => ⟨?_, ?_⟩
      · rw [hsn, hcs]; exact X4.go st5 R5 gn.W
      · rw [hsn, hcs]; exact T4.ext e5 (nex lk0) (nex lk2) fun b off hb => nex ((hle' b (by have := (hk _ _ hb).2; have := st12.size; omega)).trans (hk _ _ hb).1)
      · exact (kb2.ext e4 (by omega)).ext e5 (nex lb4)
      · rcases hn' i hi with w | w
        · exact hnew5 i w
        · exact .inr (hle5 _ _ w)
      · rw [st5.lab i (by omega)]; exact hle' i hi
      · have := e5.size; omega
      · by_cases hlt : i < h1.size
        · left
          have := st5.lab i (by omega)
          rw [this] at hi
          exact hi
        · exact .inr (by omega)
      · rcases hi with hi | hi | ⟨y, hi⟩ | hi
        · exact R5.lt i (by rw [hi]; simp)
        · exact R5.lt i (by rw [hi]; simp)
        · exact R5.lt i (by rw [hi]; simp)
        · have := T4.k2.choose_spec.1.lt; have := e5.size; omega
    · rintro h51 Gs ⟨lab', rfl, X', T', kb', st', hn', hle', hz'⟩ _
      have gp := G12.crashF keeps (walkL τ)
      generalize crashF τ keeps (walkL τ) = a at *
      obtain ⟨sn, t2, τ2⟩ := a
      simp only at X' gp
      refine NilC.mk rfl (StC.many X'.R.blk (by simp) fun h54 hs54 k54 e54 => NilC.mk rfl (StC.many k54 (by simp) fun h57 hs57 k57 e57 => ?_))
      have E : Ext (fun i => i = f) h51 h57 := e54.trans e57
      have Rn := X'.R.setF (a := ⟨0, 0, 0⟩) (b := ⟨0, 0, 0⟩) E (by simpa using k57)
      have st : Stp lab' h51 lab' h57 := Stp.of E fun i _ hi => by rw [show i = f from hi, X'.R.lf]; simp
      exact k h57 lab' (X'.go st Rn ⟨gp.1.W.dirs, gp.1.W.maps, gp.1.W.files, gp.1.W.names, gp.1.W.names', gp.1.W.most, gp.1.W.most'⟩) (st'.trans st)

end Go.V.YtdeihieblljfcaaGreat
