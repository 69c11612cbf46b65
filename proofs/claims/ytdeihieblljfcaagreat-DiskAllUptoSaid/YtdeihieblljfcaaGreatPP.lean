/- This text proves a part of the laws of seat YtdeihieblljfcaaGreat, under no condition: F2q F2r F2s. -/
import Derived.Test.YtdeihieblljfcaaGreatPO
set_option linter.unusedVariables false
set_option linter.unusedSimpArgs false
/-! Names change: Mkdir, Create, Link, Remove, Rename. -/
namespace Go.V.YtdeihieblljfcaaGreat
open Go Go.V

structure DW (h : Heap) (lab : Labs) (f D : Nat) (σ : Dk) : Prop where
  R : DR h lab f D σ
  W : Wf σ
  M : MaxL h
  l0 : lab 0 = none
theorem MaxL.lt {h : Heap} (M : MaxL h) : 0 < h.size := let ⟨_, _, _, _, hb, _⟩ := M; size_pos_of_getElem? hb
theorem MaxL.ext {S : Nat → Prop} {h h' : Heap} (M : MaxL h) (e : Ext S h h') (h0 : ¬ S 0) : MaxL h' := by
  obtain ⟨c, t, fz, m, hb, hc⟩ := M
  exact ⟨c, t, fz, m, (e.same 0 (size_pos_of_getElem? hb) h0).trans hb, hc⟩
theorem DW.ext0 {h h' : Heap} {lab : Labs} {f D : Nat} {σ : Dk} (X : DW h lab f D σ) (e : Ext0 h h') : DW h' lab f D σ := ⟨X.R.ext0 e, X.W, X.M.ext e id, X.l0⟩
theorem DW.go {h h' : Heap} {lab lab' : Labs} {f D : Nat} {σ σ' : Dk} (X : DW h lab f D σ) (s : Stp lab h lab' h') (R' : DR h' lab' f D σ') (W' : Wf σ') : DW h' lab' f D σ' :=
  ⟨R', W', X.M.ext s.ext fun hn => hn X.l0, (s.lab 0 X.M.lt).trans X.l0⟩
theorem DR.free {h : Heap} {lab : Labs} {f D : Nat} {σ : Dk} (R : DR h lab f D σ) {b : Nat} (hb : h.size ≤ b) : lab b = none := Classical.byContradiction fun w => by have := R.lt b w; omega
theorem DR.free_mp {h : Heap} {lab : Labs} {f D : Nat} {σ : Dk} (R : DR h lab f D σ) {b : Nat} (hb : h.size ≤ b) : σ.mp b = none := by
  cases hm : σ.mp b with
  | none => rfl
  | some m => have := (R.mps b m hm).2; rw [R.free hb] at this; cases this
theorem DR.free_fl {h : Heap} {lab : Labs} {f D : Nat} {σ : Dk} (R : DR h lab f D σ) {b : Nat} (hb : h.size ≤ b) : σ.fl b = none := by
  cases hm : σ.fl b with
  | none => rfl
  | some m => have := (R.fls b m hm).2; rw [R.free hb] at this; cases this
theorem DR.free_dr {h : Heap} {lab : Labs} {f D : Nat} {σ : Dk} (R : DR h lab f D σ) {b : Nat} (hb : h.size ≤ b) : σ.dr b = none := by
  cases hm : σ.dr b with
  | none => rfl
  | some m => have := (R.dirs b m hm).2; rw [R.free hb] at this; cases this

def Dk.at (σ : Dk) (d : Nat) : Option (Dr × List (Tx × Nat)) := (σ.dr d).bind fun dd => (σ.mp dd.now).map fun m => (dd, m)
theorem Dk.at_some {σ : Dk} {d : Nat} {dd : Dr} {m : List (Tx × Nat)} : σ.at d = some (dd, m) ↔ σ.dr d = some dd ∧ σ.mp dd.now = some m := by
  unfold Dk.at
  cases hd : σ.dr d with
  | none => simp
  | some d' =>
    cases hm : σ.mp d'.now with
    | none =>
      simp only [Option.bind_some, hm, Option.map_none, Option.some.injEq]
      constructor
      · rintro x; cases x
      · rintro ⟨rfl, x⟩; rw [hm] at x; cases x
    | some m' =>
      simp only [Option.bind_some, hm, Option.map_some, Option.some.injEq, Prod.mk.injEq]
      constructor
      · rintro ⟨rfl, rfl⟩; exact ⟨rfl, hm⟩
      · rintro ⟨rfl, x⟩; rw [hm] at x; cases x; exact ⟨rfl, rfl⟩
def Dk.chg (σ : Dk) (b : Nat) (dd : Dr) (r : Nat) (m : List (Tx × Nat)) : Dk := { σ with mp := upd σ.mp r m, dr := upd σ.dr b ⟨r, dd.was ++ [dd.now]⟩ }
theorem upd_upd {α : Type} (f : Nat → Option α) (b : Nat) (x y : α) : upd (upd f b x) b y = upd f b y := by
  funext i; unfold upd; split <;> rfl

theorem delN_len (n : Tx) : ∀ m : List (Tx × Nat), (delN n m).length ≤ m.length
  | [] => Nat.le_refl _
  | p :: r => by
    unfold delN; split
    · simp
    · simp only [List.length_cons]; have := delN_len n r; omega
theorem delN_sub {n : Tx} : ∀ {m : List (Tx × Nat)} {p : Tx × Nat}, p ∈ delN n m → p ∈ m
  | [], _, h => by cases h
  | q :: r, p, h => by
    unfold delN at h
    split at h
    · exact List.mem_cons_of_mem _ h
    · rcases List.mem_cons.1 h with rfl | h
      · exact List.mem_cons_self
      · exact List.mem_cons_of_mem _ (delN_sub h)
theorem putN_len (n : Tx) (b : Nat) : ∀ m : List (Tx × Nat), (putN n b m).length = m.length + if (look n m).isSome then 0 else 1
  | [] => rfl
  | p :: r => by
    unfold putN look
    by_cases h : n = p.1
    · rw [if_pos h, if_pos h]; rfl
    · rw [if_neg h, if_neg h, List.length_cons, putN_len n b r, List.length_cons]; omega
theorem putN_mem {n : Tx} {b : Nat} : ∀ {m : List (Tx × Nat)} {p : Tx × Nat}, p ∈ putN n b m → p = (n, b) ∨ p ∈ m
  | [], _, h => by rcases List.mem_cons.1 h with rfl | h; exact .inl rfl; cases h
  | q :: r, p, h => by
    unfold putN at h
    split at h
    · rcases List.mem_cons.1 h with rfl | h
      · exact .inl rfl
      · exact .inr (List.mem_cons_of_mem _ h)
    · rcases List.mem_cons.1 h with rfl | h
      · exact .inr List.mem_cons_self
      · rcases putN_mem h with x | x
        · exact .inl x
        · exact .inr (List.mem_cons_of_mem _ x)

theorem Wf.chg {σ : Dk} (W : Wf σ) {b r : Nat} {dd : Dr} {m : List (Tx × Nat)} (hd : σ.dr b = some dd) (hr : σ.mp r = none) (hm : ∀ p ∈ m, ∃ c, σ.fl p.2 = some c) (hn : ∀ p ∈ m, okName p.1 = true) (hl : m.length ≤ 1024) : Wf (σ.chg b dd r m) := by
  have sm : ∀ {r' : Nat}, (∃ m', σ.mp r' = some m') → ∃ m', upd σ.mp r m r' = some m' := fun ⟨m', h⟩ => ⟨m', by rw [upd_ne]; exact h; rintro rfl; rw [hr] at h; cases h⟩
  refine ⟨fun p hp => ?_, fun b' d' hd' => ?_, fun r' m' hm' => ?_, W.names, fun r' m' hm' => ?_, W.most, fun r' m' hm' => ?_⟩
  · obtain ⟨d, hd⟩ := W.dirs p hp
    by_cases e : p.2 = b
    · exact ⟨_, by show upd _ _ _ _ = _; rw [e, upd_same]⟩
    · exact ⟨d, by show upd _ _ _ _ = _; rw [upd_ne e]; exact hd⟩
  · rcases upd_some hd' with ⟨rfl, rfl⟩ | ⟨_, hd'⟩
    · refine ⟨⟨m, upd_same _ _ _⟩, fun r' h' => ?_⟩
      rcases List.mem_append.1 h' with h' | h'
      · exact sm ((W.maps _ _ hd).2 r' h')
      · rw [List.mem_singleton.1 h']; exact sm (W.maps _ _ hd).1
    · exact ⟨sm (W.maps _ _ hd').1, fun r' h' => sm ((W.maps _ _ hd').2 r' h')⟩
  · rcases upd_some hm' with ⟨rfl, rfl⟩ | ⟨_, hm'⟩
    · exact hm
    · exact W.files _ _ hm'
  · rcases upd_some hm' with ⟨rfl, rfl⟩ | ⟨_, hm'⟩
    · exact hn
    · exact W.names' _ _ hm'
  · rcases upd_some hm' with ⟨rfl, rfl⟩ | ⟨_, hm'⟩
    · exact hl
    · exact W.most' _ _ hm'
theorem Wf.newF {σ : Dk} (W : Wf σ) (x : Nat) (c : Fl) : Wf { σ with fl := upd σ.fl x c } :=
  ⟨W.dirs, W.maps, fun r m hm p hp => by
    obtain ⟨c', hc⟩ := W.files r m hm p hp
    by_cases e : p.2 = x
    · exact ⟨c, by show upd _ _ _ _ = _; rw [e, upd_same]⟩
    · exact ⟨c', by show upd _ _ _ _ = _; rw [upd_ne e]; exact hc⟩, W.names, W.names', W.most, W.most'⟩
theorem Wf.change {σ : Dk} (W : Wf σ) : Wf σ.change.2.2 := ⟨W.dirs, W.maps, W.files, W.names, W.names', W.most, W.most'⟩

structure Few (σ : Dk) (n : Nat) : Prop where
  fail : -9223372036854775808 ≤ σ.fail.frm ∧ σ.fail.frm ≤ 9223372036854775807 ∧ 0 ≤ σ.fail.seen ∧ σ.fail.seen ≤ n
  stop : -9223372036854775808 ≤ σ.stop.frm ∧ σ.stop.frm ≤ 9223372036854775807 ∧ 0 ≤ σ.stop.seen ∧ σ.stop.seen ≤ n
  was : ∀ b d, σ.dr b = some d → d.was.length ≤ n
  opn : ∀ x c, σ.fl x = some c → c.opn.length ≤ n
theorem Few.okF {σ : Dk} {n : Nat} (F : Few σ n) (hn : n ≤ 4398046511104) : σ.fail.Ok := ⟨F.fail.1, F.fail.2.1, F.fail.2.2.1, by have := F.fail.2.2.2; omega⟩
theorem Few.okS {σ : Dk} {n : Nat} (F : Few σ n) (hn : n ≤ 4398046511104) : σ.stop.Ok := ⟨F.stop.1, F.stop.2.1, F.stop.2.2.1, by have := F.stop.2.2.2; omega⟩
theorem Few.mono {σ : Dk} {n m : Nat} (F : Few σ n) (h : n ≤ m) : Few σ m :=
  ⟨⟨F.fail.1, F.fail.2.1, F.fail.2.2.1, by have := F.fail.2.2.2; omega⟩, ⟨F.stop.1, F.stop.2.1, F.stop.2.2.1, by have := F.stop.2.2.2; omega⟩, fun b d hd => Nat.le_trans (F.was b d hd) h, fun x c hc => Nat.le_trans (F.opn x c hc) h⟩
theorem count_seen (s : Sc) : s.seen ≤ s.count.2.2.seen ∧ s.count.2.2.seen ≤ s.seen + 1 := by unfold Sc.count; split <;> simp <;> omega
theorem Few.change {σ : Dk} {n : Nat} (F : Few σ n) : Few σ.change.2.2 (n + 1) := by
  have a := count_seen σ.fail; have b := count_seen σ.stop
  have a' := count_eta σ.fail; have b' := count_eta σ.stop
  have := F.fail; have := F.stop
  refine ⟨?_, ?_, fun b d hd => Nat.le_succ_of_le (F.was b d hd), fun x c hc => Nat.le_succ_of_le (F.opn x c hc)⟩
  · show _ ≤ σ.fail.count.2.2.frm ∧ σ.fail.count.2.2.frm ≤ _ ∧ 0 ≤ σ.fail.count.2.2.seen ∧ σ.fail.count.2.2.seen ≤ _
    rw [a'.1]; omega
  · show _ ≤ σ.stop.count.2.2.frm ∧ σ.stop.count.2.2.frm ≤ _ ∧ 0 ≤ σ.stop.count.2.2.seen ∧ σ.stop.count.2.2.seen ≤ _
    rw [b'.1]; omega
theorem Few.chg {σ : Dk} {n : Nat} (F : Few σ n) {b r : Nat} {dd : Dr} {m : List (Tx × Nat)} (hd : σ.dr b = some dd) : Few (σ.chg b dd r m) (n + 1) :=
  let F' := F.mono (Nat.le_succ n)
  ⟨F'.fail, F'.stop, fun b' d' hd' => by
    rcases upd_some hd' with ⟨rfl, rfl⟩ | ⟨_, hd'⟩
    · have := F.was _ _ hd; simp; omega
    · exact F'.was _ _ hd', F'.opn⟩

theorem chgC {h : Heap} {lab : Labs} {f D : Nat} {σ : Dk} (X : DW h lab f D σ) {b : Nat} {dd : Dr} {m m' : List (Tx × Nat)} (hd : σ.dr b = some dd) (hm : σ.mp dd.now = some m) (hw : dd.was.length ≤ 4398046511104) {v : Value}
    (hc : ∀ r h1 (K : Heap → Prop), MapN h1 r m → Ext (fun i => lab i ≠ none) h h1 → (∀ h', MapN h' r m' → Ext (fun i => i = r) h1 h' → K h') → CallV Go.Proofs.Tryz.prog v [.lf (.map (some r))] h1 [] K)
    (hf : ∀ p ∈ m', ∃ c, σ.fl p.2 = some c) (hn : ∀ p ∈ m', okName p.1 = true) (hl : m'.length ≤ 1024) {R : Heap → Prop}
    (k : ∀ r h' lab', h.size ≤ r → r < h'.size → DW h' lab' f D (σ.chg b dd r m') → Stp lab h lab' h' → R h') : Call Go.Proofs.Tryz.prog 104 [.lf (.ptr (some (b, 0))), .lf (.raw v)] h [] R := by
  refine c104 X.R hd hm hw fun r h1 lab1 hr R1 s1 l1 => ?_
  have M1 := (R1.mps r m (by show upd _ _ _ _ = _; rw [upd_same])).1
  refine hc r h1 R M1 s1.ext fun h' M' e' => ?_
  have R' := R1.setN l1 e' M'
  have hh : { ({ σ with mp := upd σ.mp r m, dr := upd σ.dr b ⟨r, dd.was ++ [dd.now]⟩ } : Dk) with mp := upd (upd σ.mp r m) r m' } = σ.chg b dd r m' := by unfold Dk.chg; rw [upd_upd]
  rw [hh] at R'
  have s' : Stp lab h lab1 h' := s1.trans (Stp.of e' fun i hi hx => by subst hx; rw [l1]; simp)
  have hrs : r < h1.size := R1.lt r (by rw [l1]; simp)
  exact k r h' lab1 hr (Nat.lt_of_lt_of_le hrs e'.size) (X.go s' R' (X.W.chg hd (X.R.free_mp hr) hf hn hl)) s'

theorem vPut48 {h : Heap} {b0 b1 r x : Nat} {t0 t1 : TypeId} {n : Tx} {m : List (Tx × Nat)} (h0 : Blk h b0 t0 [.ptr (some (x, 0))]) (h1 : Blk h b1 t1 [.str (tx n)]) (M : MapN h r m) {K : Heap → Prop} (k : ∀ h', MapN h' r (putN n x m) → Ext (fun i => i = r) h h' → K h') :
    CallV Go.Proofs.Tryz.prog (.func (.func 146) #[] #[.pointer (some ⟨b0, 0, none⟩), .pointer (some ⟨b1, 0, none⟩)]) [.lf (.map (some r))] h [] K :=
  .inl ⟨146, [], [.lf (.ptr (some (b0, 0))), .lf (.ptr (some (b1, 0)))], _, _, rfl, Go.Proofs.Tryz.func146, rfl, ok146 ⟨_, h1.cell rfl, _, h0.cell rfl, M.put fun h' _ M' e => k h' M' e⟩⟩
theorem vPut39 {h : Heap} {b0 b1 r x : Nat} {t0 t1 : TypeId} {n : Tx} {m : List (Tx × Nat)} (h0 : Blk h b0 t0 [.ptr (some (x, 0))]) (h1 : Blk h b1 t1 [.str (tx n)]) (M : MapN h r m) {K : Heap → Prop} (k : ∀ h', MapN h' r (putN n x m) → Ext (fun i => i = r) h h' → K h') :
    CallV Go.Proofs.Tryz.prog (.func (.func 143) #[] #[.pointer (some ⟨b0, 0, none⟩), .pointer (some ⟨b1, 0, none⟩)]) [.lf (.map (some r))] h [] K :=
  .inl ⟨143, [], [.lf (.ptr (some (b0, 0))), .lf (.ptr (some (b1, 0)))], _, _, rfl, Go.Proofs.Tryz.func143, rfl, ok143 ⟨_, h1.cell rfl, _, h0.cell rfl, M.put fun h' _ M' e => k h' M' e⟩⟩
theorem vDel40 {h : Heap} {b0 r : Nat} {t0 : TypeId} {n : Tx} {m : List (Tx × Nat)} (h0 : Blk h b0 t0 [.str (tx n)]) (M : MapN h r m) {K : Heap → Prop} (k : ∀ h', MapN h' r (delN n m) → Ext (fun i => i = r) h h' → K h') :
    CallV Go.Proofs.Tryz.prog (.func (.func 144) #[] #[.pointer (some ⟨b0, 0, none⟩)]) [.lf (.map (some r))] h [] K :=
  .inl ⟨144, [], [.lf (.ptr (some (b0, 0)))], _, _, rfl, Go.Proofs.Tryz.func144, rfl, ok144 ⟨_, h0.cell rfl, M.del fun h' _ M' e => k h' M' e⟩⟩
theorem vDel50 {h : Heap} {b0 r : Nat} {t0 : TypeId} {n : Tx} {m : List (Tx × Nat)} (h0 : Blk h b0 t0 [.str (tx n)]) (M : MapN h r m) {K : Heap → Prop} (k : ∀ h', MapN h' r (delN n m) → Ext (fun i => i = r) h h' → K h') :
    CallV Go.Proofs.Tryz.prog (.func (.func 147) #[] #[.pointer (some ⟨b0, 0, none⟩)]) [.lf (.map (some r))] h [] K :=
  .inl ⟨147, [], [.lf (.ptr (some (b0, 0)))], _, _, rfl, Go.Proofs.Tryz.func147, rfl, ok147 ⟨_, h0.cell rfl, M.del fun h' _ M' e => k h' M' e⟩⟩
theorem vMove38 {h : Heap} {b0 b1 b2 r x : Nat} {t0 t1 t2 : TypeId} {n n' : Tx} {m : List (Tx × Nat)} (h0 : Blk h b0 t0 [.str (tx n)]) (h1 : Blk h b1 t1 [.ptr (some (x, 0))]) (h2 : Blk h b2 t2 [.str (tx n')]) (hr1 : b1 ≠ r) (hr2 : b2 ≠ r) (M : MapN h r m) {K : Heap → Prop}
    (k : ∀ h', MapN h' r (putN n' x (delN n m)) → Ext (fun i => i = r) h h' → K h') :
    CallV Go.Proofs.Tryz.prog (.func (.func 142) #[] #[.pointer (some ⟨b0, 0, none⟩), .pointer (some ⟨b1, 0, none⟩), .pointer (some ⟨b2, 0, none⟩)]) [.lf (.map (some r))] h [] K :=
  .inl ⟨142, [], [.lf (.ptr (some (b0, 0))), .lf (.ptr (some (b1, 0))), .lf (.ptr (some (b2, 0)))], _, _, rfl, Go.Proofs.Tryz.func142, rfl, ok142 ⟨_, h0.cell rfl, M.del fun h' _ M' e =>
    ⟨_, (h2.ext e hr2).cell rfl, _, (h1.ext e hr1).cell rfl, M'.put fun h'' _ M'' e' => k h'' M'' (e.trans e')⟩⟩⟩

def createR (σ : Dk) (l : Tx) (r x : Nat) : Int × Dk := match pathE σ l with
  | (none, e) => (e, σ)
  | (some (d, n), _) => match σ.at d with
    | none => (6, σ)
    | some (dd, m) =>
      if (look n m).isSome = true then (7, σ) else if 1024 ≤ m.length then (2, σ)
      else if σ.change.1 ≠ 0 then (σ.change.1, σ.change.2.2)
      else (0, { σ.change.2.2.chg d dd r (putN n x m) with fl := upd σ.fl x ⟨[], [], []⟩ })

theorem nilB (h : Heap) (lab : Labs) : Byt h lab ⟨none, 0, 0⟩ [] := ⟨(Own.nil 1 dF h).arr dF_sized, fun b off x => (by cases x), Nat.le_refl _, rfl⟩

theorem c38 {h : Heap} {lab : Labs} {f D : Nat} {σ : Dk} (X : DW h lab f D σ) {n : Nat} (F : Few σ n) (hn : n ≤ 4398046511104) {l : Tx} (hl : l.length < 4294967281) {R : Int → Heap → Prop}
    (k : ∀ r x h' lab', σ.mp r = none → σ.fl x = none → DW h' lab' f D (createR σ l r x).2 → Stp lab h lab' h' → R (createR σ l r x).1 h') :
    Call Go.Proofs.Tryz.prog 38 [.lf (.ptr (some (f, 0))), .lf (.str (tx l))] h [.one (.int .i64)] R := by
  have fr1 := X.R.free_mp (Nat.le_refl h.size)
  have fr2 := X.R.free_fl (Nat.le_refl h.size)
  have stay : ∀ e (h' : Heap), createR σ l h.size h.size = (e, σ) → Ext0 h h' → R e h' := fun e h' hc e0 => by
    have := k h.size h.size h' lab fr1 fr2 (by rw [hc]; exact X.ext0 e0) (Stp.of0 e0)
    rwa [hc] at this
  refine ok38 (c103 X.R X.M hl (fun e h' hp he e0 => New.mk fun b4 h5 hb4 hs5 e5 k5 => StC.one k5 (by simp) fun h6 hs6 k6 e6 => Br.t (by simpa using he) (stay _ h6 ?_ ((e0.trans e5).tmp e6 (by have := e0.size; omega)))) fun d nm h' hp hok e0 => New.mk fun b4 h5 hb4 hs5 e5 k5 => StC.one k5 (by simp) fun h6 hs6 k6 e6 => Br.f rfl (NilC.mk rfl ?_))
  · unfold createR; rw [hp]
  have e06 : Ext0 h h6 := (e0.trans e5).tmp e6 (by have := e0.size; omega)
  obtain ⟨dd, m, hdd, hm⟩ := pathE_dir X.W hp
  have hat : σ.at d = some (dd, m) := Dk.at_some.2 ⟨hdd, hm⟩
  have X6 := X.ext0 e06
  have Bd := (X6.R.dirs d dd hdd).1.cell0
  have Mm := (X6.R.mps _ _ hm).1
  refine ⟨_, Bd, _, k6.cell rfl, _, _, Mm.look nm, Br.mk (fun hx => stay _ h6 ?_ e06) fun hx => NilC.mk rfl ⟨_, Bd, _, Mm.len, Br.dec (fun hge => stay _ h6 ?_ e06) fun hlt => ?_⟩⟩
  · unfold createR; rw [hp]; simp only [hat]; rw [if_pos hx]
  · unfold createR; rw [hp]; simp only [hat]; rw [if_neg (by rw [hx]; simp), if_pos (by omega)]
  have hcr : ∀ r x, createR σ l r x = if σ.change.1 ≠ 0 then (σ.change.1, σ.change.2.2) else (0, { σ.change.2.2.chg d dd r (putN nm x m) with fl := upd σ.fl x ⟨[], [], []⟩ }) := fun r x => by
    unfold createR; rw [hp]; simp only [hat]; rw [if_neg (by rw [hx]; simp), if_neg (by omega)]
  refine c55 X6.R (F.okF hn) (F.okS hn) fun h19 hs19 e19 R19 => ?_
  have st19 : Stp lab h lab h19 := (Stp.of0 e06).trans (Stp.of e19 fun i _ hi => by subst hi; rw [X.R.lf]; simp)
  refine Br.ne (fun he => ?_) fun he => ?_
  · have := k h.size h.size h19 lab fr1 fr2 (by rw [hcr, if_pos he]; exact X.go st19 R19 X.W.change) st19
    rw [hcr, if_pos he] at this; exact this
  have X19 : DW h19 lab f D σ.change.2.2 := X.go st19 R19 X.W.change
  have hsz := e0.size
  have lb4 : lab b4 = none := X.R.free (by omega)
  have hb4f : b4 ≠ f := fun x => by rw [x, X.R.lf] at lb4; cases lb4
  refine c104 X19.R hdd hm (Nat.le_trans (F.was _ _ hdd) hn) fun r h1 lab1 hr R1 s1 l1 => ?_
  have k19 : Blk h19 b4 9 [.str (tx nm)] := k6.ext e19 hb4f
  have k1 := k19.ext s1.ext (fun hx => hx lb4)
  refine .inl ⟨105, [], [.lf (.ptr (some (b4, 0)))], _, _, rfl, Go.Proofs.Tryz.func105, rfl, ok105 ⟨_, k1.cell rfl, New.mk fun x h2 hx2 hs2 e2 kx => ?_⟩⟩
  have R2 := R1.ext0 e2
  refine MapN.put (R2.mps r m (by show upd _ _ _ _ = _; rw [upd_same])).1 fun h3 hs3 M3 e3 => ?_
  have R3 := R2.setN l1 e3 M3
  have hrx : r < h1.size := R1.lt r (by rw [l1]; simp)
  have kx3 : Blk h3 x 102 _ := kx.ext e3 (by omega)
  have hlx : lab1 x = none := R1.free (by omega)
  have R4 := (R3.name (L := .file) hlx kx3.lt).newFile (upd_same _ _ _) (c := ⟨[], [], []⟩) ⟨_, _, _, [], kx3, nilB _ _, Own.nil 2 oF h3, fun y off hy => (by cases hy), rfl, fun o ho => (by cases ho), nilB _ _⟩
  have hh : ({ ({ ({ σ.change.2.2 with mp := upd σ.change.2.2.mp r m, dr := upd σ.change.2.2.dr d ⟨r, dd.was ++ [dd.now]⟩ } : Dk) with mp := upd (upd σ.change.2.2.mp r m) r (putN nm x m) } : Dk) with fl := upd σ.change.2.2.fl x ⟨[], [], []⟩ } : Dk)
      = { σ.change.2.2.chg d dd r (putN nm x m) with fl := upd σ.fl x ⟨[], [], []⟩ } := by unfold Dk.chg; simp only [upd_upd]; rfl
  have R5 : DR h3 (upd lab1 x .file) f D { σ.change.2.2.chg d dd r (putN nm x m) with fl := upd σ.fl x ⟨[], [], []⟩ } := by rw [← hh]; exact R4
  have hs19h := st19.size
  have st : Stp lab h (upd lab1 x .file) h3 := (((st19.trans s1).trans (Stp.of0 e2)).trans (Stp.of e3 fun i _ hi => by subst hi; rw [l1]; simp)).name (by have := s1.size; omega)
  have fr := X.R.free_mp (b := r) (by omega)
  have fx := X.R.free_fl (b := x) (by have := s1.size; omega)
  have W5 : Wf { σ.change.2.2.chg d dd r (putN nm x m) with fl := upd σ.fl x ⟨[], [], []⟩ } := by
    refine Wf.chg (σ := { σ.change.2.2 with fl := upd σ.fl x ⟨[], [], []⟩ }) (X.W.change.newF x ⟨[], [], []⟩) hdd fr (fun p hp => ?_) (fun p hp => ?_) ?_
    · rcases putN_mem hp with rfl | hp
      · exact ⟨_, upd_same _ _ _⟩
      · obtain ⟨c, hc⟩ := X.W.files _ _ hm p hp
        exact ⟨c, by show upd _ _ _ _ = _; rw [upd_ne]; exact hc; intro e; rw [e, fx] at hc; cases hc⟩
    · rcases putN_mem hp with rfl | hp
      · exact hok
      · exact X.W.names' _ _ hm p hp
    · rw [putN_len]; split <;> omega
  have := k r x h3 (upd lab1 x .file) fr fx (by rw [hcr, if_neg (fun y => y he)]; exact X.go st R5 W5) st
  rw [hcr, if_neg (fun y => y he)] at this; exact this

end Go.V.YtdeihieblljfcaaGreat
/-! Link, Remove, Rename, Mkdir. -/
namespace Go.V.YtdeihieblljfcaaGreat
open Go Go.V

def twoE (σ : Dk) (l l' : Tx) : Option (Nat × Tx × Nat × Tx × Nat) × Int := match pathE σ l with
  | (none, e) => (none, e)
  | (some (a, x), _) => match pathE σ l' with
    | (none, e) => (none, e)
    | (some (b, y), _) => match σ.at a with
      | none => (none, 6)
      | some (_, m) => match look x m with
        | none => (none, 6)
        | some it => (some (a, x, b, y, it), 0)

theorem c141 {h : Heap} {lab : Labs} {f D : Nat} {σ : Dk} (X : DW h lab f D σ) {l l' : Tx} (hl : l.length < 4294967281) (hl' : l'.length < 4294967281) {R : Option (Nat × Nat) → Option (Nat × Nat) → ByteArray → ByteArray → Option (Nat × Nat) → Int → Heap → Prop}
    (k1 : ∀ p q t t' w e h', twoE σ l l' = (none, e) → e ≠ 0 → Ext0 h h' → R p q t t' w e h')
    (k2 : ∀ a x b y it h', twoE σ l l' = (some (a, x, b, y, it), 0) → okName x = true → okName y = true → (∃ d m, σ.dr a = some d ∧ σ.mp d.now = some m ∧ look x m = some it) → (∃ d m, σ.dr b = some d ∧ σ.mp d.now = some m) → Ext0 h h' → R (some (a, 0)) (some (b, 0)) (tx x) (tx y) (some (it, 0)) 0 h') :
    Call Go.Proofs.Tryz.prog 141 [.lf (.ptr (some (f, 0))), .lf (.str (tx l)), .lf (.str (tx l'))] h [.one .ptr, .one .ptr, .one .str, .one .str, .one .ptr, .one (.int .i64)] R := by
  refine ok141 (c103 X.R X.M hl (fun e h' hp he e0 => Br.t (by simpa using he) (k1 _ _ _ _ _ e h' (by unfold twoE; rw [hp]) he e0)) fun a x h' hp hx e0 => Br.f rfl ?_)
  have X1 := X.ext0 e0
  refine c103 X1.R X1.M hl' (fun e h2 hp2 he e2 => Br.t (by simpa using he) (k1 _ _ _ _ _ e h2 (by unfold twoE; rw [hp]; simp only [hp2]) he (e0.trans e2))) fun b y h2 hp2 hy e2 => Br.f rfl ?_
  have X2 := X1.ext0 e2
  obtain ⟨dd, m, hdd, hm⟩ := pathE_dir X.W hp
  have hat : σ.at a = some (dd, m) := Dk.at_some.2 ⟨hdd, hm⟩
  refine NilC.mk rfl ⟨_, (X2.R.dirs a dd hdd).1.cell0, _, _, (X2.R.mps _ _ hm).1.look x, ?_⟩
  cases hl : look x m with
  | none => exact Br.t rfl (k1 _ _ _ _ _ 6 h2 (by unfold twoE; rw [hp]; simp only [hp2, hat, hl]) (by omega) (e0.trans e2))
  | some it => exact Br.f rfl (k2 a x b y it h2 (by unfold twoE; rw [hp]; simp only [hp2, hat, hl]) hx hy ⟨dd, m, hdd, hm, hl⟩ (pathE_dir X.W hp2) (e0.trans e2))

def linkR (σ : Dk) (l l' : Tx) (r : Nat) : Int × Dk := match twoE σ l l' with
  | (none, e) => (e, σ)
  | (some (_, _, b, y, it), _) => match σ.at b with
    | none => (6, σ)
    | some (dd, m) =>
      if (look y m).isSome = true then (7, σ) else if 1024 ≤ m.length then (2, σ)
      else if σ.change.1 ≠ 0 then (σ.change.1, σ.change.2.2)
      else (0, σ.change.2.2.chg b dd r (putN y it m))

theorem c75 {h : Heap} {lab : Labs} {f D : Nat} {σ : Dk} (X : DW h lab f D σ) {n : Nat} (F : Few σ n) (hn : n ≤ 4398046511104) {l l' : Tx} (hl : l.length < 4294967281) (hl' : l'.length < 4294967281) {R : Int → Heap → Prop}
    (k : ∀ r h' lab', σ.mp r = none → DW h' lab' f D (linkR σ l l' r).2 → Stp lab h lab' h' → R (linkR σ l l' r).1 h') :
    Call Go.Proofs.Tryz.prog 75 [.lf (.ptr (some (f, 0))), .lf (.str (tx l)), .lf (.str (tx l'))] h [.one (.int .i64)] R := by
  have fr1 := X.R.free_mp (Nat.le_refl h.size)
  have stay : ∀ e (h' : Heap), linkR σ l l' h.size = (e, σ) → Ext0 h h' → R e h' := fun e h' hc e0 => by
    have := k h.size h' lab fr1 (by rw [hc]; exact X.ext0 e0) (Stp.of0 e0)
    rwa [hc] at this
  refine ok75 (c141 X hl hl' (fun p q t t' w e h' hp he e0 => New.mk fun b7 h8 hb7 hs8 e8 k7 => New.mk fun b9 h10 hb9 hs10 e10 k9 => StC.one (k7.ext e10) (by simp) fun h11 hs11 k11 e11 => StC.one (k9.ext e11 (by omega)) (by simp) fun h12 hs12 k12 e12 => Br.t (by simpa using he) (stay _ h12 (by unfold linkR; rw [hp]) ?_))
    fun a x b y it h' hp hx hy hA hB e0 => New.mk fun b7 h8 hb7 hs8 e8 k7 => New.mk fun b9 h10 hb9 hs10 e10 k9 => StC.one (k7.ext e10) (by simp) fun h11 hs11 k11 e11 => StC.one (k9.ext e11 (by omega)) (by simp) fun h12 hs12 k12 e12 => Br.f rfl (NilC.mk rfl ?_))
  · have := e0.size
    exact (((e0.trans e8).trans e10).tmp e11 (by omega)).tmp e12 (by omega)
  have hsz := e0.size
  have e06 : Ext0 h h12 := (((e0.trans e8).trans e10).tmp e11 (by omega)).tmp e12 (by omega)
  have k7' : Blk h12 b7 9 [.str (tx y)] := (by simpa using k11 : Blk h11 b7 9 [.str (tx y)]).ext e12 (by omega)
  have k9' : Blk h12 b9 98 [.ptr (some (it, 0))] := by simpa using k12
  obtain ⟨dd, m, hdd, hm⟩ := hB
  have hat : σ.at b = some (dd, m) := Dk.at_some.2 ⟨hdd, hm⟩
  have X6 := X.ext0 e06
  have Bd := (X6.R.dirs b dd hdd).1.cell0
  have Mm := (X6.R.mps _ _ hm).1
  refine ⟨_, Bd, _, k7'.cell rfl, _, _, Mm.look y, Br.mk (fun hx => stay _ h12 ?_ e06) fun hx => NilC.mk rfl ⟨_, Bd, _, Mm.len, Br.dec (fun hge => stay _ h12 ?_ e06) fun hlt => ?_⟩⟩
  · unfold linkR; rw [hp]; simp only [hat]; rw [if_pos hx]
  · unfold linkR; rw [hp]; simp only [hat]; rw [if_neg (by rw [hx]; simp), if_pos (by omega)]
  have hcr : ∀ r, linkR σ l l' r = if σ.change.1 ≠ 0 then (σ.change.1, σ.change.2.2) else (0, σ.change.2.2.chg b dd r (putN y it m)) := fun r => by
    unfold linkR; rw [hp]; simp only [hat]; rw [if_neg (by rw [hx]; simp), if_neg (by omega)]
  refine c55 X6.R (F.okF hn) (F.okS hn) fun h19 hs19 e19 R19 => ?_
  have st19 : Stp lab h lab h19 := (Stp.of0 e06).trans (Stp.of e19 fun i _ hi => by subst hi; rw [X.R.lf]; simp)
  refine Br.ne (fun he => ?_) fun he => ?_
  · have := k h.size h19 lab fr1 (by rw [hcr, if_pos he]; exact X.go st19 R19 X.W.change) st19
    rw [hcr, if_pos he] at this; exact this
  have X19 : DW h19 lab f D σ.change.2.2 := X.go st19 R19 X.W.change
  have l7 : lab b7 = none := X.R.free (by omega)
  have l9 : lab b9 = none := X.R.free (by omega)
  have nf : ∀ {i : Nat}, lab i = none → i ≠ f := fun hi x => by rw [x, X.R.lf] at hi; cases hi
  have k7s := k7'.ext e19 (nf l7)
  have k9s := k9'.ext e19 (nf l9)
  obtain ⟨da, ma, hda, hma, hit⟩ := hA
  refine chgC X19 hdd hm (Nat.le_trans (F.was _ _ hdd) hn) (m' := putN y it m) (fun r h1 K M1 e1 kk => vPut48 (k9s.ext e1 (fun w => w l9)) (k7s.ext e1 (fun w => w l7)) M1 kk) (fun p hp => ?_) (fun p hp => ?_) ?_ fun r h2 lab2 hr _ X2 s2 => ?_
  · rcases putN_mem hp with rfl | hp
    · exact X.W.files _ _ hma (x, it) (look_mem hit)
    · exact X.W.files _ _ hm p hp
  · rcases putN_mem hp with rfl | hp
    · exact hy
    · exact X.W.names' _ _ hm p hp
  · rw [putN_len]; split <;> omega
  · have st := st19.trans s2
    have := st19.size
    have fr := X.R.free_mp (b := r) (by omega)
    have := k r h2 lab2 fr (by rw [hcr, if_neg (fun y => y he)]; exact X2) st
    rw [hcr, if_neg (fun y => y he)] at this; exact this

def removeR (σ : Dk) (l : Tx) (r : Nat) : Int × Dk := match fileE σ l with
  | (none, e) => (e, σ)
  | (some _, _) => match pathE σ l with
    | (none, e) => (e, σ)
    | (some (d, n), _) => match σ.at d with
      | none => (6, σ)
      | some (dd, m) =>
        if σ.change.1 ≠ 0 then (σ.change.1, σ.change.2.2)
        else (0, σ.change.2.2.chg d dd r (delN n m))

theorem fileE_path {σ : Dk} {l : Tx} {x : Nat} {e : Int} (h : fileE σ l = (some x, e)) : ∃ d n, pathE σ l = (some (d, n), 0) := by
  unfold fileE at h
  split at h
  · cases h
  · rename_i d n e' hp
    have : e' = 0 := by
      unfold pathE at hp
      split at hp
      · cases hp
      · split at hp
        · cases hp
        · cases hp; rfl
    exact ⟨d, n, by rw [hp, this]⟩

theorem c77 {h : Heap} {lab : Labs} {f D : Nat} {σ : Dk} (X : DW h lab f D σ) {n : Nat} (F : Few σ n) (hn : n ≤ 4398046511104) {l : Tx} (hl : l.length < 4294967281) {R : Int → Heap → Prop}
    (k : ∀ r h' lab', σ.mp r = none → DW h' lab' f D (removeR σ l r).2 → Stp lab h lab' h' → R (removeR σ l r).1 h') :
    Call Go.Proofs.Tryz.prog 77 [.lf (.ptr (some (f, 0))), .lf (.str (tx l))] h [.one (.int .i64)] R := by
  have fr1 := X.R.free_mp (Nat.le_refl h.size)
  have stay : ∀ e (h' : Heap), removeR σ l h.size = (e, σ) → Ext0 h h' → R e h' := fun e h' hc e0 => by
    have := k h.size h' lab fr1 (by rw [hc]; exact X.ext0 e0) (Stp.of0 e0)
    rwa [hc] at this
  refine ok77 (c53 X.R X.W X.M hl (fun e h' hp he e0 => Br.t (by simpa using he) (stay _ h' (by unfold removeR; rw [hp]) e0)) fun x h' hf e0 => Br.f rfl ?_)
  have X1 := X.ext0 e0
  obtain ⟨d0, n0, hp0⟩ := fileE_path hf
  refine c103 X1.R X1.M hl (fun e h2 hp2 he e2 => by rw [hp0] at hp2; cases hp2) fun d nm h2 hp hok e2 => New.mk fun b7 h8 hb7 hs8 e8 k7 => StC.one k7 (by simp) fun h9 hs9 k9 e9 => ?_
  have e02 := e0.trans e2
  have hsz := e02.size
  have e06 : Ext0 h h9 := (e02.trans e8).tmp e9 (by omega)
  have k9' : Blk h9 b7 9 [.str (tx nm)] := by simpa using k9
  obtain ⟨dd, m, hdd, hm⟩ := pathE_dir X.W hp
  have hat : σ.at d = some (dd, m) := Dk.at_some.2 ⟨hdd, hm⟩
  have X6 := X.ext0 e06
  have hcr : ∀ r, removeR σ l r = if σ.change.1 ≠ 0 then (σ.change.1, σ.change.2.2) else (0, σ.change.2.2.chg d dd r (delN nm m)) := fun r => by
    unfold removeR; rw [hf]; simp only [hp, hat]
  refine c55 X6.R (F.okF hn) (F.okS hn) fun h19 hs19 e19 R19 => ?_
  have st19 : Stp lab h lab h19 := (Stp.of0 e06).trans (Stp.of e19 fun i _ hi => by subst hi; rw [X.R.lf]; simp)
  refine Br.ne (fun he => ?_) fun he => ?_
  · have := k h.size h19 lab fr1 (by rw [hcr, if_pos he]; exact X.go st19 R19 X.W.change) st19
    rw [hcr, if_pos he] at this; exact this
  have X19 : DW h19 lab f D σ.change.2.2 := X.go st19 R19 X.W.change
  have l7 : lab b7 = none := X.R.free (by omega)
  have k7s := k9'.ext e19 (fun x => by rw [show b7 = f from x, X.R.lf] at l7; cases l7)
  refine chgC X19 hdd hm (Nat.le_trans (F.was _ _ hdd) hn) (m' := delN nm m) (fun r h1 K M1 e1 kk => vDel50 (k7s.ext e1 (fun w => w l7)) M1 kk) (fun p hp => X.W.files _ _ hm p (delN_sub hp)) (fun p hp => X.W.names' _ _ hm p (delN_sub hp)) (Nat.le_trans (delN_len _ _) (X.W.most' _ _ hm)) fun r h2 lab2 hr _ X2 s2 => ?_
  have st := st19.trans s2
  have := st19.size
  have fr := X.R.free_mp (b := r) (by omega)
  have := k r h2 lab2 fr (by rw [hcr, if_neg (fun y => y he)]; exact X2) st
  rw [hcr, if_neg (fun y => y he)] at this; exact this

end Go.V.YtdeihieblljfcaaGreat
/-! Rename, Mkdir. -/
namespace Go.V.YtdeihieblljfcaaGreat
open Go Go.V

def renameR (σ : Dk) (l l' : Tx) (r1 r2 : Nat) : Int × Dk := match twoE σ l l' with
  | (none, e) => (e, σ)
  | (some (a, x, b, y, it), _) => match σ.at a with
    | none => (6, σ)
    | some (da, ma) => match σ.at b with
      | none => (6, σ)
      | some (db, mb) =>
        if (look y mb).isSome = false ∧ a ≠ b ∧ 1024 ≤ mb.length then (2, σ)
        else if σ.change.1 ≠ 0 ∨ l = l' then (σ.change.1, σ.change.2.2)
        else if a = b then (0, σ.change.2.2.chg a da r1 (putN y it (delN x ma)))
        else (0, (σ.change.2.2.chg b db r1 (putN y it mb)).chg a da r2 (delN x ma))

theorem delN_len1 {n : Tx} {b : Nat} : ∀ {m : List (Tx × Nat)}, look n m = some b → (delN n m).length + 1 = m.length
  | [], h => by cases h
  | p :: r, h => by
    unfold look at h
    unfold delN
    split at h
    · rename_i hp; rw [if_pos hp]; rfl
    · rename_i hp; rw [if_neg hp, List.length_cons, delN_len1 h]; rfl

theorem dirPlain {h : Heap} {lab : Labs} {f D : Nat} {σ : Dk} (R : DR h lab f D σ) {a : Nat} {d : Dr} (hd : σ.dr a = some d) : plainAt h a := by
  obtain ⟨s, k, _⟩ := (R.dirs a d hd).1.ex
  exact ⟨_, _, k⟩

theorem c73 {h : Heap} {lab : Labs} {f D : Nat} {σ : Dk} (X : DW h lab f D σ) {n : Nat} (F : Few σ n) (hn : n ≤ 4398046511100) {l l' : Tx} (hl : l.length < 4294967281) (hl' : l'.length < 4294967281) {R : Int → Heap → Prop}
    (k : ∀ r1 r2 h' lab', σ.mp r1 = none → σ.mp r2 = none → r1 ≠ r2 → DW h' lab' f D (renameR σ l l' r1 r2).2 → Stp lab h lab' h' → R (renameR σ l l' r1 r2).1 h') :
    Call Go.Proofs.Tryz.prog 73 [.lf (.ptr (some (f, 0))), .lf (.str (tx l)), .lf (.str (tx l'))] h [.one (.int .i64)] R := by
  have fr1 := X.R.free_mp (Nat.le_refl h.size)
  have fr2 := X.R.free_mp (b := h.size + 1) (by omega)
  have stay : ∀ e (h' : Heap), renameR σ l l' h.size (h.size + 1) = (e, σ) → Ext0 h h' → R e h' := fun e h' hc e0 => by
    have := k h.size (h.size + 1) h' lab fr1 fr2 (by omega) (by rw [hc]; exact X.ext0 e0) (Stp.of0 e0)
    rwa [hc] at this
  have three : ∀ {h' : Heap} {t1 t2 : ByteArray} {w : Option (Nat × Nat)} {K : Nat → Nat → Nat → Heap → Prop}, Ext0 h h' →
      (∀ b7 b9 b11 h15, h.size ≤ b7 → h.size ≤ b9 → h.size ≤ b11 → Blk h15 b7 9 [.str t1] → Blk h15 b9 9 [.str t2] → Blk h15 b11 98 [.ptr w] → Ext0 h h15 → K b7 b9 b11 h15) →
      New 9 [.str (ByteArray.mk #[])] h' fun b7 h8 => New 9 [.str (ByteArray.mk #[])] h8 fun b9 h10 => New 98 [.ptr none] h10 fun b11 h12 => StC h12 b7 0 [.str t1] fun h13 => StC h13 b9 0 [.str t2] fun h14 => StC h14 b11 0 [.ptr w] fun h15 => K b7 b9 b11 h15 := fun {h' t1 t2 w K} e0 kk => by
    have hsz := e0.size
    refine New.mk fun b7 h8 hb7 hs8 e8 k7 => New.mk fun b9 h10 hb9 hs10 e10 k9 => New.mk fun b11 h12 hb11 hs12 e12 k11 => StC.one ((k7.ext e10).ext e12) (by simp) fun h13 hs13 k13 e13 => StC.one ((k9.ext e12).ext e13 (by omega)) (by simp) fun h14 hs14 k14 e14 => StC.one ((k11.ext e13 (by omega)).ext e14 (by omega)) (by simp) fun h15 hs15 k15 e15 => ?_
    refine kk b7 b9 b11 h15 (by omega) (by omega) (by omega) ?_ ?_ (by simpa using k15) ((((((e0.trans e8).trans e10).trans e12).tmp e13 (by omega)).tmp e14 (by omega)).tmp e15 (by omega))
    · exact ((by simpa using k13 : Blk h13 b7 9 [.str t1]).ext e14 (by omega)).ext e15 (by omega)
    · exact (by simpa using k14 : Blk h14 b9 9 [.str t2]).ext e15 (by omega)
  refine ok73 (c141 X hl hl' (fun p q t t' w e h' hp he e0 => three e0 fun b7 b9 b11 h15 g7 g9 g11 k7 k9 k11 e15 => Br.t (by simpa using he) (stay _ h15 (by unfold renameR; rw [hp]) e15))
    fun a x b y it h' hp hx hy hA hB e0 => three e0 fun b7 b9 b11 h15 g7 g9 g11 k7 k9 k11 e15 => Br.f rfl (NilC.mk rfl ?_))
  obtain ⟨db, mb, hdb, hmb⟩ := hB
  obtain ⟨da, ma, hda, hma, hit⟩ := hA
  have hatb : σ.at b = some (db, mb) := Dk.at_some.2 ⟨hdb, hmb⟩
  have hata : σ.at a = some (da, ma) := Dk.at_some.2 ⟨hda, hma⟩
  have X6 := X.ext0 e15
  have Bd := (X6.R.dirs b db hdb).1.cell0
  have Mm := (X6.R.mps _ _ hmb).1
  have l7 : lab b7 = none := X.R.free g7
  have l9 : lab b9 = none := X.R.free g9
  have l11 : lab b11 = none := X.R.free g11
  have nf : ∀ {i : Nat}, lab i = none → i ≠ f := fun hi x => by rw [x, X.R.lf] at hi; cases hi
  have pq : ∀ {hh : Heap} {τ : Dk}, DR hh lab f D τ → τ.dr = σ.dr → PEq hh (some (a, 0)) (some (b, 0)) := fun {hh τ} r e => .inr ⟨dirPlain r (by rw [e]; exact hda), dirPlain r (by rw [e]; exact hdb)⟩
  have pe : ptrEq (some (a, 0)) (some (b, 0)) = decide (a = b) := by unfold ptrEq; rw [Bool.eq_iff_iff]; simp
  refine ⟨_, Bd, _, k9.cell rfl, _, _, Mm.look y, ⟨fun c hh => hh = h15 ∧ c = decide ((look y mb).isSome = false ∧ a ≠ b ∧ 1024 ≤ mb.length), ?_, ?_⟩⟩
  · refine Br.not (fun hno => ⟨pq X6.R rfl, ?_⟩) fun hyes => ⟨rfl, ?_⟩
    · rw [pe]
      refine Br.mk (fun hne => NilC.mk rfl ⟨_, Bd, _, Mm.len, rfl, ?_⟩) fun heq => ⟨rfl, ?_⟩
      · have : a ≠ b := by simpa using hne
        rw [Bool.eq_iff_iff, decide_eq_true_eq, decide_eq_true_eq]
        exact ⟨fun h => ⟨hno, this, by omega⟩, fun h => by have := h.2.2; omega⟩
      · have : a = b := by simpa using heq
        exact (decide_eq_false fun x => x.2.1 this).symm
    · exact (decide_eq_false fun x => by rw [hyes] at x; cases x.1).symm
  rintro c h28 ⟨rfl, rfl⟩
  refine Br.mk (fun hx => stay _ h28 ?_ e15) fun hx => ?_
  · unfold renameR; rw [hp]; simp only [hata, hatb]; rw [if_pos (of_decide_eq_true hx)]
  have hcr : ∀ r1 r2, renameR σ l l' r1 r2 = if σ.change.1 ≠ 0 ∨ l = l' then (σ.change.1, σ.change.2.2) else if a = b then (0, σ.change.2.2.chg a da r1 (putN y it (delN x ma))) else (0, (σ.change.2.2.chg b db r1 (putN y it mb)).chg a da r2 (delN x ma)) := fun r1 r2 => by
    unfold renameR; rw [hp]; simp only [hata, hatb]; rw [if_neg (of_decide_eq_false hx)]
  refine c55 X6.R (F.okF (by omega)) (F.okS (by omega)) fun h31 hs31 e31 R31 => ?_
  have st31 : Stp lab h lab h31 := (Stp.of0 e15).trans (Stp.of e31 fun i _ hi => by subst hi; rw [X.R.lf]; simp)
  have X31 : DW h31 lab f D σ.change.2.2 := X.go st31 R31 X.W.change
  refine ⟨fun c hh => hh = h31 ∧ (c = true ↔ (σ.change.1 ≠ 0 ∨ l = l')), ?_, ?_⟩
  · refine Br.ne (fun he => ⟨rfl, fun _ => .inl he, fun _ => rfl⟩) fun he => ⟨rfl, ?_⟩
    rw [tx_eq, decide_eq_true_eq]
    exact ⟨fun z => .inr z, fun z => z.resolve_left fun w => w he⟩
  rintro c h34 ⟨rfl, hc⟩
  refine Br.mk (fun hct => ?_) fun hcf => ?_
  · have hcc := hc.1 hct
    have := k h.size (h.size + 1) h34 lab fr1 fr2 (by omega) (by rw [hcr, if_pos hcc]; exact X31) st31
    rw [hcr, if_pos hcc] at this; exact this
  have hcc : ¬ (σ.change.1 ≠ 0 ∨ l = l') := fun z => by rw [hc.2 z] at hcf; cases hcf
  have k7s := k7.ext e31 (nf l7)
  have k9s := k9.ext e31 (nf l9)
  have k11s := k11.ext e31 (nf l11)
  have hsz := st31.size
  refine ⟨pq X31.R rfl, ?_⟩
  rw [pe]
  refine Br.dec (fun hab => ?_) fun hab => ?_
  · refine chgC X31 hda hma (Nat.le_trans (F.was _ _ hda) (by omega)) (m' := putN y it (delN x ma)) (fun r h1 K M1 e1 kk => vMove38 (k7s.ext e1 (fun w => w l7)) (k11s.ext e1 (fun w => w l11)) (k9s.ext e1 (fun w => w l9)) ?_ ?_ M1 kk) (fun p hp => ?_) (fun p hp => ?_) ?_ fun r h2 lab2 hr _ X2 s2 => ?_
    · rintro rfl
      obtain ⟨⟨es, clock, g, _⟩, _⟩ := M1
      have := k11s.ext e1 (fun w => w l11)
      unfold Blk at this; rw [g] at this; cases this
    · rintro rfl
      obtain ⟨⟨es, clock, g, _⟩, _⟩ := M1
      have := k9s.ext e1 (fun w => w l9)
      unfold Blk at this; rw [g] at this; cases this
    · rcases putN_mem hp with rfl | hp
      · exact X.W.files _ _ hma (x, it) (look_mem hit)
      · exact X.W.files _ _ hma p (delN_sub hp)
    · rcases putN_mem hp with rfl | hp
      · exact hy
      · exact X.W.names' _ _ hma p (delN_sub hp)
    · have := delN_len1 hit
      have := X.W.most' _ _ hma
      rw [putN_len]; split <;> omega
    · have st := st31.trans s2
      have fr := X.R.free_mp (b := r) (by omega)
      have := k r (r + 1) h2 lab2 fr (X.R.free_mp (by omega)) (by omega) (by rw [hcr, if_neg hcc, if_pos hab]; exact X2) st
      rw [hcr, if_neg hcc, if_pos hab] at this; exact this
  · have hmost : (putN y it mb).length ≤ 1024 := by
      have h1 := of_decide_eq_false hx
      have h2 := X.W.most' _ _ hmb
      rw [putN_len]
      cases hly : (look y mb).isSome with
      | true => simp; exact h2
      | false => simp; have : ¬ 1024 ≤ mb.length := fun z => h1 ⟨hly, hab, z⟩; omega
    refine chgC X31 hdb hmb (Nat.le_trans (F.was _ _ hdb) (by omega)) (m' := putN y it mb) (fun r h1 K M1 e1 kk => vPut39 (k11s.ext e1 (fun w => w l11)) (k9s.ext e1 (fun w => w l9)) M1 kk) (fun p hp => ?_) (fun p hp => ?_) hmost fun r1 h2 lab2 hr1 hr1' X2 s2 => ?_
    · rcases putN_mem hp with rfl | hp
      · exact X.W.files _ _ hma (x, it) (look_mem hit)
      · exact X.W.files _ _ hmb p hp
    · rcases putN_mem hp with rfl | hp
      · exact hy
      · exact X.W.names' _ _ hmb p hp
    have l7' : lab2 b7 = none := (s2.lab b7 k7s.lt).trans l7
    have k7t : Blk h2 b7 9 [.str (tx x)] := k7s.ext s2.ext fun w => w l7
    have hda2 : (σ.change.2.2.chg b db r1 (putN y it mb)).dr a = some da := by show upd _ _ _ _ = _; rw [upd_ne hab]; exact hda
    have hne : da.now ≠ r1 := fun z => by
      have := X.R.free_mp (b := r1) (by omega); rw [← z, hma] at this; cases this
    have hma2 : (σ.change.2.2.chg b db r1 (putN y it mb)).mp da.now = some ma := by show upd _ _ _ _ = _; rw [upd_ne hne]; exact hma
    have sz2 := s2.size
    refine chgC X2 hda2 hma2 (Nat.le_trans (F.was _ _ hda) (by omega)) (m' := delN x ma) (fun r h1 K M1 e1 kk => vDel40 (k7t.ext e1 (fun w => w l7')) M1 kk) (fun p hp => X.W.files _ _ hma p (delN_sub hp)) (fun p hp => X.W.names' _ _ hma p (delN_sub hp)) (Nat.le_trans (delN_len _ _) (X.W.most' _ _ hma)) fun r2 h3 lab3 hr2 hr2' X3 s3 => ?_
    have st := (st31.trans s2).trans s3
    have f1 := X.R.free_mp (b := r1) (by omega)
    have f2 := X.R.free_mp (b := r2) (by omega)
    have := k r1 r2 h3 lab3 f1 f2 (by omega) (by rw [hcr, if_neg hcc, if_neg hab]; exact X3) st
    rw [hcr, if_neg hcc, if_neg hab] at this; exact this

def mkdirR (σ : Dk) (l : Tx) (r b : Nat) : Int × Dk :=
  if okName l = true then
    if (look l σ.dirs).isSome = true then (7, σ) else if 64 ≤ σ.dirs.length then (2, σ)
    else if σ.change.1 ≠ 0 then (σ.change.1, σ.change.2.2)
    else (0, { σ.change.2.2 with dirs := putN l b σ.dirs, mp := upd σ.mp r [], dr := upd σ.dr b ⟨r, []⟩ })
  else (1, σ)

theorem c37 {h : Heap} {lab : Labs} {f D : Nat} {σ : Dk} (X : DW h lab f D σ) {n : Nat} (F : Few σ n) (hn : n ≤ 4398046511104) {l : Tx} {R : Int → Heap → Prop}
    (k : ∀ r b h' lab', σ.mp r = none → σ.dr b = none → DW h' lab' f D (mkdirR σ l r b).2 → Stp lab h lab' h' → R (mkdirR σ l r b).1 h') :
    Call Go.Proofs.Tryz.prog 37 [.lf (.ptr (some (f, 0))), .lf (.str (tx l))] h [.one (.int .i64)] R := by
  have fr1 := X.R.free_mp (Nat.le_refl h.size)
  have fr2 := X.R.free_dr (Nat.le_refl h.size)
  have stay : ∀ e (h' : Heap), mkdirR σ l h.size h.size = (e, σ) → Ext0 h h' → R e h' := fun e h' hc e0 => by
    have := k h.size h.size h' lab fr1 fr2 (by rw [hc]; exact X.ext0 e0) (Stp.of0 e0)
    rwa [hc] at this
  refine ok37 (c102 fun h1 e1 => Br.not (fun hf => stay 1 h1 (by unfold mkdirR; rw [if_neg (by rw [hf]; simp)]) e1) fun ht => NilC.mk rfl ?_)
  have X1 := X.ext0 e1
  refine ⟨_, X1.R.blk.cell rfl, _, _, X1.R.dm.look l, Br.mk (fun hx => stay 7 h1 ?_ e1) fun hx => NilC.mk rfl ⟨_, X1.R.blk.cell rfl, _, X1.R.dm.len, Br.dec (fun hge => stay 2 h1 ?_ e1) fun hlt => ?_⟩⟩
  · unfold mkdirR; rw [if_pos ht, if_pos hx]
  · unfold mkdirR; rw [if_pos ht, if_neg (by rw [hx]; simp), if_pos (by omega)]
  have hcr : ∀ r b, mkdirR σ l r b = if σ.change.1 ≠ 0 then (σ.change.1, σ.change.2.2) else (0, { σ.change.2.2 with dirs := putN l b σ.dirs, mp := upd σ.mp r [], dr := upd σ.dr b ⟨r, []⟩ }) := fun r b => by
    unfold mkdirR; rw [if_pos ht, if_neg (by rw [hx]; simp), if_neg (by omega)]
  refine c55 X1.R (F.okF hn) (F.okS hn) fun h13 hs13 e13 R13 => ?_
  have st13 : Stp lab h lab h13 := (Stp.of0 e1).trans (Stp.of e13 fun i _ hi => by subst hi; rw [X.R.lf]; simp)
  refine Br.ne (fun he => ?_) fun he => NilC.mk rfl ?_
  · have := k h.size h.size h13 lab fr1 fr2 (by rw [hcr, if_pos he]; exact X.go st13 R13 X.W.change) st13
    rw [hcr, if_pos he] at this; exact this
  refine ⟨_, R13.blk.cell rfl, NewM.mk fun r h18 hr hs18 e18 k18 => New.mk fun b h20 hb hs20 e20 k20 => ?_⟩
  have hsz := st13.size
  have R20 := (R13.ext0 e18).ext0 e20
  refine MapN.put R20.dm fun h21 hs21 M21 e21 => ?_
  have hDlt := R13.lt D (by rw [R13.lD]; simp)
  have R21 := R20.setM e21 M21
  have kr : MapN h21 r [] := by
    refine MapR.ext (MapR.ext (S := fun _ => False) ?_ e20) e21 (by omega)
    exact ⟨⟨[], 0, k18, rfl, by simp, by simp⟩, by simp⟩
  have lr : lab r = none := X.R.free (by omega)
  have lbn : lab b = none := X.R.free (by omega)
  have hbr : b ≠ r := by omega
  have kb : Blk h21 b 116 [.map (some r), .slc ⟨none, 0, 0⟩] := k20.ext e21 (by omega)
  have lb2 : upd lab r .nm b = none := by rw [upd_ne hbr]; exact lbn
  have Ra := (R21.name (L := .nm) lr (by omega)).newMap (upd_same _ _ _) kr
  have Rb := (Ra.name (L := .dir) lb2 kb.lt).newDir (upd_same _ _ _) (d := ⟨r, []⟩) ⟨_, kb, Own.nil 1 wF h21, fun y off hy => by cases hy⟩
  have st : Stp lab h (upd (upd lab r .nm) b .dir) h21 := ((((st13.trans (Stp.of0 e18)).trans (Stp.of0 e20)).trans (Stp.of e21 fun i _ hi => by subst hi; rw [X.R.lD]; simp)).name (by omega)).name (by omega)
  have f1 := X.R.free_mp (b := r) (by omega)
  have f2 := X.R.free_dr (b := b) (by omega)
  have Wn : Wf { σ.change.2.2 with dirs := putN l b σ.dirs, mp := upd σ.mp r [], dr := upd σ.dr b ⟨r, []⟩ } := by
    have sm : ∀ {r' : Nat}, (∃ m', σ.mp r' = some m') → ∃ m', upd σ.mp r [] r' = some m' := fun ⟨m', h⟩ => ⟨m', by rw [upd_ne]; exact h; rintro rfl; rw [f1] at h; cases h⟩
    refine ⟨fun p hp => ?_, fun b' d' hd' => ?_, fun r' m' hm' => ?_, fun p hp => ?_, fun r' m' hm' => ?_, ?_, fun r' m' hm' => ?_⟩
    · rcases putN_mem hp with rfl | hp
      · exact ⟨_, upd_same _ _ _⟩
      · obtain ⟨d, hd⟩ := X.W.dirs p hp
        exact ⟨d, by show upd _ _ _ _ = _; rw [upd_ne]; exact hd; intro e; rw [e, f2] at hd; cases hd⟩
    · rcases upd_some hd' with ⟨rfl, rfl⟩ | ⟨_, hd'⟩
      · exact ⟨⟨_, upd_same _ _ _⟩, fun r h => by cases h⟩
      · exact ⟨sm (X.W.maps _ _ hd').1, fun r' h' => sm ((X.W.maps _ _ hd').2 r' h')⟩
    · rcases upd_some hm' with ⟨rfl, rfl⟩ | ⟨_, hm'⟩
      · intro p hp; cases hp
      · exact X.W.files _ _ hm'
    · rcases putN_mem hp with rfl | hp
      · exact ht
      · exact X.W.names p hp
    · rcases upd_some hm' with ⟨rfl, rfl⟩ | ⟨_, hm'⟩
      · intro p hp; cases hp
      · exact X.W.names' _ _ hm'
    · show (putN l b σ.dirs).length ≤ 64
      rw [putN_len]; split <;> omega
    · rcases upd_some hm' with ⟨rfl, rfl⟩ | ⟨_, hm'⟩
      · simp
      · exact X.W.most' _ _ hm'
  have := k r b h21 _ f1 f2 (by rw [hcr, if_neg (fun y => y he)]; exact X.go st Rb Wn) st
  rw [hcr, if_neg (fun y => y he)] at this; exact this

end Go.V.YtdeihieblljfcaaGreat
