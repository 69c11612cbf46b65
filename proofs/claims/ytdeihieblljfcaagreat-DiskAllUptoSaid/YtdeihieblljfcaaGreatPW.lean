/- This text proves a part of the laws of seat YtdeihieblljfcaaGreat, under no condition: F3h F3i. -/
import Derived.Test.YtdeihieblljfcaaGreatPV
set_option linter.unusedVariables false
set_option linter.unusedSimpArgs false
/-! The document's disk: Rename; Sync, SyncDir, Cut, Flip, what is read. -/
namespace Go.V.YtdeihieblljfcaaGreat
open Go Go.V

theorem chgD_dirs {δ : Dc} {i j : Nat} {m : Nm} (h : i ≠ j) : (chgD δ i m).dirs[j]? = δ.dirs[j]? := by
  unfold chgD; split
  · show (δ.dirs.set i _)[j]? = _; rw [List.getElem?_set_ne h]
  · rfl
theorem chgD_keep (δ : Dc) (i : Nat) (m : Nm) : (chgD δ i m).files = δ.files ∧ (chgD δ i m).dirs.length = δ.dirs.length := by
  unfold chgD; split
  · exact ⟨rfl, by simp⟩
  · exact ⟨rfl, rfl⟩
theorem WD.chg {δ : Dc} (W : WD δ) {i : Nat} {m : Nm} (hm : m.length ≤ 1024) (hl : ∀ a ws, δ.dirs[i]? = some (a, ws) → ws.length + 1 ≤ 4398046511104) : WD (chgD δ i m) := by
  unfold chgD
  split
  · rename_i nm ws hi
    refine ⟨fun p hp => ?_, by simpa using W.few, fun p hp => ?_, fun p hp l hx => ?_⟩
    · rcases List.mem_or_eq_of_mem_set hp with h | rfl
      · exact W.ways p h
      · simp
    · rcases List.mem_or_eq_of_mem_set hp with h | rfl
      · exact W.wl p h
      · have := hl _ _ hi; simp only [List.length_append, List.length_singleton]; omega
    · rcases List.mem_or_eq_of_mem_set hp with h | rfl
      · exact W.nl p h l hx
      · rcases List.mem_append.1 hx with h | h
        · exact W.nl _ (List.mem_of_getElem? hi) l h
        · rw [List.mem_singleton.1 h]; exact hm
  · exact W

def renameD (δ : Dc) (l l' : Tx) : Int × Dc := match twoD δ l l' with
  | (none, e) => (e, δ)
  | (some (a, m, b, n, i), _) => match nowD δ a with
    | none => (6, δ)
    | some ma => match nowD δ b with
      | none => (6, δ)
      | some mb => if a ≠ b ∧ (look n mb).isSome = false ∧ 1024 ≤ mb.length then (2, δ)
        else if (scriptD δ).1 ≠ 0 ∨ l = l' then ((scriptD δ).1, (scriptD δ).2.2)
        else if a = b then (0, chgD (scriptD δ).2.2 a (withD n (i : Int) (withD m (-1) ma)))
        else (0, chgD (chgD (scriptD δ).2.2 b (withD n (i : Int) mb)) a (withD m (-1) ma))
theorem withD_len (n : Tx) (x : Int) (l : Nm) : (withD n x l).length ≤ 2 * l.length + 1 := by
  have := wfold_len n x l
  unfold withD; split
  · omega
  · simp; omega

theorem c74 {h : Heap} {M : Bl} {d : Nat} {δ : Dc} (X : DD h M d δ) {n : Nat} (O : OkD δ n) (hn : n ≤ 2199023255552) {l l' : Tx} (hl : l.length < 4611686018427387904) (hl' : l'.length < 4611686018427387904) {R : Int → Heap → Prop}
    (k : ∀ h' M', DD h' M' d (renameD δ l l').2 → DStp M h M' h' d → R (renameD δ l l').1 h') : Call Go.Proofs.Tryz.prog 74 [.lf (.ptr (some (d, 0))), .lf (.str (tx l)), .lf (.str (tx l'))] h [.one (.int .i64)] R := by
  have stay : ∀ e h', renameD δ l l' = (e, δ) → Ext0 h h' → R e h' := fun e h' hc e0 => by
    have := k h' M (by rw [hc]; exact X.ext0 e0) (DStp.of0 M d e0)
    rwa [hc] at this
  refine ok74 (c145 X O.W hl hl' (fun e h' hp he e0 => Br.ne (fun _ => stay e h' (by unfold renameD; rw [hp]) e0) fun x => absurd x he) fun a b i mm nm h' hp e0 => Br.ne (fun x => absurd rfl x) fun _ => ?_)
  obtain ⟨hpa, hpb, q, hq, hqi⟩ := twoD_some hp
  obtain ⟨_, ana, wa, ma, hia, hma, hmal⟩ := placeD_at O.W hpa
  obtain ⟨_, anb, wb, mb, hib, hmb, hmbl⟩ := placeD_at O.W hpb
  have hwa : wa.length ≤ n := by have := O.wn _ (List.mem_of_getElem? hia); exact this
  have hwb : wb.length ≤ n := by have := O.wn _ (List.mem_of_getElem? hib); exact this
  have X0 := X.ext0 e0
  refine ⟨fun c hh => Ext0 h' hh ∧ c = decide (a ≠ b ∧ (look nm mb).isSome = false ∧ 1024 ≤ mb.length), ?_, ?_⟩
  · refine Br.ne (fun hne => ?_) fun heq => ⟨Ext.refl _ _, ?_⟩
    · have hne : a ≠ b := fun e => hne (by rw [e])
      refine c130 X0 hmb O.W.bw fun p h10 N e10 => ?_
      have X10 := X0.ext0 e10
      refine c132 (M := M) X10.lt N (by omega) (fun hlk i7 h8 hneg e8 => Br.t (by simpa using hneg) ?_) fun x h8 hlk e8 => Br.f (by simp) ⟨e10.trans e8, ?_⟩
      · refine c130 (X10.ext0 e8) hmb O.W.bw fun p2 h15 N15 e15 => ⟨(e10.trans e8).trans e15, ?_⟩
        have hpl := N15.a.len
        rw [List.length_map] at hpl
        rw [Bool.eq_iff_iff, decide_eq_true_eq, decide_eq_true_eq, hlk]
        exact ⟨fun z => ⟨hne, rfl, by omega⟩, fun z => by have := z.2.2; omega⟩
      · rw [hlk]; simp
    · have : a = b := by omega
      simp [this]
  rintro c h17 ⟨e17, rfl⟩
  refine Br.mk (fun hx => stay 2 h17 (by unfold renameD; rw [hp]; simp only [hma, hmb]; rw [if_pos (of_decide_eq_true hx)]) (e0.trans e17)) fun hx => ?_
  have hcr : renameD δ l l' = if (scriptD δ).1 ≠ 0 ∨ l = l' then ((scriptD δ).1, (scriptD δ).2.2) else if a = b then (0, chgD (scriptD δ).2.2 a (withD nm (i : Int) (withD mm (-1) ma))) else (0, chgD (chgD (scriptD δ).2.2 b (withD nm (i : Int) mb)) a (withD mm (-1) ma)) := by
    unfold renameD; rw [hp]; simp only [hma, hmb]; rw [if_neg (of_decide_eq_false hx)]
  refine c129 (X0.ext0 e17) O.sc fun h19 X19 e19 => ?_
  have D19 := (DStp.of0 M d (e0.trans e17)).trans (DStp.of M e19)
  refine ⟨fun c hh => hh = h19 ∧ (c = true ↔ ((scriptD δ).1 ≠ 0 ∨ l = l')), ?_, ?_⟩
  · refine Br.ne (fun he => ⟨rfl, fun _ => .inl he, fun _ => rfl⟩) fun he => ⟨rfl, ?_⟩
    rw [tx_eq, decide_eq_true_eq]
    exact ⟨fun z => .inr z, fun z => z.resolve_left fun w => w he⟩
  rintro c h22 ⟨rfl, hc⟩
  refine Br.mk (fun hct => ?_) fun hcf => ?_
  · have hcc := hc.1 hct
    have := k h22 M (by rw [hcr, if_pos hcc]; exact X19) D19
    rw [hcr, if_pos hcc] at this; exact this
  have hcc : ¬ ((scriptD δ).1 ≠ 0 ∨ l = l') := fun z => by rw [hc.2 z] at hcf; cases hcf
  rw [hcr, if_neg hcc] at k
  have hk := scriptD_keep δ
  have hW := O.W.script
  have na := (nowD_script δ a).trans hma
  have nb := (nowD_script δ b).trans hmb
  have ia : (scriptD δ).2.2.dirs[a]? = some (ana, wa) := by rw [hk.2.1]; exact hia
  have ib : (scriptD δ).2.2.dirs[b]? = some (anb, wb) := by rw [hk.2.1]; exact hib
  generalize (scriptD δ).2.2 = δ1 at *
  refine Br.eq (fun hab => ?_) fun hab => ?_
  · have hab : a = b := by omega
    rw [if_pos hab] at k
    refine c130 X19 na hW.bw fun p h25 N25 e25 => c134 N25 (by omega) fun s t h28 oa ob ga gb e28 => ?_
    have U1 := (X19.ext0 e25).up e28
    have w1 := withD_len mm (-1) ma
    refine c134 (nmOf M oa ob ga gb) (by omega) fun s2 t2 h31 oa2 ob2 ga2 gb2 e31 => ?_
    have U2 := U1.1.up e31
    refine c133 U2.1 ia (p := (s2, t2)) (nmOf _ oa2 ob2 ga2 gb2) (by have := hW.few; omega) (by omega) fun h32 M32 X32 D32 => ?_
    exact k h32 M32 X32 ((((D19.trans (DStp.of0 M d e25)).trans U1.2).trans U2.2).trans D32)
  · have hab : a ≠ b := fun e => hab (by rw [e])
    rw [if_neg hab] at k
    refine chgW X19 hW ib nb (by omega) (by omega) fun h39 M39 X39 D39 => ?_
    have ia2 : (chgD δ1 b (withD nm (i : Int) mb)).dirs[a]? = some (ana, wa) := by rw [chgD_dirs (fun e => hab e.symm)]; exact ia
    have na2 : nowD (chgD δ1 b (withD nm (i : Int) mb)) a = some ma := by
      unfold nowD at na ⊢
      rw [ia2]; rw [ia] at na; exact na
    have bw : ∀ p ∈ (chgD δ1 b (withD nm (i : Int) mb)).dirs, p.2.length ≤ 4611686018427387904 := fun p hp => by
      unfold chgD at hp
      rw [ib] at hp
      rcases List.mem_or_eq_of_mem_set hp with h | rfl
      · exact hW.bw p h
      · simp; omega
    have few2 : (chgD δ1 b (withD nm (i : Int) mb)).dirs.length ≤ 64 := by rw [(chgD_keep _ _ _).2]; exact hW.few
    refine c130 X39 na2 bw fun p h1 N e1 => c134 N (by omega) fun s t h2 oa ob ga gb e2 => ?_
    have U := (X39.ext0 e1).up e2
    refine c133 U.1 ia2 (p := (s, t)) (nmOf _ oa ob ga gb) (by omega) (by omega) fun h3 M3 X3 D3 => ?_
    exact k h3 M3 X3 ((((D19.trans D39).trans (DStp.of0 _ d e1)).trans U.2).trans D3)

/-! ### Files -/

structure FOk (c : DF) : Prop where
  ch : chain c.1 c.2
  len : (appl c.1 c.2).length ≤ 268435456
  few : c.2.length ≤ 2199023255552
def FilesOk (δ : Dc) : Prop := ∀ l x, fileD δ l = (some x, 0) → ∃ c, δ.files[x]? = some c ∧ FOk c
theorem fileD_script (δ : Dc) (l : Tx) : fileD (scriptD δ).2.2 l = fileD δ l := by
  unfold fileD; rw [placeD_script]
  split
  · rfl
  · rw [nowD_script]
theorem FilesOk.script {δ : Dc} (F : FilesOk δ) : FilesOk (scriptD δ).2.2 := fun l x h => by
  rw [fileD_script] at h; rw [(scriptD_keep δ).2.2]; exact F l x h

def bytesD (c : DF) : Tx := appl c.1 c.2

def syncD (δ : Dc) (l : Tx) : Int × Dc := match fileD δ l with
  | (none, e) => (e, δ)
  | (some x, _) => match δ.files[x]? with
    | none => (6, δ)
    | some c => if (scriptD δ).1 ≠ 0 then ((scriptD δ).1, (scriptD δ).2.2) else (0, setD (scriptD δ).2.2 x (bytesD c, []))
theorem ltOf {α : Type} {l : List α} {i : Nat} {x : α} (h : l[i]? = some x) : i < l.length := by
  rcases Nat.lt_or_ge i l.length with y | y
  · exact y
  · rw [List.getElem?_eq_none y] at h; cases h
theorem btOf {h h' : Heap} {s : Slc} {l : Tx} (M : Bl) (o : Own 1 dF h' s l) (g : ∀ b off, s.a = some (b, off) → h.size ≤ b) : BtR h' (grow M h h') s l :=
  ⟨o.arr dF_sized, fun b off hb => .inr ⟨g b off hb, (o.lt _ _ hb).1⟩, o.lec⟩

theorem c79 {h : Heap} {M : Bl} {d : Nat} {δ : Dc} (X : DD h M d δ) {n : Nat} (O : OkD δ n) (F : FilesOk δ) (hn : n ≤ 2199023255552) {l : Tx} (hl : l.length < 4611686018427387904) {R : Int → Heap → Prop}
    (k : ∀ h' M', DD h' M' d (syncD δ l).2 → DStp M h M' h' d → R (syncD δ l).1 h') : Call Go.Proofs.Tryz.prog 79 [.lf (.ptr (some (d, 0))), .lf (.str (tx l))] h [.one (.int .i64)] R := by
  refine ok79 (c138 X O.W hl (fun e h' hp he e0 => Br.ne (fun _ => ?_) fun x => absurd x he) fun x h' hp e0 => Br.ne (fun x => absurd rfl x) fun _ => ?_)
  · have hc : syncD δ l = (e, δ) := by unfold syncD; rw [hp]
    have := k h' M (by rw [hc]; exact X.ext0 e0) (DStp.of0 M d e0)
    rwa [hc] at this
  obtain ⟨c, hc, fo⟩ := F l x hp
  have hcr : syncD δ l = if (scriptD δ).1 ≠ 0 then ((scriptD δ).1, (scriptD δ).2.2) else (0, setD (scriptD δ).2.2 x (bytesD c, [])) := by unfold syncD; rw [hp]; simp only [hc]
  refine c129 (X.ext0 e0) O.sc fun h13 X13 e13 => ?_
  have D13 := (DStp.of0 M d e0).trans (DStp.of M e13)
  refine Br.eq (fun he => ?_) fun he => ?_
  rotate_left 1
  · have := k h13 M (by rw [hcr, if_pos he]; exact X13) D13
    rw [hcr, if_pos he] at this; exact this
  rw [hcr, if_neg (fun y => y he)] at k
  rw [he]
  have hc1 : (scriptD δ).2.2.files[x]? = some c := by rw [(scriptD_keep δ).2.2]; exact hc
  have fl : (scriptD δ).2.2.files.length ≤ n := by rw [(scriptD_keep δ).2.2]; exact O.fn
  obtain ⟨sd, sf, kb, A, B⟩ := X13.ex
  refine NilC.mk rfl ⟨sf, kb.cell rfl, Lst.ix B rfl hc1 fun q y off hq hcq => ⟨_, _, hcq, c139 hq X13.lt fo.ch fo.len (by have := fo.few; omega) fun s h2 o2 f2 => ?_⟩⟩
  have U := X13.up f2.ext
  have Q : FilQ h2 (grow M h13 h2) (s, ⟨none, 0, 0⟩) (bytesD c, []) := ⟨btOf M o2 f2.new, Lst.nil 2 oF WrQ _ _⟩
  refine c140 U.1 (ltOf hc1) (p := (s, ⟨none, 0, 0⟩)) Q (by omega) fun h3 M3 X3 D3 => k h3 M3 X3 ((D13.trans U.2).trans D3)

def syncDirD (δ : Dc) (l : Tx) : Int × Dc := match dirE δ l with
  | (none, e) => (e, δ)
  | (some i, _) => match δ.dirs[i]? with
    | none => (6, δ)
    | some p => if (scriptD δ).1 ≠ 0 then ((scriptD δ).1, (scriptD δ).2.2) else (0, settleD (scriptD δ).2.2 i (p.2.length - 1))
theorem c80 {h : Heap} {M : Bl} {d : Nat} {δ : Dc} (X : DD h M d δ) {n : Nat} (O : OkD δ n) {l : Tx} {R : Int → Heap → Prop}
    (k : ∀ h' M', DD h' M' d (syncDirD δ l).2 → DStp M h M' h' d → R (syncDirD δ l).1 h') : Call Go.Proofs.Tryz.prog 80 [.lf (.ptr (some (d, 0))), .lf (.str (tx l))] h [.one (.int .i64)] R := by
  refine ok80 (c148 X O.W (fun e hp he => Br.ne (fun _ => ?_) fun x => absurd x he) fun i hp => Br.ne (fun x => absurd rfl x) fun _ => ?_)
  · have hc : syncDirD δ l = (e, δ) := by unfold syncDirD; rw [hp]
    have := k h M (by rw [hc]; exact X) (DStp.refl M h d)
    rwa [hc] at this
  obtain ⟨_, hix⟩ := dirE_some hp
  obtain ⟨ws, m, hi, hm, hml⟩ := O.W.now hix
  have hcr : syncDirD δ l = if (scriptD δ).1 ≠ 0 then ((scriptD δ).1, (scriptD δ).2.2) else (0, settleD (scriptD δ).2.2 i (ws.length - 1)) := by unfold syncDirD; rw [hp]; simp only [hi]
  refine c129 X O.sc fun h13 X13 e13 => ?_
  refine Br.eq (fun he => ?_) fun he => ?_
  rotate_left 1
  · have := k h13 M (by rw [hcr, if_pos he]; exact X13) (DStp.of M e13)
    rw [hcr, if_pos he] at this; exact this
  rw [hcr, if_neg (fun y => y he)] at k
  rw [he]
  have hi1 : (scriptD δ).2.2.dirs[i]? = some (l, ws) := by rw [(scriptD_keep δ).2.1]; exact hi
  have few : (scriptD δ).2.2.dirs.length ≤ 64 := O.W.script.few
  have hne : ws ≠ [] := O.W.ways _ (List.mem_of_getElem? hi)
  have hpos := List.length_pos_iff.2 hne
  have hwl := O.W.wl _ (List.mem_of_getElem? hi)
  simp only at hwl
  obtain ⟨sd, sf, kb, A, B⟩ := X13.ex
  refine NilC.mk rfl ⟨sd, kb.cell rfl, Lst.ix A rfl hi1 fun q y off hq hcq => ⟨q.2, ⟨hcq.2.1, trivial⟩, ?_⟩⟩
  have hql := Lst.len hq.2
  simp only at hql
  have hx : IntKind.wrap .i64 ((q.2.len : Int) - 1) = ((ws.length - 1 : Nat) : Int) := by rw [hql, wi64 (by omega) (by omega)]; omega
  rw [hx]
  obtain ⟨m', hm'⟩ : ∃ m', ws[ws.length - 1]? = some m' := ⟨_, List.getElem?_eq_getElem (by omega)⟩
  exact c149 X13 hi1 hm' (by omega) fun h3 M3 X3 D3 => k h3 M3 X3 ((DStp.of M e13).trans D3)

def cutD (δ : Dc) (l : Tx) (i : Int) : Int × Dc := match fileD δ l with
  | (none, e) => (e, δ)
  | (some x, _) => match δ.files[x]? with
    | none => (6, δ)
    | some c => if i < 0 ∨ i > (bytesD c).length then (1, δ) else if (scriptD δ).1 ≠ 0 then ((scriptD δ).1, (scriptD δ).2.2) else (0, setD (scriptD δ).2.2 x ((bytesD c).take i.toNat, []))
theorem c72 {h : Heap} {M : Bl} {d : Nat} {δ : Dc} (X : DD h M d δ) {n : Nat} (O : OkD δ n) (F : FilesOk δ) (hn : n ≤ 2199023255552) {l : Tx} (hl : l.length < 4611686018427387904) {i : Int} {R : Int → Heap → Prop}
    (k : ∀ h' M', DD h' M' d (cutD δ l i).2 → DStp M h M' h' d → R (cutD δ l i).1 h') : Call Go.Proofs.Tryz.prog 72 [.lf (.ptr (some (d, 0))), .lf (.str (tx l)), .lf (.int .i64 i)] h [.one (.int .i64)] R := by
  refine ok72 (c138 X O.W hl (fun e h' hp he e0 => Br.ne (fun _ => ?_) fun x => absurd x he) fun x h' hp e0 => Br.ne (fun x => absurd rfl x) fun _ => ?_)
  · have hc : cutD δ l i = (e, δ) := by unfold cutD; rw [hp]
    have := k h' M (by rw [hc]; exact X.ext0 e0) (DStp.of0 M d e0)
    rwa [hc] at this
  obtain ⟨c, hc, fo⟩ := F l x hp
  have X0 := X.ext0 e0
  obtain ⟨sd, sf, kb, A, B⟩ := X0.ex
  refine NilC.mk rfl ⟨sf, kb.cell rfl, Lst.ix B rfl hc fun q y off hq hcq => ⟨_, _, hcq, c139 hq X0.lt fo.ch fo.len (by have := fo.few; omega) fun s h2 o2 f2 => ?_⟩⟩
  have U := X0.up f2.ext
  have D2 := (DStp.of0 M d e0).trans U.2
  have hsl := o2.len
  have hcap := o2.lec
  have stay : i < 0 ∨ i > (bytesD c).length → R 1 h2 := fun z => by
    have hcr : cutD δ l i = (1, δ) := by unfold cutD; rw [hp]; simp only [hc]; rw [if_pos z]
    have := k h2 _ (by rw [hcr]; exact U.1) D2
    rwa [hcr] at this
  have hb : (bytesD c).length = (appl c.1 c.2).length := rfl
  refine ⟨fun hh => hh = h2 ∧ 0 ≤ i ∧ i ≤ (bytesD c).length, Br.dec (fun z => stay (.inl z)) fun z => Br.dec (fun w => stay (.inr (by omega))) fun w => ⟨rfl, by omega, by omega⟩, ?_⟩
  rintro h13 ⟨rfl, hi1, hi2⟩
  have hcr : cutD δ l i = if (scriptD δ).1 ≠ 0 then ((scriptD δ).1, (scriptD δ).2.2) else (0, setD (scriptD δ).2.2 x ((bytesD c).take i.toNat, [])) := by unfold cutD; rw [hp]; simp only [hc]; rw [if_neg (by omega)]
  refine c129 U.1 O.sc fun h15 X15 e15 => ?_
  refine Br.eq (fun he => ⟨by omega, by omega, ?_⟩) fun he => ?_
  rotate_left 1
  · have := k h15 _ (by rw [hcr, if_pos he]; exact X15) (D2.trans (DStp.of _ e15))
    rw [hcr, if_pos he] at this; exact this
  rw [hcr, if_neg (fun y => y he)] at k
  rw [he]
  have Y := BtR.stab.go e15 (fun j hj hm => U.1.no (by rw [show j = d from hj] at hm; exact hm)) (fun _ x => x) (btOf M o2 f2.new)
  have hsub := Y.arr.sub (Nat.zero_le i.toNat) (by omega) (m := s.cap) (by omega)
  rw [List.drop_zero] at hsub
  have Q : FilQ h15 (grow M h' h13) (s.sub 1 0 i.toNat s.cap, ⟨none, 0, 0⟩) ((bytesD c).take i.toNat, []) := ⟨⟨hsub, fun b off hb => ?_, by show i.toNat - 0 ≤ s.cap - 0; omega⟩, Lst.nil 2 oF WrQ _ _⟩
  · refine c140 X15 (by rw [(scriptD_keep δ).2.2]; exact ltOf hc) (p := (s.sub 1 0 i.toNat s.cap, ⟨none, 0, 0⟩)) Q (by rw [(scriptD_keep δ).2.2]; have := O.fn; omega) fun h3 M3 X3 D3 => k h3 M3 X3 ((D2.trans (DStp.of _ e15)).trans D3)
  · unfold Slc.sub at hb; simp only at hb
    split at hb
    · exact Y.m b off hb
    · cases hs : s.a with
      | none => rw [hs] at hb; cases hb
      | some p => obtain ⟨b', o⟩ := p; rw [hs] at hb; cases hb; exact Y.m _ _ hs

end Go.V.YtdeihieblljfcaaGreat
/-! The document's disk: Flip, what is read, how much is used. -/
namespace Go.V.YtdeihieblljfcaaGreat
open Go Go.V

def flipB (c : UInt8) (k : Int) : UInt8 := UInt8.ofNat (bitop .u8 .xor (c.toNat : Int) (shiftL .u8 1 k)).toNat
def flipT (l : Tx) (i : Int) : Tx := l.set (i / 8).toNat (flipB (l.getD (i / 8).toNat 0) (i % 8))
theorem flipT_len (l : Tx) (i : Int) : (flipT l i).length = l.length := by unfold flipT; simp
theorem flipB_eq (c : UInt8) (k : Int) : bitop .u8 .xor (c.toNat : Int) (shiftL .u8 1 k) = ((flipB c k).toNat : Int) := by
  have h : ∀ a b : Int, 0 ≤ bitop .u8 .xor a b ∧ bitop .u8 .xor a b < 256 := fun a b => by
    unfold bitop; simp only; rw [IntKind.wrap_u8]; omega
  have := h (c.toNat : Int) (shiftL .u8 1 k)
  unfold flipB
  rw [UInt8.toNat_ofNat']
  omega

def flipD (δ : Dc) (l : Tx) (i : Int) : Int × Dc := match fileD δ l with
  | (none, e) => (e, δ)
  | (some x, _) => match δ.files[x]? with
    | none => (6, δ)
    | some c => if c.2 ≠ [] then (8, δ) else if i < 0 ∨ 8 * (c.1.length : Int) ≤ i then (1, δ) else (0, setD δ x (flipT c.1 i, []))
theorem c84 {h : Heap} {M : Bl} {d : Nat} {δ : Dc} (X : DD h M d δ) {n : Nat} (O : OkD δ n) (F : FilesOk δ) (hn : n ≤ 2199023255552) {l : Tx} (hl : l.length < 4611686018427387904) {i : Int} (hi1 : -9223372036854775808 ≤ i) (hi2 : i ≤ 9223372036854775807) {R : Int → Heap → Prop}
    (k : ∀ h' M', DD h' M' d (flipD δ l i).2 → DStp M h M' h' d → R (flipD δ l i).1 h') : Call Go.Proofs.Tryz.prog 84 [.lf (.ptr (some (d, 0))), .lf (.str (tx l)), .lf (.int .i64 i)] h [.one (.int .i64)] R := by
  have stay : ∀ e h', flipD δ l i = (e, δ) → Ext0 h h' → R e h' := fun e h' hc e0 => by
    have := k h' M (by rw [hc]; exact X.ext0 e0) (DStp.of0 M d e0)
    rwa [hc] at this
  refine ok84 (c138 X O.W hl (fun e h' hp he e0 => Br.ne (fun _ => stay e h' (by unfold flipD; rw [hp]) e0) fun x => absurd x he) fun x h' hp e0 => Br.ne (fun x => absurd rfl x) fun _ => ?_)
  obtain ⟨c, hc, fo⟩ := F l x hp
  have X0 := X.ext0 e0
  obtain ⟨sd, sf, kb, A, B⟩ := X0.ex
  refine NilC.mk rfl ⟨sf, kb.cell rfl, Lst.ix B rfl hc fun q y off hq hcq => ⟨_, _, hcq, New.mk fun b10 h11 hb10 hs11 e11 k11 => Set.mk fun h12 hs12 e12 k12 => ?_⟩⟩
  have E12 : Ext0 h' h12 := e11.tmp e12 (by omega)
  have hwl := Lst.len hq.2
  have hal := hq.1.arr.len
  have hfl : c.1.length ≤ 268435456 := Nat.le_trans (appl_len fo.ch).1 fo.len
  have hfd : flipD δ l i = if c.2 ≠ [] then (8, δ) else if i < 0 ∨ 8 * (c.1.length : Int) ≤ i then (1, δ) else (0, setD δ x (flipT c.1 i, [])) := by unfold flipD; rw [hp]; simp only [hc]
  refine Br.dec (fun hgt => stay 8 h12 ?_ (e0.trans E12)) fun hle => ?_
  · rw [hfd, if_pos]; intro e; rw [e] at hwl; simp at hwl; omega
  have hw0 : c.2 = [] := List.length_eq_zero_iff.1 (by omega)
  rw [if_neg (fun z => z hw0)] at hfd
  refine ⟨fun b hh => hh = h12 ∧ b = decide (i < 0 ∨ 8 * (c.1.length : Int) ≤ i), Br.dec (fun hneg => ⟨rfl, (decide_eq_true (.inl hneg)).symm⟩) fun hge => ⟨fun z => (by cases z), rfl, ?_⟩, ?_⟩
  · have hd : Int.tdiv i 8 = i / 8 := Int.tdiv_eq_ediv_of_nonneg (by omega)
    rw [hd, wi64 (by omega) (by omega), hal]
    exact decide_eq_decide.2 (by omega)
  rintro b h15 ⟨rfl, rfl⟩
  refine Br.mk (fun hb => stay 1 h15 ?_ (e0.trans E12)) fun hb => ?_
  · rw [hfd, if_pos (of_decide_eq_true hb)]
  have hin := of_decide_eq_false hb
  rw [if_neg hin] at hfd
  have hd : Int.tdiv i 8 = i / 8 := Int.tdiv_eq_ediv_of_nonneg (by omega)
  have hm : Int.tmod i 8 = i % 8 := Int.tmod_eq_emod_of_nonneg (by omega)
  rw [hd, hm, wi64 (n := i / 8) (by omega) (by omega), wu64 (n := i % 8) (by omega) (by omega)]
  have X12 := X0.ext0 E12
  have Q12 : FilQ h15 M q c := FilQ.stab.go E12 (fun _ x => x.elim) (fun _ x => x) hq
  refine New.mk fun b16 h17 hb16 hs17 e17 k17 => ?_
  refine AppC.grow dF_sized (by decide) rfl (Own.new dF_sized (l := []) k17) (Q12.1.arr.ext0 e17) (by simp; omega) fun s18 h19 o19 g19 => ?_
  rw [List.nil_append] at o19
  have f17 : Fresh h15 h17 ⟨some (b16, 0), 0, 0⟩ := ⟨e17, fun b off x => by cases x; omega⟩
  have f19 := f17.grow g19
  have z19 := f19.ext.size
  have hj : i / 8 = ((i / 8).toNat : Int) := by omega
  have hjl : (i / 8).toNat < c.1.length := by omega
  have hget := List.getElem?_eq_getElem hjl
  refine ⟨f17.keep g19 (by omega), fun z => (by cases z), fun z => (by cases z), ?_⟩
  refine (o19.arr dF_sized).ix hj hget fun b20 b21 hcell => ⟨_, hcell, fun z => (by cases z), by omega, ?_⟩
  refine IxC.set dF_sized o19 hj hjl (x := flipB c.1[(i / 8).toNat] (i % 8)) (by rw [flipB_eq]; rfl) fun h25 hs25 o25 e25 => ?_
  have hft : c.1.set (i / 8).toNat (flipB c.1[(i / 8).toNat] (i % 8)) = flipT c.1 i := by
    unfold flipT; rw [List.getD_eq_getElem?_getD, hget, Option.getD_some]
  rw [hft] at o25
  have E25 : Ext0 h15 h25 := f19.ext.trans' e25 fun j hj ⟨off, x⟩ => by have := f19.new _ _ x; omega
  have U := X12.up E25
  have Q : FilQ h25 (grow M h15 h25) (s18, ⟨none, 0, 0⟩) (flipT c.1 i, []) := ⟨btOf M o25 f19.new, Lst.nil 2 oF WrQ _ _⟩
  rw [hfd] at k
  exact c140 U.1 (ltOf hc) (p := (s18, ⟨none, 0, 0⟩)) Q (by have := O.fn; omega) fun h3 M3 X3 D3 => k h3 M3 X3 (((DStp.of0 M d (e0.trans E12)).trans U.2).trans D3)

def readD (δ : Dc) (l : Tx) : Tx × Int := match fileD δ l with
  | (none, e) => ([], e)
  | (some x, _) => match δ.files[x]? with
    | none => ([], 6)
    | some c => (bytesD c, 0)
section
variable {h : Heap} {M : Bl} {d : Nat} {δ : Dc}
theorem c154 (X : DD h M d δ) (W : WD δ) (F : FilesOk δ) {l : Tx} (hl : l.length < 4611686018427387904) {R : Slc → Int → Heap → Prop}
    (k : ∀ s h', Own 1 dF h' s (readD δ l).1 → Fresh h h' s → ((readD δ l).2 ≠ 0 → s = ⟨none, 0, 0⟩) → R s (readD δ l).2 h') : Call Go.Proofs.Tryz.prog 154 [.lf (.ptr (some (d, 0))), .lf (.str (tx l))] h [.one .slc, .one (.int .i64)] R := by
  refine ok154 (c138 X W hl (fun e h' hp he e0 => Br.ne (fun _ => ?_) fun x => absurd x he) fun x h' hp e0 => Br.ne (fun x => absurd rfl x) fun _ => ?_)
  · have hc : readD δ l = ([], e) := by unfold readD; rw [hp]
    have := k ⟨none, 0, 0⟩ h' (by rw [hc]; exact Own.nil 1 dF h') ⟨e0, fun b off y => by cases y⟩ fun _ => rfl
    rwa [hc] at this
  obtain ⟨c, hc, fo⟩ := F l x hp
  have X0 := X.ext0 e0
  have hr : readD δ l = (bytesD c, 0) := by unfold readD; rw [hp]; simp only [hc]
  obtain ⟨sd, sf, kb, A, B⟩ := X0.ex
  refine NilC.mk rfl ⟨sf, kb.cell rfl, Lst.ix B rfl hc fun q y off hq hcq => ⟨_, _, hcq, c139 hq X0.lt fo.ch fo.len (by have := fo.few; omega) fun s h2 o2 f2 => ?_⟩⟩
  have := k s h2 (by rw [hr]; exact o2) ⟨e0.trans f2.ext, fun b off y => Nat.le_trans e0.size (f2.new b off y)⟩ (by rw [hr]; intro z; exact absurd rfl z)
  rwa [hr] at this

def readAtD (δ : Dc) (l : Tx) (i n : Int) : Tx × Int :=
  if (readD δ l).2 ≠ 0 then ([], (readD δ l).2) else if n < 0 ∨ i < 0 ∨ i > (readD δ l).1.length then ([], 1)
  else (((readD δ l).1.drop i.toNat).take n.toNat, 0)
theorem c157 (X : DD h M d δ) (W : WD δ) (F : FilesOk δ) {l : Tx} (hl : l.length < 4611686018427387904) {i n : Int} {R : Slc → Int → Heap → Prop}
    (k : ∀ s h', Arr 1 dF h' s (readAtD δ l i n).1 → Ext0 h h' → R s (readAtD δ l i n).2 h') : Call Go.Proofs.Tryz.prog 157 [.lf (.ptr (some (d, 0))), .lf (.str (tx l)), .lf (.int .i64 i), .lf (.int .i64 n)] h [.one .slc, .one (.int .i64)] R := by
  refine ok157 (c154 X W F hl fun s h2 o f hz => ?_)
  have hsl := o.len
  have hcap := o.lec
  have bad : ∀ e, readAtD δ l i n = ([], e) → R ⟨none, 0, 0⟩ e h2 := fun e hr => by
    have := k ⟨none, 0, 0⟩ h2 (by rw [hr]; exact (Own.nil 1 dF h2).arr dF_sized) f.ext
    rwa [hr] at this
  generalize hrd : readD δ l = r at *
  obtain ⟨b, e⟩ := r
  simp only at o hsl hz ⊢
  refine Br.ne (fun he => bad e (by unfold readAtD; rw [hrd]; exact if_pos he)) fun he => ?_
  have hra : readAtD δ l i n = if n < 0 ∨ i < 0 ∨ i > b.length then ([], 1) else ((b.drop i.toNat).take n.toNat, 0) := by unfold readAtD; rw [hrd]; exact if_neg (fun z => z he)
  refine Br.dec (fun z => bad 1 (by rw [hra, if_pos (.inl z)])) fun z1 => Br.dec (fun z => bad 1 (by rw [hra, if_pos (.inr (.inl z))])) fun z2 => Br.dec (fun z => bad 1 (by rw [hra, if_pos (.inr (.inr (by omega)))])) fun z3 => ⟨by omega, by omega, ?_⟩
  rw [if_neg (by omega)] at hra
  have A := (o.arr dF_sized).sub (lo := i.toNat) (hi := s.len) (m := s.cap) (by omega) (by omega) (by omega)
  rw [hsl, List.take_length, ← hsl] at A
  have hl2 : (s.sub 1 i.toNat s.len s.cap).len = s.len - i.toNat := rfl
  have hc2 : (s.sub 1 i.toNat s.len s.cap).cap = s.cap - i.toNat := rfl
  refine Br.dec (fun hgt => ⟨by omega, by rw [hc2]; omega, ?_⟩) fun hle => ?_
  · have A2 := A.sub (Nat.zero_le n.toNat) (by rw [List.length_drop]; omega) (m := (s.sub 1 i.toNat s.len s.cap).cap) (by rw [hc2]; omega)
    rw [List.drop_zero] at A2
    have := k _ h2 (by rw [hra]; exact A2) f.ext
    rwa [hra] at this
  · have := k _ h2 (by rw [hra]; show Arr 1 dF h2 _ ((b.drop i.toNat).take n.toNat); rw [List.take_of_length_le (by rw [List.length_drop]; omega)]; exact A) f.ext
    rwa [hra] at this

def unsD (δ : Dc) (l : Tx) : Int × Int := match fileD δ l with
  | (none, e) => (0, e)
  | (some x, _) => match δ.files[x]? with
    | none => (0, 6)
    | some c => (unsW c.2, 0)
theorem c159 (X : DD h M d δ) (W : WD δ) (F : FilesOk δ) {l : Tx} (hl : l.length < 4611686018427387904) {R : Int → Int → Heap → Prop}
    (k : ∀ h', Ext0 h h' → R (unsD δ l).1 (unsD δ l).2 h') : Call Go.Proofs.Tryz.prog 159 [.lf (.ptr (some (d, 0))), .lf (.str (tx l))] h [.one (.int .i64), .one (.int .i64)] R := by
  refine ok159 (c138 X W hl (fun e h' hp he e0 => Br.ne (fun _ => ?_) fun x => absurd x he) fun x h' hp e0 => Br.ne (fun x => absurd rfl x) fun _ => ?_)
  · have hc : unsD δ l = (0, e) := by unfold unsD; rw [hp]
    have := k h' e0
    rwa [hc] at this
  obtain ⟨c, hc, fo⟩ := F l x hp
  have X0 := X.ext0 e0
  have hr : unsD δ l = (unsW c.2, 0) := by unfold unsD; rw [hp]; simp only [hc]
  obtain ⟨sd, sf, kb, A, B⟩ := X0.ex
  refine NilC.mk rfl ⟨sf, kb.cell rfl, Lst.ix B rfl hc fun q y off hq hcq => ⟨_, _, hcq, c152 hq X0.lt (by have := fo.few; omega) fun h2 e2 => ?_⟩⟩
  have := k h2 (e0.trans e2)
  rwa [hr] at this

def openD (δ : Dc) (l : Tx) : Int × Int := match dirE δ l with
  | (none, e) => (0, e)
  | (some i, _) => match δ.dirs[i]? with
    | none => (0, 6)
    | some p => ((p.2.length : Int) - 1, 0)
theorem c92 (X : DD h M d δ) (W : WD δ) {l : Tx} {R : Int → Int → Heap → Prop}
    (k : R (openD δ l).1 (openD δ l).2 h) : Call Go.Proofs.Tryz.prog 92 [.lf (.ptr (some (d, 0))), .lf (.str (tx l))] h [.one (.int .i64), .one (.int .i64)] R := by
  refine ok92 (c148 X W (fun e hp he => Br.ne (fun _ => ?_) fun x => absurd x he) fun i hp => Br.ne (fun x => absurd rfl x) fun _ => ?_)
  · have hc : openD δ l = (0, e) := by unfold openD; rw [hp]
    rwa [hc] at k
  obtain ⟨_, hix⟩ := dirE_some hp
  obtain ⟨ws, m, hi, hm, hml⟩ := W.now hix
  have hr : openD δ l = ((ws.length : Int) - 1, 0) := by unfold openD; rw [hp]; simp only [hi]
  have hwl := W.wl _ (List.mem_of_getElem? hi)
  simp only at hwl
  obtain ⟨sd, sf, kb, A, B⟩ := X.ex
  refine NilC.mk rfl ⟨sd, kb.cell rfl, Lst.ix A rfl hi fun q y off hq hcq => ⟨q.2, ⟨hcq.2.1, trivial⟩, ?_⟩⟩
  have hql := Lst.len hq.2
  simp only at hql
  rw [hql, wi64 (by omega) (by omega)]
  rwa [hr] at k

def listD (δ : Dc) (l : Tx) : List Tx × Int := match dirE δ l with
  | (none, e) => ([], e)
  | (some i, _) => match nowD δ i with
    | none => ([], 6)
    | some m => (m.map (·.1), 0)
theorem c161 (X : DD h M d δ) (W : WD δ) {l : Tx} {R : Slc → Int → Heap → Prop}
    (k : ∀ s h', Arr 1 sF h' s (listD δ l).1 → inM M s → Ext0 h h' → R s (listD δ l).2 h') : Call Go.Proofs.Tryz.prog 161 [.lf (.ptr (some (d, 0))), .lf (.str (tx l))] h [.one .slc, .one (.int .i64)] R := by
  refine ok161 (c148 X W (fun e hp he => Br.ne (fun _ => ?_) fun x => absurd x he) fun i hp => Br.ne (fun x => absurd rfl x) fun _ => ?_)
  · have hc : listD δ l = ([], e) := by unfold listD; rw [hp]
    have := k ⟨none, 0, 0⟩ h (by rw [hc]; exact (Own.nil 1 sF h).arr sF_sized) (fun b off y => by cases y) (Ext.refl _ _)
    rwa [hc] at this
  obtain ⟨_, hix⟩ := dirE_some hp
  obtain ⟨ws, m, hi, hm, hml⟩ := W.now hix
  have hr : listD δ l = (m.map (·.1), 0) := by unfold listD; rw [hp]; simp only [hm]
  refine c130 X hm W.bw fun p h2 N e2 => ?_
  have := k p.1 h2 (by rw [hr]; exact N.a) N.ma e2
  rwa [hr] at this

def sameD (δ : Dc) (l l' : Tx) : Bool := match fileD δ l, fileD δ l' with
  | (some x, _), (some y, _) => decide (x = y)
  | _, _ => false
theorem c163 (X : DD h M d δ) (W : WD δ) {l l' : Tx} (hl : l.length < 4611686018427387904) (hl' : l'.length < 4611686018427387904) {R : Bool → Heap → Prop}
    (k : ∀ h', Ext0 h h' → R (sameD δ l l') h') : Call Go.Proofs.Tryz.prog 163 [.lf (.ptr (some (d, 0))), .lf (.str (tx l)), .lf (.str (tx l'))] h [.one .bool] R := by
  refine ok163 (c138 X W hl (fun e h1 hp he e1 => ?_) fun x h1 hp e1 => ?_)
  · have no : ∀ h2, Ext0 h1 h2 → R false h2 := fun h2 e2 => by
      have := k h2 (e1.trans e2)
      have hs : sameD δ l l' = false := by unfold sameD; rw [hp]
      rwa [hs] at this
    exact c138 (X.ext0 e1) W hl' (fun e' h2 _ _ e2 => Br.f (by simpa using he) (no h2 e2)) fun y h2 _ e2 => Br.f (by simpa using he) (no h2 e2)
  · refine c138 (X.ext0 e1) W hl' (fun e' h2 hp2 he2 e2 => Br.t rfl (Br.f (by simpa using he2) ?_)) fun y h2 hp2 e2 => Br.t rfl (Br.t rfl ?_)
    · have := k h2 (e1.trans e2)
      have hs : sameD δ l l' = false := by unfold sameD; rw [hp, hp2]
      rwa [hs] at this
    · have := k h2 (e1.trans e2)
      have hs : sameD δ l l' = decide (x = y) := by unfold sameD; rw [hp, hp2]
      have he : ((x : Int) == (y : Int)) = decide (x = y) := by rw [Bool.eq_iff_iff]; simp; omega
      rw [he, ← hs]; exact this
end

def addI (a : List Nat) (x : Nat) : List Nat := if x ∈ a then a else a ++ [x]
def allD (δ : Dc) : List Nat := (((List.range δ.dirs.length).map fun i => ((nowD δ i).getD []).map (·.2)).flatten).foldl addI []
theorem addI_len (l : List Nat) : ∀ a : List Nat, (l.foldl addI a).length ≤ a.length + l.length := by
  induction l with
  | nil => intro a; exact Nat.le_refl _
  | cons x l ih =>
    intro a
    have h1 := ih (addI a x)
    have h2 : (addI a x).length ≤ a.length + 1 := by unfold addI; split <;> simp
    simp only [List.foldl_cons, List.length_cons]; omega

theorem c199 {h : Heap} {s : Slc} {l : List Nat} (A : Arr 1 jF h s l) (hl : l.length ≤ 4611686018427387904) {x : Nat} {R : Bool → Heap → Prop} (k : R (decide (x ∈ l)) h) :
    Call Go.Proofs.Tryz.prog 199 [.lf (.slc s), .lf (.int .i64 (x : Int))] h [.one .bool] R := by
  have hsl := A.len
  refine ok199 ⟨fun i hh d => ∃ n : Nat, i = (n : Int) ∧ n ≤ l.length ∧ hh = h ∧ x ∉ l.take n ∧ d = l.length - n, ⟨_, 0, rfl, Nat.zero_le _, rfl, by simp, rfl⟩, ?_⟩
  rintro i h3 d ⟨n, rfl, hn, rfl, hx, rfl⟩
  refine Br.dec (fun hlt => ?_) fun hge => ?_
  · have hlt' : n < l.length := by omega
    have hget := List.getElem?_eq_getElem hlt'
    refine A.ix rfl hget fun b off hc => ⟨_, hc, Br.eq (fun he => ?_) fun he => ⟨l.length - (n + 1), by omega, n + 1, by rw [wi64 (by omega) (by omega)]; rfl, by omega, rfl, ?_, rfl⟩⟩
    · have : x ∈ l := by rw [show x = l[n] by omega]; exact List.getElem_mem hlt'
      rwa [decide_eq_true this] at k
    · rw [List.take_add_one, hget]
      intro hm
      rcases List.mem_append.1 hm with h | h
      · exact hx h
      · simp at h; exact he (by rw [h])
  · have : n = l.length := by omega
    rw [this, List.take_length] at hx
    rwa [decide_eq_false hx] at k

theorem c151 {h : Heap} {M : Bl} {d : Nat} {δ : Dc} (X : DD h M d δ) (W : WD δ) {R : Slc → Heap → Prop}
    (k : ∀ s h', Own 1 jF h' s (allD δ) → Fresh h h' s → R s h') : Call Go.Proofs.Tryz.prog 151 [.lf (.ptr (some (d, 0)))] h [.one .slc] R := by
  have few := W.few
  let P : Nat → List Nat := fun n => (((List.range n).map fun i => ((nowD δ i).getD []).map (·.2)).flatten).foldl addI []
  have PS : ∀ n, P (n + 1) = (((nowD δ n).getD []).map (·.2)).foldl addI (P n) := fun n => by
    show ((List.map _ (List.range (n + 1))).flatten).foldl addI [] = _
    rw [List.range_succ, List.map_append, List.flatten_append, List.foldl_append]; simp; rfl
  have nowl : ∀ i, i < δ.dirs.length → ∃ m, nowD δ i = some m ∧ m.length ≤ 1024 := fun i hi => by
    have hw := List.getElem?_eq_getElem hi
    have hmem := List.mem_of_getElem? hw
    have hne := W.ways _ hmem
    cases hg : (δ.dirs[i].2).getLast? with
    | none => rw [List.getLast?_eq_none_iff] at hg; exact absurd hg hne
    | some m => exact ⟨m, by unfold nowD; rw [hw]; exact hg, W.nl _ hmem m (List.mem_of_getLast? hg)⟩
  have PL : ∀ n, n ≤ δ.dirs.length → (P n).length ≤ 1024 * n := fun n => by
    induction n with
    | zero => intro _; exact Nat.le_refl _
    | succ n ih =>
      intro hn
      obtain ⟨m, hm, hml⟩ := nowl n (by omega)
      have h1 := ih (by omega)
      have h2 := addI_len (((nowD δ n).getD []).map (·.2)) (P n)
      rw [← PS] at h2
      rw [hm] at h2
      simp at h2; omega
  refine ok151 ⟨fun s i hh dd => ∃ n : Nat, i = (n : Int) ∧ n ≤ δ.dirs.length ∧ Own 1 jF hh s (P n) ∧ Fresh h hh s ∧ dd = δ.dirs.length - n, ⟨_, 0, rfl, Nat.zero_le _, Own.nil 1 jF h, Fresh.nil 0, rfl⟩, ?_⟩
  rintro s i h4 dd ⟨n, rfl, hn, o4, f4, rfl⟩
  have X4 := X.ext0 f4.ext
  obtain ⟨sd, sf, kb, A, B⟩ := X4.ex
  have hal := Lst.len A
  refine NilC.mk rfl ⟨sd, kb.cell rfl, Br.dec (fun hlt => ?_) fun hge => ?_⟩
  · have hlt' : n < δ.dirs.length := by omega
    obtain ⟨m, hm, hml⟩ := nowl n hlt'
    have h1 := PL n hn
    refine c130 X4 hm W.bw fun p h11 N e11 => ?_
    have hpl := N.b.len
    rw [List.length_map] at hpl
    refine ⟨fun s i hh dd => ∃ j : Nat, i = (j : Int) ∧ j ≤ m.length ∧ Own 1 jF hh s (((m.map (·.2)).take j).foldl addI (P n)) ∧ Fresh h hh s ∧ NmR hh M p m ∧ dd = m.length - j, ⟨_, 0, rfl, Nat.zero_le _, by rw [List.take_zero]; exact o4.ext0 e11, f4.ext0 e11, N, rfl⟩, ?_⟩
    rintro s2 i2 h16 d2 ⟨j, rfl, hj, o16, f16, N16, rfl⟩
    have h2 := addI_len ((m.map (·.2)).take j) (P n)
    rw [List.length_take, List.length_map] at h2
    refine Br.dec (fun hlt2 => ?_) fun hge2 => ?_
    · have hlt2' : j < m.length := by omega
      have hget : (m.map (·.2))[j]? = some m[j].2 := by rw [List.getElem?_map, List.getElem?_eq_getElem hlt2']; rfl
      have hst : ((m.map (·.2)).take (j + 1)).foldl addI (P n) = addI (((m.map (·.2)).take j).foldl addI (P n)) m[j].2 := by rw [List.take_add_one, hget, List.foldl_append]; rfl
      have Nb := N16.b
      refine Nb.ix rfl hget fun b off hc => ⟨_, hc, c199 (o16.arr jF_sized) (by omega) (Br.not (fun hf => ?_) fun ht => ?_)⟩
      · have hni : m[j].2 ∉ ((m.map (·.2)).take j).foldl addI (P n) := of_decide_eq_false hf
        refine Nb.ix rfl hget fun b off hc => ⟨_, hc, New.mk fun b26 h27 hb26 hs27 e27 k27 => ?_⟩
        refine AppC.grow jF_sized (by decide) rfl (o16.ext0 e27) ((Own.new jF_sized (l := [m[j].2]) k27).arr jF_sized) (by simp; omega) fun s28 h29 o29 g29 => ⟨m.length - (j + 1), by omega, j + 1, by rw [wi64 (by omega) (by omega)]; rfl, by omega, ?_, (f16.ext0 e27).grow g29, ?_, rfl⟩
        · rw [hst, show addI (((m.map (·.2)).take j).foldl addI (P n)) m[j].2 = ((m.map (·.2)).take j).foldl addI (P n) ++ [m[j].2] from if_neg hni]; exact o29
        · exact NmR.stab.go g29.ext (fun q ⟨off, x⟩ => X.nM (f16.new _ _ x)) (fun _ x => x) (NmR.stab.go e27 (fun _ x => x.elim) (fun _ x => x) N16)
      · have hin : m[j].2 ∈ ((m.map (·.2)).take j).foldl addI (P n) := of_decide_eq_true ht
        refine ⟨m.length - (j + 1), by omega, j + 1, by rw [wi64 (by omega) (by omega)]; rfl, by omega, ?_, f16, N16, rfl⟩
        rw [hst, show addI (((m.map (·.2)).take j).foldl addI (P n)) m[j].2 = ((m.map (·.2)).take j).foldl addI (P n) from if_pos hin]; exact o16
    · have : j = m.length := by omega
      subst this
      rw [List.take_of_length_le (by simp)] at o16
      refine ⟨δ.dirs.length - (n + 1), by omega, n + 1, by rw [wi64 (by omega) (by omega)]; rfl, by omega, ?_, f16, rfl⟩
      rw [PS, hm]; exact o16
  · have : n = δ.dirs.length := by omega
    subst this
    exact k s h4 o4 f4

end Go.V.YtdeihieblljfcaaGreat
