/- This text proves a part of the laws of seat YtdeihieblljfcaaGreat, under no condition: F3j F3k F3l. -/
import Derived.Test.YtdeihieblljfcaaGreatPW
import Derived.Test.YtdeihieblljfcaaGreatPS
set_option linter.unusedVariables false
set_option linter.unusedSimpArgs false
/-! The document's disk: Used, Write, Append. -/
namespace Go.V.YtdeihieblljfcaaGreat
open Go Go.V

theorem _root_.Go.V.Arr.extN {α : Type} {sz : Nat} {g : α → List Lf} {S : Nat → Prop} {h h' : Heap} {s : Slc} {l : List α} (a : Arr sz g h s l) (e : Ext S h h') (hs : l ≠ [] → ¬ s.inS S) : Arr sz g h' s l :=
  ⟨a.len, a.ne, fun b off hb i x hx => (a.at_ b off hb i x hx).ext e fun k => hs (fun z => by rw [z] at hx; cases hx) ⟨b, off, hb, k⟩, a.pl⟩
theorem _root_.Go.V.Arr.lt1 {α : Type} {g : α → Lf} {h : Heap} {s : Slc} {l : List α} (a : Arr 1 (fun x => [g x]) h s l) (hl : l ≠ []) : ∀ b off, s.a = some (b, off) → b < h.size := fun b off hb => by
  cases l with
  | nil => exact absurd rfl hl
  | cons x l => exact (a.at_ b off hb 0 x rfl).lt
def FilesAt (δ : Dc) : Prop := ∀ i m p, nowD δ i = some m → p ∈ m → ∃ c, δ.files[p.2]? = some c ∧ FOk c
theorem FilesAt.ok {δ : Dc} (F : FilesAt δ) : FilesOk δ := fun l x h => by
  obtain ⟨i, n, m, _, hm, hk⟩ := fileD_some h
  exact F i m _ hm (look_mem hk)
theorem FilesAt.script {δ : Dc} (F : FilesAt δ) : FilesAt (scriptD δ).2.2 := fun i m p hm hp => by
  rw [nowD_script] at hm; rw [(scriptD_keep δ).2.2]; exact F i m p hm hp

theorem foldl_addI_mem {x : Nat} : ∀ (l a : List Nat), x ∈ l.foldl addI a → x ∈ a ∨ x ∈ l
  | [], a, h => .inl h
  | y :: l, a, h => by
    rcases foldl_addI_mem l (addI a y) h with h | h
    · unfold addI at h
      split at h
      · exact .inl h
      · rcases List.mem_append.1 h with h | h
        · exact .inl h
        · exact .inr (by rw [List.mem_singleton.1 h]; exact List.mem_cons_self)
    · exact .inr (List.mem_cons_of_mem _ h)
theorem allD_at {δ : Dc} {x : Nat} (h : x ∈ allD δ) : ∃ i m p, nowD δ i = some m ∧ p ∈ m ∧ p.2 = x := by
  unfold allD at h
  rcases foldl_addI_mem _ _ h with h | h
  · cases h
  · obtain ⟨L, hL, hx⟩ := List.mem_flatten.1 h
    obtain ⟨i, _, rfl⟩ := List.mem_map.1 hL
    obtain ⟨p, hp, rfl⟩ := List.mem_map.1 hx
    cases hm : nowD δ i with
    | none => rw [hm] at hp; simp at hp
    | some m => rw [hm] at hp; exact ⟨i, m, p, hm, hp, rfl⟩
theorem flat_le {α : Type} {k : Nat} : ∀ L : List (List α), (∀ l ∈ L, l.length ≤ k) → L.flatten.length ≤ L.length * k
  | [], _ => by simp
  | l :: L, h => by
    have h1 := h l List.mem_cons_self
    have h2 := flat_le L fun m hm => h m (List.mem_cons_of_mem _ hm)
    rw [List.flatten_cons, List.length_append, List.length_cons, Nat.add_mul]; omega
theorem allD_len {δ : Dc} (W : WD δ) : (allD δ).length ≤ 65536 := by
  have h1 := addI_len (((List.range δ.dirs.length).map fun i => ((nowD δ i).getD []).map (·.2)).flatten) []
  have h2 := flat_le (k := 1024) ((List.range δ.dirs.length).map fun i => ((nowD δ i).getD []).map (·.2)) fun l hl => by
    obtain ⟨i, _, rfl⟩ := List.mem_map.1 hl
    cases hm : nowD δ i with
    | none => simp
    | some m =>
      obtain ⟨a, ws, hd, hw⟩ := nowD_some hm
      simpa using W.nl _ (List.mem_of_getElem? hd) m (List.mem_of_getLast? hw)
  rw [List.length_map, List.length_range] at h2
  have := W.few
  have : δ.dirs.length * 1024 ≤ 64 * 1024 := Nat.mul_le_mul_right _ this
  show (List.foldl addI [] _).length ≤ _
  rw [List.length_nil, Nat.zero_add] at h1; omega

def sizeD (δ : Dc) (x : Nat) : Nat := ((δ.files[x]?).map fun c => (bytesD c).length).getD 0
def usedD (δ : Dc) : Nat := ((allD δ).map (sizeD δ)).sum
theorem sizeD_le {δ : Dc} (F : FilesAt δ) {x : Nat} (h : x ∈ allD δ) : sizeD δ x ≤ 268435456 := by
  obtain ⟨i, m, p, hm, hp, rfl⟩ := allD_at h
  obtain ⟨c, hc, fo⟩ := F i m p hm hp
  unfold sizeD; rw [hc]; exact fo.len
theorem usedD_le {δ : Dc} (W : WD δ) (F : FilesAt δ) : usedD δ ≤ 17592186044416 := by
  have h := sum_le (l := (allD δ).map (sizeD δ)) (m := 268435456) fun y hy => by
    obtain ⟨x, hx, rfl⟩ := List.mem_map.1 hy
    exact sizeD_le F hx
  rw [List.length_map] at h
  have : (allD δ).length * 268435456 ≤ 65536 * 268435456 := Nat.mul_le_mul_right _ (allD_len W)
  unfold usedD; omega

theorem c88 {h : Heap} {M : Bl} {d : Nat} {δ : Dc} (X : DD h M d δ) (W : WD δ) (F : FilesAt δ) {R : Int → Heap → Prop} (k : ∀ h', Ext0 h h' → R (usedD δ : Int) h') :
    Call Go.Proofs.Tryz.prog 88 [.lf (.ptr (some (d, 0)))] h [.one (.int .i64)] R := by
  refine ok88 (c151 X W fun s h1 o f => ?_)
  have hol := o.len
  have hal := allD_len W
  have hus := usedD_le W F
  refine ⟨fun a i hh dd => ∃ n : Nat, i = (n : Int) ∧ n ≤ (allD δ).length ∧ a = ((((allD δ).take n).map (sizeD δ)).sum : Int) ∧ Ext0 h1 hh ∧ dd = (allD δ).length - n, ⟨_, 0, rfl, Nat.zero_le _, rfl, Ext.refl _ _, rfl⟩, ?_⟩
  rintro a i h6 dd ⟨n, rfl, hn, rfl, e6, rfl⟩
  refine Br.dec (fun hlt => ?_) fun hge => ?_
  · have hlt' : n < (allD δ).length := by omega
    have hget := List.getElem?_eq_getElem hlt'
    obtain ⟨ii, m, p, hm, hp, hpe⟩ := allD_at (List.getElem_mem hlt')
    obtain ⟨c, hc, fo⟩ := F ii m p hm hp
    rw [hpe] at hc
    have X6 := X.ext0 (f.ext.trans e6)
    obtain ⟨sd, sf, kb, A, B⟩ := X6.ex
    refine NilC.mk rfl ⟨sf, kb.cell rfl, ((o.ext0 e6).arr jF_sized).ix rfl hget fun b off hcell => ⟨_, hcell, Lst.ix B rfl hc fun q y off' hq hcq => ⟨_, _, hcq, ?_⟩⟩⟩
    refine c139 hq X6.lt fo.ch fo.len (by have := fo.few; omega) fun s18 h19 o19 f19 => ⟨(allD δ).length - (n + 1), by omega, n + 1, by rw [wi64 (by omega) (by omega)]; rfl, by omega, ?_, e6.trans f19.ext, rfl⟩
    have hsz : sizeD δ (allD δ)[n] = s18.len := by unfold sizeD; rw [hc, o19.len]; rfl
    have h2 : (((allD δ).take (n + 1)).map (sizeD δ)).sum = (((allD δ).take n).map (sizeD δ)).sum + s18.len := by
      rw [List.take_add_one, hget, List.map_append, List.sum_append, ← hsz]; simp
    have h3 : (((allD δ).take (n + 1)).map (sizeD δ)).sum ≤ usedD δ := by
      unfold usedD
      conv => rhs; rw [← List.take_append_drop (n + 1) (allD δ)]
      rw [List.map_append, List.sum_append]; omega
    rw [wi64 (by omega) (by omega)]; omega
  · have : n = (allD δ).length := by omega
    subst this
    rw [List.take_length]
    exact k h6 (f.ext.trans e6)

def putD (δ : Dc) (x : Nat) (i : Int) (b : Tx) : Int × Dc := match δ.files[x]? with
  | none => (6, δ)
  | some c =>
    if i < 0 ∨ i > (bytesD c).length then (1, δ)
    else if (b.length : Int) - ((bytesD c).length - i) > 0 ∧ ((b.length : Int) - ((bytesD c).length - i) > δ.quota ∨ (usedD δ : Int) > δ.quota - ((b.length : Int) - ((bytesD c).length - i))) then (20, δ)
    else
      let b' := if (scriptD δ).2.1 = true then b.take (b.length / 2) else b
      if ((scriptD δ).1 = 0 ∨ (scriptD δ).2.1 = true) ∧ b' ≠ [] then ((scriptD δ).1, setD (scriptD δ).2.2 x (c.1, c.2 ++ [(i.toNat, b')])) else ((scriptD δ).1, (scriptD δ).2.2)
def writeD (δ : Dc) (l : Tx) (i : Int) (b : Tx) : Int × Dc := match fileD δ l with
  | (none, e) => (e, δ)
  | (some x, _) => putD δ x i b
def appendD (δ : Dc) (l : Tx) (b : Tx) : Int × Dc := match fileD δ l with
  | (none, e) => (e, δ)
  | (some x, _) => putD δ x (sizeD δ x) b

theorem c136 {h : Heap} {M : Bl} {d : Nat} {δ : Dc} (X : DD h M d δ) {n : Nat} (O : OkD δ n) (F : FilesAt δ) (hn : n ≤ 2199023255552) (hq0 : 0 ≤ δ.quota) (hq1 : δ.quota ≤ 268435456) {l : Tx} (hl : l.length < 4611686018427387904) {i : Int}
    {s : Slc} {b : Tx} (A : Arr 1 dF h s b) (hsc : s.len ≤ s.cap) (hsd : b ≠ [] → ∀ y off, s.a = some (y, off) → y ≠ d) (hb : b.length ≤ 4398046511104) {R : Int → Heap → Prop}
    (k : ∀ h' M', DD h' M' d (writeD δ l i b).2 → DStp M h M' h' d → R (writeD δ l i b).1 h') :
    Call Go.Proofs.Tryz.prog 136 [.lf (.ptr (some (d, 0))), .lf (.str (tx l)), .lf (.int .i64 i), .lf (.slc s)] h [.one (.int .i64)] R := by
  have stay : ∀ e h', writeD δ l i b = (e, δ) → Ext0 h h' → R e h' := fun e h' hc e0 => by
    have := k h' M (by rw [hc]; exact X.ext0 e0) (DStp.of0 M d e0)
    rwa [hc] at this
  refine ok136 (c138 X O.W hl (fun e h' hp he e0 => Br.ne (fun _ => stay e h' (by unfold writeD; rw [hp]) e0) fun x => absurd x he) fun x h' hp e0 => Br.ne (fun x => absurd rfl x) fun _ => ?_)
  obtain ⟨c, hc, fo⟩ := F.ok l x hp
  have X0 := X.ext0 e0
  obtain ⟨sd, sf, kb, AA, BB⟩ := X0.ex
  refine NilC.mk rfl ⟨sf, kb.cell rfl, Lst.ix BB rfl hc fun q y off hq hcq => ⟨_, _, hcq, ?_⟩⟩
  refine c139 hq X0.lt fo.ch fo.len (by have := fo.few; omega) fun s10 h11 o11 f11 => ?_
  have hl10 : s10.len = (bytesD c).length := o11.len
  have hlen : (bytesD c).length ≤ 268435456 := fo.len
  have hsl := A.len
  have e011 := e0.trans f11.ext
  have hwd : writeD δ l i b = putD δ x i b := by unfold writeD; rw [hp]
  refine ⟨fun c' hh => hh = h11 ∧ c' = decide (i < 0 ∨ i > (bytesD c).length), Br.dec (fun z => ⟨rfl, (decide_eq_true (.inl z)).symm⟩) fun z => ⟨rfl, decide_eq_decide.2 (by omega)⟩, ?_⟩
  rintro c' h14 ⟨rfl, rfl⟩
  refine Br.mk (fun z => stay 1 h14 (by rw [hwd]; unfold putD; simp only [hc]; rw [if_pos (of_decide_eq_true z)]) e011) fun z => ?_
  have hi := of_decide_eq_false z
  have hm : IntKind.wrap .i64 ((s.len : Int) - IntKind.wrap .i64 ((s10.len : Int) - i)) = (b.length : Int) - ((bytesD c).length - i) := by
    rw [wi64 (n := (s10.len : Int) - i) (by omega) (by omega), wi64 (by omega) (by omega)]; omega
  rw [hm]
  have hus := usedD_le O.W F
  have X14 := X.ext0 e011
  obtain ⟨sd2, sf2, kb2, AA2, BB2⟩ := X14.ex
  refine ⟨fun c' hh => Ext0 h14 hh ∧ c' = decide ((b.length : Int) - ((bytesD c).length - i) > 0 ∧ ((b.length : Int) - ((bytesD c).length - i) > δ.quota ∨ (usedD δ : Int) > δ.quota - ((b.length : Int) - ((bytesD c).length - i)))), ?_, ?_⟩
  · refine Br.dec (fun hpos => NilC.mk rfl ⟨_, kb2.cell rfl, Br.dec (fun hgt => ⟨Ext.refl _ _, (decide_eq_true ⟨hpos, .inl hgt⟩).symm⟩) fun hle => NilC.mk rfl ⟨_, kb2.cell rfl, c88 X14 O.W F fun h23 e23 => ⟨(kb2.ext e23).cell rfl, e23, ?_⟩⟩⟩) fun hneg => ⟨Ext.refl _ _, ?_⟩
    · rw [wi64 (by omega) (by omega)]
      exact decide_eq_decide.2 ⟨fun w => ⟨hpos, .inr w⟩, fun w => w.2.resolve_left hle⟩
    · exact (decide_eq_false fun w => hneg w.1).symm
  rintro c' h25 ⟨e25, rfl⟩
  refine Br.mk (fun z => stay 20 h25 (by rw [hwd]; unfold putD; simp only [hc]; rw [if_neg hi, if_pos (of_decide_eq_true z)]) (e011.trans e25)) fun z2 => ?_
  have hno := of_decide_eq_false z2
  have hcr : writeD δ l i b = if ((scriptD δ).1 = 0 ∨ (scriptD δ).2.1 = true) ∧ (if (scriptD δ).2.1 = true then b.take (b.length / 2) else b) ≠ [] then ((scriptD δ).1, setD (scriptD δ).2.2 x (c.1, c.2 ++ [(i.toNat, if (scriptD δ).2.1 = true then b.take (b.length / 2) else b)])) else ((scriptD δ).1, (scriptD δ).2.2) := by
    rw [hwd]; unfold putD; simp only [hc]; rw [if_neg hi, if_neg hno]
  have e025 := e011.trans e25
  refine c196 (X14.ext0 e25) O.sc fun h28 X28 e28 => ?_
  have D28 := (DStp.of0 M d e025).trans (DStp.of M e28)
  have A28 : Arr 1 dF h28 s b := (A.ext0 e025).extN e28 fun hne ⟨y, off, hy, hz⟩ => hsd hne y off hy hz
  have hk := scriptD_keep δ
  generalize hsc' : scriptD δ = a at *
  obtain ⟨e, half, δ1⟩ := a
  simp only at X28 hk hcr
  generalize hbb : (if half = true then b.take (b.length / 2) else b) = b' at hcr
  have hb'l : b'.length ≤ b.length := by rw [← hbb]; split <;> first | omega | (simp; omega)
  refine ⟨fun s' hh => hh = h28 ∧ Arr 1 dF h28 s' b', ?_, ?_⟩
  · refine Br.mk (fun hh => ?_) fun hh => ?_
    · rw [if_pos hh] at hbb
      subst hbb
      have ht : Int.tdiv (s.len : Int) 2 = ((b.length / 2 : Nat) : Int) := by rw [hsl]; rfl
      rw [ht, wi64 (by omega) (by omega)]
      have := A28.sub (Nat.zero_le (b.length / 2)) (by omega) (m := s.cap) (by omega)
      rw [List.drop_zero] at this
      exact ⟨fun z => (by cases z), by omega, by omega, rfl, this⟩
    · have hh : half = false := hh
      rw [if_neg (by rw [hh]; simp)] at hbb
      subst hbb
      exact ⟨rfl, A28⟩
  rintro s30 h31 ⟨rfl, A31⟩
  have hl30 := A31.len
  refine ⟨fun hh => ∃ M', DD hh M' d (writeD δ l i b).2 ∧ DStp M h M' hh d, ⟨fun q hh => hh = h31 ∧ (q = true ↔ ((e = 0 ∨ half = true) ∧ b' ≠ [])), ?_, ?_⟩, ?_⟩
  · have hd : decide ((s30.len : Int) > 0) = true ↔ b' ≠ [] := by
      rw [decide_eq_true_eq, hl30, ← List.length_pos_iff]; omega
    refine Br.eq (fun he => ⟨rfl, ?_⟩) fun he => Br.mk (fun hh => ⟨rfl, ?_⟩) fun hh => ⟨rfl, ?_⟩
    · rw [hd]; exact ⟨fun z => ⟨.inl he, z⟩, fun z => z.2⟩
    · rw [hd]; exact ⟨fun z => ⟨.inr hh, z⟩, fun z => z.2⟩
    · exact ⟨fun z => (by cases z), fun z => z.1.elim (fun w => absurd w he) fun w => by rw [show half = false from hh] at w; cases w⟩
  rotate_left 1
  · rintro h60 ⟨M', X', D'⟩
    have := k h60 M' X' D'
    have he : (writeD δ l i b).1 = e := by rw [hcr]; split <;> rfl
    rwa [he] at this
  rintro q3 h35 ⟨rfl, hq3⟩
  refine Br.mk (fun hqt => ?_) fun hqf => ⟨M, ?_, D28⟩
  rotate_left 1
  · rw [hcr, if_neg fun z => by rw [hq3.2 z] at hqf; cases hqf]; exact X28
  have hcond := hq3.1 hqt
  rw [if_pos hcond] at hcr
  rw [hcr]
  obtain ⟨i', rfl⟩ : ∃ i' : Nat, i = (i' : Int) := ⟨i.toNat, by omega⟩
  obtain ⟨sd3, sf3, kb3, AA3, BB3⟩ := X28.ex
  have hc3 : δ1.files[x]? = some c := by rw [hk.2.2]; exact hc
  have few := fo.few
  refine NilC.mk rfl ⟨sf3, kb3.cell rfl, Lst.ix BB3 rfl hc3 fun q y off hq hcq => ⟨_, _, hcq, New.mk fun b43 h44 hb43 hs44 e44 k44 => Set.mk fun h45 hs45 e45 k45 => New.mk fun b46 h47 hb46 hs47 e47 k47 => ?_⟩⟩
  have E45 : Ext0 h35 h45 := e44.tmp e45 (by omega)
  have E47 := E45.trans e47
  have ltd := X28.ltd
  refine LO.app oF_sized WrQ.stab (by decide) rfl (LO.new oF_sized k47) (WrL.stab.go E47 (fun _ x => x.elim) (fun _ x => x) hq.2) (fun b off hb => by cases hb; exact X28.nM (by omega)) (by simp; omega) fun s48 h49 o49 g49 => ?_
  rw [List.nil_append] at o49
  have f47 : Fresh h45 h47 ⟨some (b46, 0), 0, 0⟩ := ⟨e47, fun b off x => by cases x; omega⟩
  have f49 := f47.grow g49
  have z49 := f49.ext.size
  refine ⟨f47.keep g49 (by omega), New.mk fun b50 h51 hb50 hs51 e51 k51 => ?_⟩
  have E51 := (E45.trans f49.ext).trans e51
  refine AppC.grow dF_sized (by decide) rfl (Own.new dF_sized (l := []) k51) (A31.ext0 E51) (by simp; omega) fun s52 h53 o53 g53 => ?_
  rw [List.nil_append] at o53
  have f51 : Fresh h49 h51 ⟨some (b50, 0), 0, 0⟩ := ⟨e51, fun b off x => by cases x; omega⟩
  have f53 := f51.grow g53
  have z53 := f53.ext.size
  refine ⟨f51.keep g53 (by omega), New.mk fun b54 h55 hb54 hs55 e55 k55 => ?_⟩
  have E55 : Ext0 h35 h55 := ((E45.trans f49.ext).trans f53.ext).trans e55
  let M1 : Bl := fun i => M i ∨ (h49.size ≤ i ∧ i < h53.size)
  have n48 : ∀ b off, s48.a = some (b, off) → ¬ M1 b := fun b off hb hx => hx.elim (X28.nM (by have := f49.new _ _ hb; omega)) fun w => by have := o49.lt _ _ hb; omega
  have o55 : LO 2 oF WrQ h55 M1 s48 c.2 := o49.ext WrQ.stab (f53.ext.trans e55) (fun _ x => x.elim) (fun _ x => .inl x) fun _ _ _ x => x
  have B55 : BtR h55 M1 s52 b' := ⟨(o53.ext0 e55).arr dF_sized, fun b off hb => .inr ⟨f53.new b off hb, (o53.lt b off hb).1⟩, o53.lec⟩
  refine LO.app1 oF_sized WrQ.stab (by decide) rfl o55 n48 (a := (i', s52)) (y := (i', b')) k55 ⟨rfl, B55⟩ (by omega) fun s56 h57 o57 g57 => ?_
  have f57 := ((f49.ext0 f53.ext).ext0 e55).grow g57
  refine ⟨((f49.ext0 f53.ext).ext0 e55).keep g57 (by omega), Set.mk fun h58 hs58 e58 k58 => ?_⟩
  have z57 := g57.ext.size
  have E57 : Ext0 h35 h57 := E45.trans f57.ext
  have E58 : Ext0 h35 h58 := E57.tmp e58 (by omega)
  have U := X28.up E58
  have hM1 : ∀ j, M1 j → grow M h35 h58 j := fun j hj => hj.imp id fun w => ⟨by omega, by omega⟩
  have L58 : WrL h58 (grow M h35 h58) s56 (c.2 ++ [(i', b')]) := by
    have o58 : LO 2 oF WrQ h58 M1 s56 (c.2 ++ [(i', b')]) := o57.ext WrQ.stab e58 (fun j hj hm => by
      have hj : j = b43 := hj
      rcases hm with w | w
      · have := X28.lt _ w; omega
      · omega) (fun _ x => x) fun b off hb hx => by have := f57.new _ _ hb; have : b = b43 := hx; omega
    exact o58.lst oF_sized WrQ.stab hM1 fun b off hb => .inr ⟨by have := f57.new _ _ hb; omega, by have := o57.lt _ _ hb; omega⟩
  have Q58 : FilQ h58 (grow M h35 h58) (q.1, s56) (c.1, c.2 ++ [(i', b')]) := ⟨BtR.stab.go E58 (fun _ x => x.elim) (grow_le _ _ _) hq.1, L58⟩
  refine c140 U.1 (ltOf hc3) (p := (q.1, s56)) Q58 (by rw [hk.2.2]; have := O.fn; omega) fun h59 M59 X59 D59 => ⟨D59.ext.keep (by omega) (by omega), M59, X59, (D28.trans U.2).trans D59⟩

theorem c137 {h : Heap} {M : Bl} {d : Nat} {δ : Dc} (X : DD h M d δ) {n : Nat} (O : OkD δ n) (F : FilesAt δ) (hn : n ≤ 2199023255552) (hq0 : 0 ≤ δ.quota) (hq1 : δ.quota ≤ 268435456) {l : Tx} (hl : l.length < 4611686018427387904)
    {s : Slc} {b : Tx} (A : Arr 1 dF h s b) (hsc : s.len ≤ s.cap) (hsd : b ≠ [] → ∀ y off, s.a = some (y, off) → y ≠ d) (hb : b.length ≤ 4398046511104) {R : Int → Heap → Prop}
    (k : ∀ h' M', DD h' M' d (appendD δ l b).2 → DStp M h M' h' d → R (appendD δ l b).1 h') :
    Call Go.Proofs.Tryz.prog 137 [.lf (.ptr (some (d, 0))), .lf (.str (tx l)), .lf (.slc s)] h [.one (.int .i64)] R := by
  refine ok137 (c138 X O.W hl (fun e h' hp he e0 => Br.ne (fun _ => ?_) fun x => absurd x he) fun x h' hp e0 => Br.ne (fun x => absurd rfl x) fun _ => ?_)
  · have hc : appendD δ l b = (e, δ) := by unfold appendD; rw [hp]
    have := k h' M (by rw [hc]; exact X.ext0 e0) (DStp.of0 M d e0)
    rwa [hc] at this
  obtain ⟨c, hc, fo⟩ := F.ok l x hp
  have X0 := X.ext0 e0
  obtain ⟨sd, sf, kb, AA, BB⟩ := X0.ex
  refine NilC.mk rfl ⟨sf, kb.cell rfl, Lst.ix BB rfl hc fun q y off hq hcq => ⟨_, _, hcq, ?_⟩⟩
  refine c139 hq X0.lt fo.ch fo.len (by have := fo.few; omega) fun s10 h11 o11 f11 => ?_
  have e011 := e0.trans f11.ext
  have hs : (s10.len : Int) = (sizeD δ x : Int) := by unfold sizeD; rw [hc, o11.len]; rfl
  rw [hs]
  have hwa : writeD δ l (sizeD δ x) b = appendD δ l b := by unfold writeD appendD; rw [hp]
  refine c136 (X.ext0 e011) O F hn hq0 hq1 hl (A.ext0 e011) hsc hsd hb fun h2 M2 X2 D2 => ?_
  rw [hwa] at X2 ⊢
  exact k h2 M2 X2 ((DStp.of0 M d e011).trans D2)

end Go.V.YtdeihieblljfcaaGreat
/-! The document's disk: a crash. -/
namespace Go.V.YtdeihieblljfcaaGreat
open Go Go.V

theorem cutN_zero (u : Int) : cutN 0 u = 0 := by
  unfold cutN; rw [show ((0 : Nat) : Int) = 0 from rfl, Int.zero_tmod]; rfl
theorem cutN_le (t : Nat) {u : Int} (h1 : 0 < u) (h2 : u < 9223372036854775807) : (cutN t u : Int) ≤ u := by
  rw [← cutN_eq, wi64 (by omega) (by omega), Int.tmod_eq_emod_of_nonneg (by omega)]
  have := Int.emod_lt_of_pos (t : Int) (b := u + 1) (by omega)
  omega
theorem c150 {h : Heap} {s : Slc} {l : List Int} (A : Arr 1 iF h s l) {t : Nat} {u : Int} (hu1 : 0 < u) (hu2 : u ≤ 9223372036854775807) {R : Int → Heap → Prop} (k : R (cutN (turnV l t) u : Int) h) :
    Call Go.Proofs.Tryz.prog 150 [.lf (.slc s), .lf (.int .i64 (t : Int)), .lf (.int .i64 u)] h [.one (.int .i64)] R := by
  have hlen := A.len
  have hmod : Int.tmod (t : Int) (s.len : Int) = ((t % l.length : Nat) : Int) := by rw [hlen]; rfl
  refine ok150 ⟨fun hh => hh = h ∧ l ≠ [] ∧ 0 ≤ (l[t % l.length]?.getD 0), ?_, ?_⟩
  · refine Br.eq (fun h0 => ?_) fun h0 => ⟨fun z => h0 (by omega), ?_⟩
    · have hl0 : l = [] := List.length_eq_zero_iff.1 (by omega)
      subst hl0
      have : turnV [] t = 0 := rfl
      rw [this, cutN_zero] at k; exact k
    · have hl0 : l ≠ [] := fun e => h0 (by rw [hlen, e]; rfl)
      have hlt : t % l.length < l.length := Nat.mod_lt _ (List.length_pos_iff.2 hl0)
      rw [hmod]
      refine A.ix rfl (x := l[t % l.length]) (List.getElem?_eq_getElem hlt) fun b off hc => ⟨_, hc, Br.dec (fun hneg => ?_) fun hge => ⟨rfl, hl0, by rw [List.getElem?_eq_getElem hlt, Option.getD_some]; omega⟩⟩
      have : turnV l t = 0 := by unfold turnV; rw [List.getElem?_eq_getElem hlt, Option.getD_some]; omega
      rw [this, cutN_zero] at k; exact k
  rintro h4 ⟨rfl, hl0, hge⟩
  have hpos := List.length_pos_iff.2 hl0
  have hlt : t % l.length < l.length := Nat.mod_lt _ hpos
  rw [List.getElem?_eq_getElem hlt, Option.getD_some] at hge
  refine ⟨fun z => by omega, ?_⟩
  rw [hmod]
  refine A.ix rfl (x := l[t % l.length]) (List.getElem?_eq_getElem hlt) fun b off hc => ⟨_, hc, wrap_suc hu1 hu2, ?_⟩
  have hv : l[t % l.length] = (turnV l t : Int) := by unfold turnV; rw [List.getElem?_eq_getElem hlt, Option.getD_some]; omega
  rw [hv, cutN_eq]; exact k

theorem keptL_zero : ∀ (os : List (Nat × Tx)) (c : Tx), keptL 0 c os = c
  | [], c => rfl
  | o :: r, c => by unfold keptL; simp [keptL_zero r c]

theorem c153 {h : Heap} {M : Bl} {p : Slc × Slc} {c : DF} (Q : FilQ h M p c) (hM : ∀ i, M i → i < h.size) (fo : FOk c) {k0 : Nat} (hk0 : k0 ≤ 9223372036854775807) {R : Slc → Slc → Heap → Prop}
    (k : ∀ s' h', Own 1 dF h' s' (keptL k0 c.1 c.2) → Fresh h h' s' → R s' ⟨none, 0, 0⟩ h') : Call Go.Proofs.Tryz.prog 153 [.agg [.slc p.1, .slc p.2], .lf (.int .i64 (k0 : Int))] h [.agg [.slc, .slc]] R := by
  have hwl := Lst.len Q.2
  have hnow := fo.len
  have few := fo.few
  have hfast := (appl_len fo.ch).1
  refine ok153 (New.mk fun b0 h1 hb0 hs1 e1 k1 => New.mk fun b2 h3 hb2 hs3 e3 k3 => New.mk fun b4 h5 hb4 hs5 e5 k5 => ?_)
  have e13 := e1.trans e3
  have e15 := e13.trans e5
  have o5 : Own 1 dF h5 ⟨some (b4, 0), 0, 0⟩ [] := Own.new dF_sized (l := []) k5
  refine AppC.grow dF_sized (by decide) rfl o5 (Q.1.arr.ext0 e15) (by simp; omega) fun s6 h7 o7 g7 => ?_
  rw [List.nil_append] at o7
  have f5 : Fresh h3 h5 ⟨some (b4, 0), 0, 0⟩ := ⟨e5, fun b off x => by cases x; omega⟩
  have f7 := f5.grow g7
  have z7 := f7.ext.size
  refine ⟨⟨g7.ext.same b0 (by omega) (fun ⟨off, x⟩ => by cases x; omega), g7.ext.same b2 (by omega) (fun ⟨off, x⟩ => by cases x; omega), trivial⟩, ?_⟩
  refine ⟨fun s hh => Own 1 dF hh s (keptL k0 c.1 c.2) ∧ Fresh h3 hh s, ⟨fun a s i hh d => ∃ (n kk : Nat) (l : Tx), i = (n : Int) ∧ n ≤ c.2.length ∧ a = (kk : Int) ∧ kk ≤ k0 ∧ keptL kk l (c.2.drop n) = keptL k0 c.1 c.2 ∧ (kk = 0 ∨ l = appl c.1 (c.2.take n)) ∧ l.length ≤ (appl c.1 c.2).length ∧
      Own 1 dF hh s l ∧ Fresh h3 hh s ∧ d = c.2.length - n, ⟨_, 0, k0, c.1, rfl, Nat.zero_le _, rfl, Nat.le_refl _, rfl, .inr rfl, hfast, o7, f7, rfl⟩, ?_⟩, ?_⟩
  · rintro a s i h14 d ⟨n, kk, l, rfl, hn, rfl, hkk, hkept, hor, hlen, o14, f14, rfl⟩
    have done : (kk = 0 ∨ n = c.2.length) → Own 1 dF h14 s (keptL k0 c.1 c.2) ∧ Fresh h3 h14 s := fun hz => by
      refine ⟨?_, f14⟩
      rw [← hkept]
      rcases hz with hz | hz
      · rw [hz, keptL_zero]; exact o14
      · rw [hz, List.drop_length]; exact o14
    refine ⟨fun hh => hh = h14 ∧ n < c.2.length ∧ 0 < kk, Br.dec (fun hlt => Br.dec (fun hpos => ⟨rfl, by omega, by omega⟩) fun hz => done (.inl (by omega))) fun hge => done (.inr (by omega)), ?_⟩
    rintro h17 ⟨rfl, hlt, hpos⟩
    have hget := List.getElem?_eq_getElem hlt
    generalize ho : c.2[n] = o at hget
    have hmem : o ∈ c.2 := List.mem_of_getElem? hget
    have hwb := (appl_len fo.ch).2 o hmem
    have hl' : l = appl c.1 (c.2.take n) := hor.resolve_left (by omega)
    have hat : o.1 ≤ l.length := by rw [hl']; exact chain_at fo.ch hget
    have hdrop : c.2.drop n = o :: c.2.drop (n + 1) := by rw [List.drop_eq_getElem_cons hlt, ho]
    have Q17 : WrL h17 M p.2 c.2 := WrL.stab.go (e13.trans f14.ext) (fun _ x => x.elim) (fun _ x => x) Q.2
    refine Lst.ix Q17 rfl hget fun q x off hq hcq => ⟨_, _, hcq, New.mk fun b22 h23 hb22 hs23 e23 k23 => Set.mk fun h24 hs24 e24 k24 => ?_⟩
    have E24 : Ext0 h17 h24 := e23.tmp e24 (by omega)
    have hql := hq.2.arr.len
    have hqc := hq.2.cap
    have z14 := f14.ext.size
    refine ⟨fun i27 s28 hh => i27 = (o.1 : Int) ∧ Ext0 h17 hh ∧ hh.size = h24.size ∧ Arr 1 dF hh s28 (o.2.take (min kk o.2.length)), Br.dec (fun hgt => ⟨by omega, by omega, Set.mk fun h26 hs26 e26 k26 => ⟨by rw [hq.1], E24.tmp e26 (by omega), hs26, ?_⟩⟩) fun hle => ⟨by rw [hq.1], E24, rfl, ?_⟩, ?_⟩
    · have := ((hq.2.arr.ext0 E24).ext e26 fun ⟨b, off, hb, hx⟩ => by
        have hm := hM _ (hq.2.m b off hb)
        have : b = b22 := hx
        omega).sub (Nat.zero_le kk) (by omega) (m := q.2.cap) (by omega)
      rw [List.drop_zero] at this
      rw [Int.toNat_natCast, show min kk o.2.length = kk by omega]; exact this
    · rw [show min kk o.2.length = o.2.length by omega, List.take_length]; exact hq.2.arr.ext0 E24
    rintro i27 s28 h29 ⟨rfl, E29, z29, A29⟩
    have hs28 := A29.len
    rw [List.length_take] at hs28
    refine c198 ((o14.ext0 E29).arr dF_sized) A29 hat (by omega) (by rw [List.length_take]; omega) fun s30 h31 o31 f31 => ⟨?_, c.2.length - (n + 1), by omega, n + 1, kk - min kk o.2.length, _, by rw [wi64 (by omega) (by omega)]; rfl, by omega, ?_, by omega, ?_, ?_, ?_, o31, ⟨(f14.ext.trans E29).trans f31.ext, fun b off hb => by have := f31.new _ _ hb; have := E29.size; omega⟩, rfl⟩
    · exact ⟨f31.ext.same b0 (by omega) id, f31.ext.same b2 (by omega) id, f31.ext.same b22 (by omega) id, trivial⟩
    · rw [hs28, wi64 (by omega) (by omega)]; omega
    · rw [← hkept, hdrop]
      show _ = keptL _ (if 0 < min kk o.2.length then _ else _) _
      split
      · rfl
      · rename_i hz
        have h0 : min kk o.2.length = 0 := by omega
        rw [h0, List.take_zero]
        congr 1
        unfold overL; simp
    · rcases Nat.lt_or_ge o.2.length kk with h2 | h2
      · right
        have : min kk o.2.length = o.2.length := by omega
        rw [appl_take_succ hget, this, List.take_length, ← hl']
      · left; omega
    · rw [overL_len hat]
      simp only [List.length_take]
      omega
  · rintro s33 h34 ⟨o34, f34⟩
    have z34 := f34.ext.size
    refine Set.mk fun h35 hs35 e35 k35 => k s33 h35 (o34.ext e35 fun ⟨b, off, hb, hx⟩ => by have := f34.new _ _ hb; have : b = b2 := hx; omega) ⟨(e13.trans f34.ext).tmp e35 (by omega), fun b off hb => by have := f34.new _ _ hb; omega⟩

end Go.V.YtdeihieblljfcaaGreat
/-! The document's disk: Crash. -/
namespace Go.V.YtdeihieblljfcaaGreat
open Go Go.V

def FilesAll (δ : Dc) : Prop := ∀ a ws m p, (a, ws) ∈ δ.dirs → m ∈ ws → p ∈ m → ∃ c, δ.files[p.2]? = some c ∧ FOk c
theorem FilesAll.at {δ : Dc} (F : FilesAll δ) : FilesAt δ := fun i m p hm hp => by
  obtain ⟨a, ws, hd, hw⟩ := nowD_some hm
  exact F a ws m p (List.mem_of_getElem? hd) (List.mem_of_getLast? hw) hp
structure Ok2 (δ : Dc) (n : Nat) : Prop where
  W : WD δ
  F : FilesAll δ
  fn : δ.files.length ≤ n
theorem Ok2.settle {δ : Dc} {n : Nat} (O : Ok2 δ n) (i k : Nat) : Ok2 (settleD δ i k) n ∧ (settleD δ i k).dirs.length = δ.dirs.length ∧ (settleD δ i k).files = δ.files := by
  unfold settleD
  split
  · rename_i nm ws hi
    split
    · rename_i m hm
      have hw := List.mem_of_getElem? hi
      have hmm := List.mem_of_getElem? hm
      refine ⟨⟨⟨fun p hp => ?_, by simpa using O.W.few, fun p hp => ?_, fun p hp l hx => ?_⟩, fun a ws' m' p ha hm' hp => ?_, O.fn⟩, by simp, rfl⟩
      · rcases List.mem_or_eq_of_mem_set hp with h | rfl
        · exact O.W.ways p h
        · simp
      · rcases List.mem_or_eq_of_mem_set hp with h | rfl
        · exact O.W.wl p h
        · simp
      · rcases List.mem_or_eq_of_mem_set hp with h | rfl
        · exact O.W.nl p h l hx
        · rw [List.mem_singleton.1 hx]; exact O.W.nl _ hw m hmm
      · rcases List.mem_or_eq_of_mem_set ha with h | h
        · exact O.F a ws' m' p h hm' hp
        · cases h
          rw [List.mem_singleton.1 hm'] at hp
          exact O.F nm ws m p hw hmm hp
    · exact ⟨O, rfl, rfl⟩
  · exact ⟨O, rfl, rfl⟩
theorem Ok2.set {δ : Dc} {n : Nat} (O : Ok2 δ n) (x : Nat) {c : DF} (fo : FOk c) : Ok2 (setD δ x c) n ∧ (setD δ x c).dirs = δ.dirs ∧ (setD δ x c).files.length = δ.files.length := by
  refine ⟨⟨⟨O.W.ways, O.W.few, O.W.wl, O.W.nl⟩, fun a ws m p ha hm hp => ?_, by unfold setD; simpa using O.fn⟩, rfl, by unfold setD; simp⟩
  obtain ⟨c', hc', fo'⟩ := O.F a ws m p ha hm hp
  show ∃ c'', (δ.files.set x c)[p.2]? = some c'' ∧ FOk c''
  rw [List.getElem?_set]
  split
  · rename_i e; subst e
    rw [if_pos (ltOf hc')]; exact ⟨c, rfl, fo⟩
  · exact ⟨c', hc', fo'⟩
theorem FOk.kept {c : DF} (fo : FOk c) (k : Nat) : FOk (keptL k c.1 c.2, []) :=
  ⟨trivial, Nat.le_trans (keptL_ok k fo.ch) fo.len, by simp⟩

def dstepD (l : List Int) (a : Nat × Dc) (i : Nat) : Nat × Dc := match a.2.dirs[i]? with
  | some (_, ws) => if 1 < ws.length then (a.1 + 1, settleD a.2 i (cutN (turnV l a.1) ((ws.length : Int) - 1))) else a
  | none => a
def fstepD (l : List Int) (a : Nat × Dc) (x : Nat) : Nat × Dc := match a.2.files[x]? with
  | some c => if 0 < unsW c.2 then (a.1 + 1, setD a.2 x (keptL (cutN (turnV l a.1) (unsW c.2)) c.1 c.2, [])) else a
  | none => a
def crashDD (δ : Dc) (names : List Int) (m : Nat) : Nat × Dc := (List.range m).foldl (dstepD names) (0, δ)
def crashDF (δ : Dc) (keeps : List Int) (l : List Nat) : Nat × Dc := l.foldl (fstepD keeps) (0, δ)
def crashDoc (δ : Dc) (keeps names : List Int) : Dc :=
  let δ0 := stopD (failD δ 0 0) 0
  let δ1 := (crashDD δ0 names δ0.dirs.length).2
  (crashDF δ1 keeps (allD δ1)).2
theorem crashDD_succ (δ : Dc) (names : List Int) (m : Nat) : crashDD δ names (m + 1) = dstepD names (crashDD δ names m) m := by
  unfold crashDD; rw [List.range_succ, List.foldl_append]; rfl
theorem crashDF_snoc (δ : Dc) (keeps : List Int) (l : List Nat) (x : Nat) : crashDF δ keeps (l ++ [x]) = fstepD keeps (crashDF δ keeps l) x := by
  unfold crashDF; rw [List.foldl_append]; rfl
theorem dstepD_ok {a : Nat × Dc} {n : Nat} (O : Ok2 a.2 n) (l : List Int) (i : Nat) : Ok2 (dstepD l a i).2 n ∧ (dstepD l a i).2.dirs.length = a.2.dirs.length ∧ (dstepD l a i).2.files = a.2.files ∧ (dstepD l a i).1 ≤ a.1 + 1 := by
  unfold dstepD
  split
  · split
    · obtain ⟨h1, h2, h3⟩ := O.settle i (cutN (turnV l a.1) ((List.length ‹List Nm› : Int) - 1))
      exact ⟨h1, h2, h3, Nat.le_refl _⟩
    · exact ⟨O, rfl, rfl, Nat.le_succ _⟩
  · exact ⟨O, rfl, rfl, Nat.le_succ _⟩
theorem fstepD_ok {a : Nat × Dc} {n : Nat} (O : Ok2 a.2 n) (l : List Int) {x : Nat} (hx : ∃ c, a.2.files[x]? = some c ∧ FOk c) : Ok2 (fstepD l a x).2 n ∧ (fstepD l a x).2.dirs = a.2.dirs ∧ (fstepD l a x).2.files.length = a.2.files.length ∧ (fstepD l a x).1 ≤ a.1 + 1 := by
  obtain ⟨c, hc, fo⟩ := hx
  unfold fstepD
  rw [hc]
  simp only
  split
  · obtain ⟨h1, h2, h3⟩ := O.set x (fo.kept (cutN (turnV l a.1) (unsW c.2)))
    exact ⟨h1, h2, h3, Nat.le_refl _⟩
  · exact ⟨O, rfl, rfl, Nat.le_succ _⟩
theorem crashDD_ok {δ : Dc} {n : Nat} (O : Ok2 δ n) (names : List Int) : ∀ m, Ok2 (crashDD δ names m).2 n ∧ (crashDD δ names m).2.dirs.length = δ.dirs.length ∧ (crashDD δ names m).2.files = δ.files ∧ (crashDD δ names m).1 ≤ m
  | 0 => ⟨O, rfl, rfl, Nat.le_refl _⟩
  | m + 1 => by
    rw [crashDD_succ]
    obtain ⟨h1, h2, h3, h4⟩ := crashDD_ok O names m
    obtain ⟨g1, g2, g3, g4⟩ := dstepD_ok h1 names m
    exact ⟨g1, g2.trans h2, g3.trans h3, by omega⟩
theorem allD_dirs {δ δ' : Dc} (h : δ'.dirs = δ.dirs) : allD δ' = allD δ := by
  unfold allD nowD; rw [h]
theorem crashDF_ok {δ : Dc} {n : Nat} (O : Ok2 δ n) (keeps : List Int) (l : List Nat) (hl : ∀ x ∈ l, x ∈ allD δ) : Ok2 (crashDF δ keeps l).2 n ∧ (crashDF δ keeps l).2.dirs = δ.dirs ∧ (crashDF δ keeps l).2.files.length = δ.files.length ∧ (crashDF δ keeps l).1 ≤ l.length := by
  induction l using snoc_ind with
  | h0 => exact ⟨O, rfl, rfl, Nat.le_refl _⟩
  | h1 l x ih =>
    rw [crashDF_snoc]
    obtain ⟨h1, h2, h3, h4⟩ := ih fun y hy => hl y (List.mem_append_left _ hy)
    have hx : x ∈ allD (crashDF δ keeps l).2 := by rw [allD_dirs h2]; exact hl x (by simp)
    obtain ⟨i, m, p, hm, hp, rfl⟩ := allD_at hx
    obtain ⟨g1, g2, g3, g4⟩ := fstepD_ok h1 keeps (h1.F.at i m p hm hp)
    exact ⟨g1, g2.trans h2, g3.trans h3, by rw [List.length_append, List.length_singleton]; omega⟩

theorem c85 {h : Heap} {M : Bl} {d : Nat} {δ : Dc} (X : DD h M d δ) {n : Nat} (O : Ok2 δ n) (hn : n ≤ 2199023255552) {sk sc : Slc} {keeps names : List Int} (Ak : Arr 1 iF h sk keeps) (Ac : Arr 1 iF h sc names)
    (hk : keeps ≠ [] → ∀ b off, sk.a = some (b, off) → b ≠ d) (hc : names ≠ [] → ∀ b off, sc.a = some (b, off) → b ≠ d) {R : Heap → Prop}
    (k : ∀ h' M', DD h' M' d (crashDoc δ keeps names) → DStp M h M' h' d → R h') :
    Call Go.Proofs.Tryz.prog 85 [.lf (.ptr (some (d, 0))), .lf (.slc sk), .lf (.slc sc)] h [] R := by
  refine ok85 (c81 X fun h0 X0 e0 => c82 X0 fun h1 X1 e1 => ?_)
  have O1 : Ok2 (stopD (failD δ 0 0) 0) n := by
    have : (stopD (failD δ 0 0) 0).dirs = δ.dirs ∧ (stopD (failD δ 0 0) 0).files = δ.files := ⟨rfl, rfl⟩
    exact ⟨⟨O.W.ways, O.W.few, O.W.wl, O.W.nl⟩, O.F, O.fn⟩
  have D1 := DStp.of M (e0.trans e1)
  unfold crashDoc at k
  simp only at k
  generalize stopD (failD δ 0 0) 0 = δ0 at *
  have few := O1.W.few
  refine ⟨fun t i hh dd => ∃ (m : Nat) (M' : Bl), i = (m : Int) ∧ m ≤ δ0.dirs.length ∧ t = ((crashDD δ0 names m).1 : Int) ∧ DD hh M' d (crashDD δ0 names m).2 ∧ DStp M h M' hh d ∧ dd = δ0.dirs.length - m, ⟨_, 0, M, rfl, Nat.zero_le _, rfl, X1, D1, rfl⟩, ?_⟩
  rintro t i h6 dd ⟨m, M6, rfl, hm, rfl, X6, D6, rfl⟩
  obtain ⟨ok6, len6, fil6, t6⟩ := crashDD_ok O1 names m
  obtain ⟨sd, sf, kb, A, B⟩ := X6.ex
  have hal := Lst.len A
  rw [len6] at hal
  refine NilC.mk rfl ⟨sd, kb.cell rfl, Br.dec (fun hlt => ?_) fun hge => ?_⟩
  · have hlt' : m < δ0.dirs.length := by omega
    have hw := List.getElem?_eq_getElem (l := (crashDD δ0 names m).2.dirs) (i := m) (by omega)
    generalize (crashDD δ0 names m).2.dirs[m] = p at hw
    obtain ⟨nm, ws⟩ := p
    have hne := ok6.W.ways _ (List.mem_of_getElem? hw)
    have hwl := ok6.W.wl _ (List.mem_of_getElem? hw)
    simp only at hne hwl
    have hpos := List.length_pos_iff.2 hne
    have hst := crashDD_succ δ0 names m
    unfold dstepD at hst
    rw [hw] at hst
    simp only at hst
    refine NilC.mk rfl ⟨sd, kb.cell rfl, Lst.ix A rfl hw fun q y off hq hcq => ⟨q.2, ⟨hcq.2.1, trivial⟩, ?_⟩⟩
    have hql := Lst.len hq.2
    simp only at hql
    have hx : IntKind.wrap .i64 ((q.2.len : Int) - 1) = (ws.length : Int) - 1 := by rw [hql, wi64 (by omega) (by omega)]
    rw [hx]
    refine Br.dec (fun hgt => ?_) fun hle => ⟨δ0.dirs.length - (m + 1), by omega, m + 1, M6, by rw [wi64 (by omega) (by omega)]; rfl, by omega, ?_, ?_, D6, rfl⟩
    rotate_left 1
    · rw [hst, if_neg (by omega)]
    · rw [hst, if_neg (by omega)]; exact X6
    rw [if_pos (by omega)] at hst
    have Ac6 : Arr 1 iF h6 sc names := Ac.extN D6.ext fun hne ⟨b, off, hb, hx⟩ => hc hne b off hb hx
    refine c150 Ac6 (t := (crashDD δ0 names m).1) (by omega) (by omega) ?_
    have hcl := cutN_le (turnV names (crashDD δ0 names m).1) (u := (ws.length : Int) - 1) (by omega) (by omega)
    have hcl2 : cutN (turnV names (crashDD δ0 names m).1) ((ws.length : Int) - 1) < ws.length := by omega
    refine c149 X6 hw (List.getElem?_eq_getElem hcl2) (by omega) fun h19 M19 X19 D19 => ⟨δ0.dirs.length - (m + 1), by omega, m + 1, M19, by rw [wi64 (by omega) (by omega)]; rfl, by omega, ?_, ?_, D6.trans D19, rfl⟩
    · rw [hst, wi64 (by omega) (by omega)]; rfl
    · rw [hst]; exact X19
  · have hm' : m = δ0.dirs.length := by omega
    rw [hm'] at X6 ok6 len6
    generalize (crashDD δ0 names δ0.dirs.length).2 = δ1 at *
    have alen := allD_len ok6.W
    refine c151 X6 ok6.W fun s22 h23 o22 f22 => ?_
    have hol := o22.len
    have ltd := X6.ltd
    refine ⟨fun t i hh dd => ∃ (j : Nat) (M' : Bl), i = (j : Int) ∧ j ≤ (allD δ1).length ∧ t = ((crashDF δ1 keeps ((allD δ1).take j)).1 : Int) ∧ DD hh M' d (crashDF δ1 keeps ((allD δ1).take j)).2 ∧ DStp M h M' hh d ∧ Own 1 jF hh s22 (allD δ1) ∧ h23.size ≤ hh.size ∧ dd = (allD δ1).length - j,
      ⟨_, 0, M6, rfl, Nat.zero_le _, rfl, X6.ext0 f22.ext, D6.trans (DStp.of0 M6 d f22.ext), o22, Nat.le_refl _, rfl⟩, ?_⟩
    rintro t i h28 dd ⟨j, M28, rfl, hj, rfl, X28, D28, o28, z28, rfl⟩
    obtain ⟨ok28, dirs28, len28, t28⟩ := crashDF_ok ok6 keeps ((allD δ1).take j) fun x hx => List.mem_of_mem_take hx
    rw [List.length_take] at t28
    refine Br.dec (fun hlt => ?_) fun hge => ?_
    · have hlt' : j < (allD δ1).length := by omega
      have hget := List.getElem?_eq_getElem hlt'
      have hxm := List.getElem_mem hlt'
      have hst : crashDF δ1 keeps ((allD δ1).take (j + 1)) = fstepD keeps (crashDF δ1 keeps ((allD δ1).take j)) (allD δ1)[j] := by rw [List.take_add_one, hget]; exact crashDF_snoc _ _ _ _
      generalize (allD δ1)[j] = x at hget hxm hst
      generalize hR : crashDF δ1 keeps ((allD δ1).take j) = a at *
      obtain ⟨t, δ2⟩ := a
      simp only at X28 ok28 dirs28 len28 t28
      have hx2 : x ∈ allD δ2 := by rw [allD_dirs dirs28]; exact hxm
      obtain ⟨c, hcx, fo⟩ : ∃ c, δ2.files[x]? = some c ∧ FOk c := by
        obtain ⟨i, m, p, hm, hp, rfl⟩ := allD_at hx2
        exact ok28.F.at i m p hm hp
      unfold fstepD at hst
      simp only [hcx] at hst
      have fewc := fo.few
      refine ⟨fun t' hh => ∃ M' : Bl, t' = ((crashDF δ1 keeps ((allD δ1).take (j + 1))).1 : Int) ∧ DD hh M' d (crashDF δ1 keeps ((allD δ1).take (j + 1))).2 ∧ DStp M h M' hh d ∧ Own 1 jF hh s22 (allD δ1) ∧ h23.size ≤ hh.size, ?_, ?_⟩
      rotate_left 1
      · rintro t' h56 ⟨M', rfl, X', D', o', z'⟩
        exact ⟨(allD δ1).length - (j + 1), by omega, j + 1, M', by rw [wi64 (by omega) (by omega)]; rfl, by omega, rfl, X', D', o', z', rfl⟩
      obtain ⟨sd2, sf2, kb2, A2, B2⟩ := X28.ex
      have hO := (o28.arr jF_sized)
      refine NilC.mk rfl ⟨sf2, kb2.cell rfl, hO.ix rfl hget fun b34 b35 hc34 => ⟨_, hc34, Lst.ix B2 rfl hcx fun q b37 b38 hq hc37 => ⟨_, _, hc37, New.mk fun b41 h42 hb41 hs42 e42 k42 => ?_⟩⟩⟩
      refine ⟨cellsAt.ext e42 id hc37, cellsAt.ext e42 id hc34, (kb2.ext e42).cell rfl, Set.mk fun h43 hs43 e43 k43 => ?_⟩
      have E43 : Ext0 h28 h43 := e42.tmp e43 (by omega)
      have Q43 : FilQ h43 M28 q c := FilQ.stab.go E43 (fun _ x => x.elim) (fun _ x => x) hq
      have lt28 := X28.lt
      refine c152 Q43 (fun i hi => Nat.lt_of_lt_of_le (lt28 i hi) E43.size) (by omega) fun h45 e45 => ⟨e45.keep (by omega) id, ?_⟩
      have E45 := E43.trans e45
      refine Br.dec (fun hpos => ?_) fun hneg => ?_
      rotate_left 1
      · rw [if_neg (by omega)] at hst
        rw [hst]
        exact ⟨M28, rfl, X28.ext0 E45, D28.trans (DStp.of0 M28 d E45), o28.ext0 E45, by have := E45.size; omega⟩
      rw [if_pos (by omega)] at hst
      have hu := wrap_rng (uns c.2 : Int)
      refine hO.ix rfl hget fun b46 b47 hc46 => ⟨_, cellsAt.ext E45 id hc46, ?_⟩
      have D45 := D28.trans (DStp.of0 M28 d E45)
      have Ak45 : Arr 1 iF h45 sk keeps := Ak.extN D45.ext fun hne ⟨b, off, hb, hx⟩ => hk hne b off hb hx
      refine c150 Ak45 (t := t) hpos hu.2 ⟨⟨rfl, trivial⟩, cellsAt.ext E45 id hc46, ?_⟩
      have hcl := cutN_lt (turnV keeps t) hpos hu.2
      have Q45 : FilQ h45 M28 q c := FilQ.stab.go e45 (fun _ x => x.elim) (fun _ x => x) Q43
      refine c153 Q45 (fun i hi => Nat.lt_of_lt_of_le (lt28 i hi) E45.size) fo hcl fun s51 h53 o51 f51 => ⟨f51.ext.keep (by have := e45.size; omega) id, ?_⟩
      have E53 := E45.trans f51.ext
      have U := X28.up E53
      have Q53 : FilQ h53 (grow M28 h28 h53) (s51, ⟨none, 0, 0⟩) (keptL (cutN (turnV keeps t) (unsW c.2)) c.1 c.2, []) := ⟨⟨o51.arr dF_sized, fun b off hb => .inr ⟨by have := f51.new _ _ hb; have := E45.size; omega, (o51.lt _ _ hb).1⟩, o51.lec⟩, Lst.nil 2 oF WrQ _ _⟩
      have ltd28 := X28.ltd
      refine ⟨cellsAt.ext E53 id hc46, c140 U.1 (ltOf hcx) (p := (s51, ⟨none, 0, 0⟩)) Q53 (by have := ok28.fn; omega) fun h54 M54 X54 D54 => ⟨D54.ext.keep (by have := e45.size; have := f51.ext.size; omega) (by omega), M54, ?_, ?_, (D28.trans U.2).trans D54, ?_, ?_⟩⟩
      · rw [hst, wi64 (by omega) (by omega)]; rfl
      · rw [hst]; exact X54
      · exact (o28.ext0 E53).ext D54.ext fun ⟨b, off, hb, hx⟩ => by have := f22.new _ _ hb; have : b = d := hx; omega
      · have := E53.size; have := D54.ext.size; omega
    · have : j = (allD δ1).length := by omega
      subst this
      rw [List.take_length] at X28
      exact k h28 M28 X28 D28

end Go.V.YtdeihieblljfcaaGreat
