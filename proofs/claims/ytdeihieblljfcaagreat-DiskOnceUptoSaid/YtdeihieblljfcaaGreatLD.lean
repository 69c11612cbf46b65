/- This text proves a part of the laws of seat YtdeihieblljfcaaGreat, under no condition: F4e F4f. -/
import Derived.Test.YtdeihieblljfcaaGreatLC
set_option linter.unusedVariables false
set_option linter.unusedSimpArgs false
/-! Played; settled; a crash where all stands fast. -/
namespace Go.V.YtdeihieblljfcaaGreat
open Go Go.V

/-! ### Plain -/

theorem foldF_at (l : List Int) {σ : Dk} {x : Nat} {c : Fl} (hc : σ.fl x = some c) : ∀ w : List Nat, ∃ c', (w.foldl (fstepR l) (0, σ)).2.fl x = some c' ∧ (unsW c.opn ≤ 0 → c' = c) ∧ (c' = c ∨ c'.opn = []) ∧ (x ∈ w → unsW c'.opn ≤ 0) := fun w => by
  induction w using snoc_ind with
  | h0 => exact ⟨c, hc, fun _ => rfl, .inl rfl, fun h => by cases h⟩
  | h1 w y ih =>
    obtain ⟨c', h1, h2, h3, h4⟩ := ih
    rw [List.foldl_append, List.foldl_cons, List.foldl_nil]
    generalize w.foldl (fstepR l) (0, σ) = a at *
    by_cases hy : y = x
    · subst hy
      unfold fstepR
      rw [h1]
      simp only
      by_cases hu : 0 < unsW c'.opn
      · rw [if_pos hu]
        refine ⟨_, upd_same _ _ _, fun h => ?_, .inr rfl, fun _ => ?_⟩
        · have := h2 h; subst this; omega
        · show unsW [] ≤ 0; decide
      · rw [if_neg hu]
        exact ⟨c', h1, h2, h3, fun _ => by omega⟩
    · have : (fstepR l a y).2.fl x = a.2.fl x := by
        unfold fstepR
        split
        · rfl
        · split
          · show upd _ _ _ _ = _; rw [upd_ne (fun e => hy e.symm)]
          · rfl
      refine ⟨c', by rw [this]; exact h1, h2, h3, fun hm => ?_⟩
      rcases List.mem_append.1 hm with hm | hm
      · exact h4 hm
      · exact absurd (List.mem_singleton.1 hm).symm hy
theorem foldF_keep (l : List Int) (σ : Dk) : ∀ w : List Nat, (w.foldl (fstepR l) (0, σ)).2.dirs = σ.dirs ∧ (w.foldl (fstepR l) (0, σ)).2.dr = σ.dr ∧ (w.foldl (fstepR l) (0, σ)).2.mp = σ.mp := fun w => by
  induction w using snoc_ind with
  | h0 => exact ⟨rfl, rfl, rfl⟩
  | h1 w y ih =>
    rw [List.foldl_append, List.foldl_cons, List.foldl_nil]
    generalize w.foldl (fstepR l) (0, σ) = a at *
    unfold fstepR
    split
    · exact ih
    · split
      · exact ih
      · exact ih
theorem walkL_eq {σ τ : Dk} (h1 : τ.dirs = σ.dirs) (h2 : ∀ a b, look a σ.dirs = some b → (τ.dr b).map (·.now) = (σ.dr b).map (·.now)) (h3 : τ.mp = σ.mp) : walkL τ = walkL σ := by
  unfold walkL
  rw [h1, List.flatMap_def, List.flatMap_def]
  congr 1
  apply List.map_congr_left
  intro a ha
  unfold walkD
  rw [h1]
  cases hl : look a σ.dirs with
  | none => rfl
  | some b =>
    rw [Option.bind_some, Option.bind_some]
    have := h2 a b hl
    unfold Dk.at
    rw [h3]
    cases hd : σ.dr b with
    | none => rw [hd] at this; cases hd' : τ.dr b with
      | none => rfl
      | some d => rw [hd'] at this; cases this
    | some d =>
      rw [hd] at this
      cases hd' : τ.dr b with
      | none => rw [hd'] at this; cases this
      | some d' =>
        rw [hd'] at this
        have hn : d'.now = d.now := by simpa using this
        rw [Option.bind_some, Option.bind_some, hn]
        cases σ.mp d.now <;> rfl

/-- All names stand fast; all bytes that have names do. -/
def Still (σ : Dk) : Prop := ∀ a b d, look a σ.dirs = some b → σ.dr b = some d → d.was = []
def Fast (σ : Dk) : Prop := ∀ e ∈ walkL σ, ∀ c, σ.fl e.2 = some c → unsW c.opn ≤ 0
theorem crashD_still {σ : Dk} (S : Still σ) (names : List Int) : ∀ w, crashD σ names w = (0, σ) := fun w => by
  induction w using snoc_ind with
  | h0 => rfl
  | h1 w n ih =>
    rw [crashD_snoc, ih]
    rcases dstep_cases names (0, σ) n with h | ⟨b, d, h1, h2, h3, _⟩
    · exact h
    · exact absurd (S n b d h1 h2) h3
theorem foldF_fast {σ : Dk} (l : List Int) : ∀ w : List Nat, (∀ x ∈ w, ∀ c, σ.fl x = some c → unsW c.opn ≤ 0) → w.foldl (fstepR l) (0, σ) = (0, σ) := fun w => by
  induction w using snoc_ind with
  | h0 => intro _; rfl
  | h1 w y ih =>
    intro h
    rw [List.foldl_append, ih fun x hx => h x (List.mem_append_left _ hx), List.foldl_cons, List.foldl_nil]
    unfold fstepR
    cases hc : σ.fl y with
    | none => simp only [hc]
    | some c =>
      simp only [hc]
      rw [if_neg]
      have := h y (by simp) c hc
      omega
theorem crashR_still {σ : Dk} (S : Still σ) (keeps names : List Int) : crashR σ keeps names = zero ((distinct ((walkL σ).map (·.2))).foldl (fstepR keeps) (0, σ)).2 := by
  unfold crashR
  rw [crashD_still S]
  simp only
  rw [crashF_eq]; rfl
theorem crashR_quiet {σ : Dk} (S : Still σ) (F : Fast σ) (keeps names : List Int) : crashR σ keeps names = zero σ := by
  rw [crashR_still S, foldF_fast keeps _ fun x hx c hc => ?_]
  obtain ⟨e, he, rfl⟩ := List.mem_map.1 ((mem_distinct _).1 hx)
  exact F e he c hc
theorem crashD_was (σ : Dk) (names : List Int) : ∀ w : List Tx, ∀ a ∈ w, ∀ b d, look a σ.dirs = some b → (crashD σ names w).2.dr b = some d → d.was = [] := fun w => by
  induction w using snoc_ind with
  | h0 => intro a h; cases h
  | h1 w n ih =>
    intro a ha b d hl hd
    have hdirs : ∀ w, (crashD σ names w).2.dirs = σ.dirs := fun w => by
      induction w using snoc_ind with
      | h0 => rfl
      | h1 w n ih =>
        rw [crashD_snoc]
        rcases dstep_cases names (crashD σ names w) n with h | ⟨_, _, _, _, _, h⟩ <;> rw [h]
        · exact ih
        · exact ih
    rw [crashD_snoc] at hd
    by_cases han : a = n
    · subst han
      rcases dstep_cases names (crashD σ names w) a with h | ⟨b', d', h1, h2, h3, h⟩
      · rw [h] at hd
        unfold dstep at h
        rw [hdirs, hl, Option.bind_some, hd] at h
        simp only [Option.map_some] at h
        by_cases hw : d.was = []
        · exact hw
        · rw [if_neg hw] at h
          have := congrArg Prod.fst h
          simp at this
      · rw [h] at hd
        rw [hdirs, hl] at h1; cases h1
        have : upd (crashD σ names w).2.dr b _ b = some d := hd
        rw [upd_same] at this; cases this; rfl
    · have haw : a ∈ w := (List.mem_append.1 ha).resolve_right fun z => han (List.mem_singleton.1 z)
      rcases dstep_cases names (crashD σ names w) n with h | ⟨b', d', h1, h2, h3, h⟩
      · rw [h] at hd; exact ih a haw b d hl hd
      · rw [h] at hd
        have hd : upd (crashD σ names w).2.dr b' _ b = some d := hd
        by_cases hb : b = b'
        · subst hb; rw [upd_same] at hd; cases hd; rfl
        · rw [upd_ne hb] at hd; exact ih a haw b d hl hd
/-- Behind a crash all stands fast. -/
theorem crashR_fast (σ : Dk) (keeps names : List Int) : Still (crashR σ keeps names) ∧ Fast (crashR σ keeps names) := by
  unfold crashR
  simp only
  have hw := crashD_was σ names (keysOf σ.dirs)
  have hdirs : (crashD σ names (keysOf σ.dirs)).2.dirs = σ.dirs := by
    generalize keysOf σ.dirs = w
    induction w using snoc_ind with
    | h0 => rfl
    | h1 w n ih =>
      rw [crashD_snoc]
      rcases dstep_cases names (crashD σ names w) n with h | ⟨_, _, _, _, _, h⟩ <;> rw [h]
      · exact ih
      · exact ih
  generalize (crashD σ names (keysOf σ.dirs)).2 = τ at *
  rw [crashF_eq]
  obtain ⟨k1, k2, k3⟩ := foldF_keep keeps τ (distinct ((walkL τ).map (·.2)))
  have kk := fun x c h => foldF_at keeps (σ := τ) (x := x) (c := c) h (distinct ((walkL τ).map (·.2)))
  generalize hρ : ((distinct ((walkL τ).map (·.2))).foldl (fstepR keeps) (0, τ)).2 = ρ at *
  refine ⟨fun a b d hl hd => ?_, fun e he c hc => ?_⟩
  · have hl : look a ρ.dirs = some b := hl
    have hd : ρ.dr b = some d := hd
    rw [k1, hdirs] at hl
    rw [k2] at hd
    exact hw a (look_keys hl) b d hl hd
  · have hwalk : walkL ({ ρ with fail := ⟨0, 0, 0⟩, stop := ⟨0, 0, 0⟩ } : Dk) = walkL τ := walkL_eq k1 (fun a b _ => by show (ρ.dr b).map _ = _; rw [k2]) k3
    rw [hwalk] at he
    have hc : ρ.fl e.2 = some c := hc
    cases hτ : τ.fl e.2 with
    | none =>
      exfalso
      have key : ∀ w : List Nat, (w.foldl (fstepR keeps) (0, τ)).2.fl e.2 = none := fun w => by
        induction w using snoc_ind with
        | h0 => exact hτ
        | h1 w y ih =>
          rw [List.foldl_append, List.foldl_cons, List.foldl_nil]
          generalize w.foldl (fstepR keeps) (0, τ) = a at *
          unfold fstepR
          split
          · exact ih
          · rename_i c' hc'
            split
            · show upd _ _ _ _ = _
              rw [upd_ne]; exact ih
              rintro h; rw [h] at ih; rw [ih] at hc'; cases hc'
            · exact ih
      have := key (distinct ((walkL τ).map (·.2)))
      rw [hρ, hc] at this; cases this
    | some c0 =>
      obtain ⟨c', h1, _, _, h4⟩ := kk e.2 c0 hτ
      rw [hc] at h1; cases h1
      exact h4 ((mem_distinct _).2 (List.mem_map.2 ⟨e, he, rfl⟩))

/-- A path that is walked leads to its file. -/
theorem pathOf_join {d n : Tx} (hd : okName d = true) (hn : okName n = true) : pathOf (d ++ 47 :: n) = some (d, n) := by
  have h47 : ∀ x ∈ d, (x != 47) = true := fun x hx => by
    unfold okName at hd
    rw [Bool.and_eq_true, List.all_eq_true] at hd
    have := hd.2 x hx
    unfold okC at this
    have := (of_decide_eq_true this).2.2
    simp only [bne_iff_ne, ne_eq]
    rintro rfl; exact this rfl
  have ht : (d ++ 47 :: n).takeWhile (· != 47) = d := by
    rw [List.takeWhile_append_of_pos h47]; simp
  have hdr : (d ++ 47 :: n).dropWhile (· != 47) = 47 :: n := by
    rw [List.dropWhile_append_of_pos h47]; simp [List.dropWhile_cons]
  unfold pathOf
  rw [ht, hdr, if_pos ⟨by simp, hd, hn⟩]; rfl
theorem walk_file {σ : Dk} (W : Wf σ) {e : Tx × Nat} (he : e ∈ walkL σ) : fileE σ e.1 = (some e.2, 0) ∧ (∃ c, σ.fl e.2 = some c) ∧ e.1.length ≤ 65 := by
  unfold walkL at he
  obtain ⟨d, hd, he⟩ := List.mem_flatMap.1 he
  obtain ⟨p, hp, hpe⟩ := List.mem_map.1 (keysOf_mem.1 hd)
  have okd : okName d = true := by rw [← hpe]; exact W.names p hp
  unfold walkD at he
  split at he
  · rename_i dd m hm
    obtain ⟨b, hb, hat⟩ := Option.bind_eq_some_iff.1 hm
    obtain ⟨hdd, hmm⟩ := Dk.at_some.1 hat
    obtain ⟨n, hn, rfl⟩ := List.mem_map.1 he
    obtain ⟨q, hq, hqe⟩ := List.mem_map.1 (keysOf_mem.1 hn)
    have okn : okName n = true := by rw [← hqe]; exact W.names' _ _ hmm q hq
    obtain ⟨x, hx⟩ := look_isSome (keysOf_mem.1 hn)
    rw [hx]
    refine ⟨fileE_two (b := b) (dd := dd) (m := m) ?_ hdd hmm hx, W.files _ _ hmm (n, x) (look_mem hx), ?_⟩
    · unfold pathE; rw [pathOf_join okd okn]; simp only [hb]
    · have := okName_len okd; have := okName_len okn
      simp; omega
  · cases he

structure Set1 (σ τ : Dk) (w : List Tx) : Prop where
  dirs : τ.dirs = σ.dirs
  mp : τ.mp = σ.mp
  fl : τ.fl = σ.fl
  calm : Calm τ
  q : τ.quota = σ.quota
  now : ∀ b, (τ.dr b).map (·.now) = (σ.dr b).map (·.now)
  was : ∀ a ∈ w, ∀ b d, look a σ.dirs = some b → τ.dr b = some d → d.was = []
theorem Set1.step {σ τ : Dk} {w : List Tx} (W : Wf σ) (S : Set1 σ τ w) {a : Tx} (ha : a ∈ keysOf σ.dirs) : (syncDirR τ a).1 = 0 ∧ Set1 σ (syncDirR τ a).2 (w ++ [a]) := by
  obtain ⟨b, hb⟩ := look_isSome (keysOf_mem.1 ha)
  obtain ⟨p, hp, hpe⟩ := List.mem_map.1 (keysOf_mem.1 ha)
  have oka : okName a = true := by rw [← hpe]; exact W.names p hp
  obtain ⟨d0, hd0⟩ := W.dirs _ (look_mem hb)
  have hn := S.now b
  rw [hd0] at hn
  obtain ⟨d, hd, hdn⟩ := Option.map_eq_some_iff.1 hn
  have he := syncDirR_eq oka (by rw [S.dirs]; exact hb) hd
  rw [S.calm.change] at he
  rw [he, if_neg (fun z => z rfl)]
  refine ⟨rfl, S.dirs, S.mp, S.fl, S.calm, S.q, fun b' => ?_, fun a' ha' b' d' hl hd' => ?_⟩
  · show (upd τ.dr b ⟨d.now, []⟩ b').map _ = _
    by_cases h : b' = b
    · subst h; rw [upd_same, hd0]; exact congrArg some (show d.now = d0.now from hdn)
    · rw [upd_ne h]; exact S.now b'
  · have hd' : upd τ.dr b ⟨d.now, []⟩ b' = some d' := hd'
    by_cases h : b' = b
    · subst h; rw [upd_same] at hd'; cases hd'; rfl
    · rw [upd_ne h] at hd'
      rcases List.mem_append.1 ha' with ha' | ha'
      · exact S.was a' ha' b' d' hl hd'
      · rw [List.mem_singleton.1 ha', hb] at hl; cases hl; exact absurd rfl h

end Go.V.YtdeihieblljfcaaGreat
set_option linter.unusedVariables false
set_option linter.unusedSimpArgs false
/-! settles, Images, Begins, played. -/
namespace Go.V.YtdeihieblljfcaaGreat
open Go Go.V

/-- settles. -/
theorem c11 {h0 h : Heap} {lab : Labs} {f D : Nat} {σ : Dk} {n : Nat} (L : Live h0 h lab f D σ n) (hn : n ≤ 4398046500000) {R : Bool → Heap → Prop}
    (k : ∀ h' τ, Set1 σ τ (keysOf σ.dirs) → Live h0 h' lab f D τ (n + 200) → Stp lab h lab h' → R true h') : Call Go.Proofs.Tryz.prog 11 [.lf (.ptr (some (f, 0)))] h [.one .bool] R := by
  have G := L.G
  refine ok11 (c42 L.X fun h1 X1 s1 => c43 X1 fun h2 X2 s2 => c44 X2 fun s h3 o3 f3 => ?_)
  have st3 : Stp lab h lab h3 := (s1.trans s2).trans (Stp.of0 f3.ext)
  let τ0 : Dk := { σ with fail := ⟨0, if (0 : Int) > 0 then 0 else 0, 0⟩, stop := ⟨0, -1, 0⟩ }
  have X3 : DW h3 lab f D τ0 := X2.ext0 f3.ext
  have G3 : FF τ0 n := ⟨⟨⟨by show (-9223372036854775808 : Int) ≤ 0; omega, by show (0 : Int) ≤ 9223372036854775807; omega, Int.le_refl 0, Int.natCast_nonneg n⟩, ⟨by show (-9223372036854775808 : Int) ≤ 0; omega, by show (0 : Int) ≤ 9223372036854775807; omega, Int.le_refl 0, Int.natCast_nonneg n⟩, G.F.was, G.F.opn⟩, G.Z⟩
  have S0 : Set1 σ τ0 [] := ⟨rfl, rfl, rfl, ⟨by show (0 : Int) < 1; omega, by show (0 : Int) < 1; omega⟩, rfl, fun _ => rfl, fun a ha => by cases ha⟩
  have o3 : Own 1 sF h3 s (keysOf σ.dirs) := o3
  have hol := o3.len
  have hkl : (keysOf σ.dirs).length ≤ 64 := by rw [keysOf_len]; exact L.X.W.most
  refine ⟨fun i hh d => ∃ (m : Nat) (τ : Dk), i = (m : Int) ∧ m ≤ (keysOf σ.dirs).length ∧ Set1 σ τ ((keysOf σ.dirs).take m) ∧ DW hh lab f D τ ∧ FF τ (n + 3 * m) ∧ Stp lab h lab hh ∧ Own 1 sF hh s (keysOf σ.dirs) ∧ d = (keysOf σ.dirs).length - m, ⟨_, 0, τ0, rfl, Nat.zero_le _, by rw [List.take_zero]; exact S0, X3, G3, st3, o3, rfl⟩, ?_⟩
  rintro i h7 d ⟨m, τ, rfl, hm, S, X7, G7, st7, o7, rfl⟩
  refine Br.dec (fun hlt => ?_) fun hge => ?_
  · have hlt' : m < (keysOf σ.dirs).length := by omega
    have hget := List.getElem?_eq_getElem hlt'
    have hmem := List.getElem_mem hlt'
    obtain ⟨g1, g2⟩ := S.step L.X.W hmem
    refine (o7.arr sF_sized).ix rfl hget fun b9 b10 hc => ⟨_, hc, c40 X7 G7.F (by omega) fun h13 X13 s13 => ?_⟩
    rw [g1]
    refine Br.f rfl ⟨(keysOf σ.dirs).length - (m + 1), by omega, m + 1, _, by rw [wi64 (by omega) (by omega)]; rfl, by omega, ?_, X13, ?_, st7.trans s13, ?_, rfl⟩
    · rw [List.take_add_one, hget]; exact g2
    · have := G7.syncDir (keysOf σ.dirs)[m]; exact this
    · refine o7.ext s13.ext fun ⟨b, off, hb, hx⟩ => hx ?_
      exact X2.R.free (f3.new _ _ hb)
  · have hm' : m = (keysOf σ.dirs).length := by omega
    subst hm'
    rw [List.take_length] at S
    exact k h7 τ S ⟨X7, G7.mono (by omega), by rw [S.q]; exact L.q, L.fr.go st7⟩ st7

/-- Images, where they are the same. -/
theorem c14 {h : Heap} {B B' : Nat} {s s' : Slc} {os os' : List NdS} {L : List Nd} (a : Arr 4 nF h s os) (I : Im h B s os L) (a' : Arr 4 nF h s' os') (I' : Im h B' s' os' L) (hl : L.length ≤ 1000000) {R : Bool → Heap → Prop} (k : R true h) :
    Call Go.Proofs.Tryz.prog 14 [.lf (.slc s), .lf (.slc s')] h [.one .bool] R := by
  have l1 := a.len
  have l2 := a'.len
  have l3 := I.len
  have l4 := I'.len
  refine ok14 (Br.ne (fun x => absurd (by omega) x) fun _ => ?_)
  refine ⟨fun i hh d => ∃ m : Nat, i = (m : Int) ∧ m ≤ L.length ∧ hh = h ∧ d = L.length - m, ⟨_, 0, rfl, Nat.zero_le _, rfl, rfl⟩, ?_⟩
  rintro i h3 d ⟨m, rfl, hm, rfl, rfl⟩
  refine Br.dec (fun hlt => ?_) fun hge => k
  have hlt' : m < L.length := by omega
  have g1 := List.getElem?_eq_getElem (l := os) (i := m) (by omega)
  have g2 := List.getElem?_eq_getElem (l := os') (i := m) (by omega)
  obtain ⟨e1, o1, e2⟩ := I.at_ m _ _ g1 (List.getElem?_eq_getElem hlt')
  obtain ⟨e3, o2, e4⟩ := I'.at_ m _ _ g2 (List.getElem?_eq_getElem hlt')
  generalize os[m]'_ = o at g1 e1 o1 e2
  generalize os'[m]'_ = o' at g2 e3 o2 e4
  have hp : o.1 = o'.1 := e1.trans e3.symm
  have hq : o.2.2 = o'.2.2 := e2.trans e4.symm
  refine a.ix rfl g1 fun b5 b6 h5 => ⟨_, ⟨h5.1, trivial⟩, a'.ix rfl g2 fun b8 b9 h8 => ⟨_, ⟨h8.1, trivial⟩, ?_⟩⟩
  rw [tx_eq, hp]
  refine Br.f (by simp) ?_
  refine a.ix rfl g1 fun b5 b6 h5 => ⟨_, ⟨h5.2.2.1, trivial⟩, a'.ix rfl g2 fun b8 b9 h8 => ⟨_, ⟨h8.2.2.1, trivial⟩, ?_⟩⟩
  rw [hq]
  refine Br.f (by simp) ?_
  refine a.ix rfl g1 fun b5 b6 h5 => ⟨_, ⟨h5.2.2.2.1, trivial⟩, a'.ix rfl g2 fun b8 b9 h8 => ⟨_, ⟨h8.2.2.2.1, trivial⟩, ?_⟩⟩
  rw [tx_eq, hq]
  refine Br.f (by simp) ?_
  refine a.ix rfl g1 fun b5 b6 h5 => ⟨_, ⟨h5.2.1, trivial⟩, _, dF_bytes (o1.arr dF_sized), a'.ix rfl g2 fun b8 b9 h8 => ⟨_, ⟨h8.2.1, trivial⟩, _, dF_bytes (o2.arr dF_sized), ?_⟩⟩
  rw [tx_eq]
  exact Br.f (by simp) ⟨L.length - (m + 1), by omega, m + 1, by rw [wi64 (by omega) (by omega)]; rfl, by omega, rfl, rfl⟩

/-- The document's New. -/
def Dc.new (q : Int) : Dc := ⟨q, [], [], 0, 0, 0, false⟩
theorem c63 {h : Heap} {q : Int} {R : Option (Nat × Nat) → Int → Heap → Prop} (k0 : q < 0 ∨ q > 268435456 → R none 1 h)
    (k : 0 ≤ q → q ≤ 268435456 → ∀ h', DD h' (fun _ => False) h.size (Dc.new q) → Ext0 h h' → R (some (h.size, 0)) 0 h') : Call Go.Proofs.Tryz.prog 63 [.lf (.int .i64 q)] h [.one .ptr, .one (.int .i64)] R := by
  refine ok63 (Br.dec (fun x => k0 (.inl x)) fun x => Br.dec (fun y => k0 (.inr y)) fun y => New.mk fun b0 h1 hb0 hs1 e1 k1 => ?_)
  subst hb0
  exact k (by omega) (by omega) h1 ⟨⟨_, _, k1, Lst.nil 2 dirF DirQ h1 _, Lst.nil 2 pairF FilQ h1 _⟩, fun i hi => hi.elim, fun x => x⟩ e1
/-- Begins. -/
theorem c25 {h : Heap} (M : MaxL h) {q : Int} {R : Option (Nat × Nat) → Bool → Heap → Prop} (k0 : ∀ h', Ext0 h h' → R none true h')
    (k : ∀ h' lab f D d p, PW h h' lab (fun _ => False) f D d p 61 (Dk.new q) (Dc.new q) (fun _ => none) 0 → R (some (p, 0)) true h') : Call Go.Proofs.Tryz.prog 25 [.lf (.int .i64 q)] h [.one .ptr, .one .bool] R := by
  refine ok25 (c36 M (fun hq => c63 (fun _ => Br.ne (fun x => absurd rfl x) fun _ => Br.f rfl (Br.t rfl (k0 h (Ext.refl _ _)))) fun h1 h2 => by omega) fun q1 q2 f D lab h2 X2 e2 no => ?_)
  refine c63 (fun hq => by omega) fun _ _ h5 Y5 e5 => Br.ne (fun x => absurd rfl x) fun _ => Br.f rfl (Br.f rfl (New.mk fun p h7 hp hs7 e7 k7 => ?_))
  have M0 := M.lt
  have z2 := e2.size
  have z5 := e5.size
  have X7 := (X2.ext0 e5).ext0 e7
  have e07 := (e2.trans e5).trans e7
  have free : ∀ i, h2.size ≤ i → lab i = none := fun i hi => X2.R.free hi
  have ltd := Y5.ltd
  refine k h7 lab f D h2.size p ⟨⟨X7, ⟨Few.new q, Fine.new q⟩, ⟨q1, q2⟩, ⟨e07, no⟩, Y5.ext0 e7, by show (0 : Int) ≤ _; omega, z2, fun i hi => hi.elim, free _ (Nat.le_refl _), fun i hi => hi.elim, k7, free _ (by omega), by omega, fun x => x, by omega, M0⟩, ?_, Nat.le_refl 0⟩
  exact ⟨rfl, List.Perm.refl _, List.Pairwise.nil, fun a ws h => (by cases h), fun a a' b h => (by cases h), fun i x h => (by cases h), fun i j x h => (by cases h), .inl ⟨.inl (by show (0 : Int) < 1; omega), rfl, rfl⟩, .inl ⟨.inl (by show (0 : Int) < 1; omega), rfl, rfl⟩⟩

/-- Acts as they lie among the arguments. -/
abbrev AcS := Ac × Slc × Slc × Slc
def acF : AcS → List Lf := fun o => [.int .i64 o.1.kind, .str (tx o.1.path), .str (tx o.1.to), .slc o.2.1, .int .i64 o.1.n, .int .i64 o.1.m, .slc o.2.2.1, .slc o.2.2.2]
theorem acF_sized : Sized 8 acF := fun _ => rfl

theorem c10 {h : Heap} (M : MaxL h) {q : Int} {s : Slc} {os : List AcS} (A : Arr 8 acF h s os) (hA : ∀ o ∈ os, AcR h o.2.1 o.2.2.1 o.2.2.2 o.1) (hl : os.length ≤ 700000000000) {R : Option (Nat × Nat) → Bool → Heap → Prop} (k0 : ∀ h', Ext0 h h' → R none true h')
    (k : ∀ h' lab M f D d p σ δ N, PW h h' lab M f D d p 61 σ δ N (3 * os.length) → R (some (f, 0)) true h') : Call Go.Proofs.Tryz.prog 10 [.lf (.int .i64 q), .lf (.slc s)] h [.one .ptr, .one .bool] R := by
  refine ok10 (c25 M (fun h' e => Br.t rfl (k0 h' e)) fun h2 lab2 f D d p P2 => Br.f rfl ?_)
  have hsl := A.len
  refine ⟨fun i hh dd => ∃ (m : Nat) (lab : Labs) (M : Bl) (σ : Dk) (δ : Dc) (N : Num), i = (m : Int) ∧ m ≤ os.length ∧ PW h hh lab M f D d p 61 σ δ N (3 * m) ∧ dd = os.length - m, ⟨_, 0, lab2, _, _, _, _, rfl, Nat.zero_le _, P2, rfl⟩, ?_⟩
  rintro i h6 dd ⟨m, lab, M', σ, δ, N, rfl, hm, P, rfl⟩
  refine Br.dec (fun hlt => ?_) fun hge => ?_
  · have hlt' : m < os.length := by omega
    have hget := List.getElem?_eq_getElem hlt'
    have hAm := hA _ (List.getElem_mem hlt')
    generalize os[m] = o at hget hAm
    have A6 := P.H.old A
    refine A6.ix rfl hget fun b8 b9 hc => ⟨_, ⟨hc.1, trivial⟩, ?_⟩
    have again : ∀ h22 lab' M' σ' δ' N', PW h h22 lab' M' f D d p 61 σ' δ' N' (3 * m + 3) → ∃ b23, b23 < os.length - m ∧ ∃ (m' : Nat) (lab : Labs) (M : Bl) (σ : Dk) (δ : Dc) (N : Num), IntKind.wrap .i64 ((m : Int) + 1) = (m' : Int) ∧ m' ≤ os.length ∧ PW h h22 lab M f D d p 61 σ δ N (3 * m') ∧ b23 = os.length - m' := fun h22 lab' M' σ' δ' N' P' =>
      ⟨os.length - (m + 1), by omega, m + 1, lab', M', σ', δ', N', by rw [wi64 (by omega) (by omega)]; rfl, by omega, by rw [Nat.mul_add]; exact P', rfl⟩
    refine Br.ne (fun _ => A6.ix rfl hget fun b11 b12 hc' => ⟨_, _, _, _, _, _, _, _, hc', ?_⟩) fun _ => again h6 lab M' σ δ N (P.mono (by omega))
    exact c28 P (by omega) hAm ⟨fun h22 lab' M' σ' δ' N' P' _ _ => Br.f rfl (again h22 lab' M' σ' δ' N' P')⟩
  · have hm' : m = os.length := by omega
    subst hm'
    exact NilC.mk rfl ⟨_, P.H.pb.cell rfl, k h6 lab M' f D d p σ δ N P⟩

end Go.V.YtdeihieblljfcaaGreat
