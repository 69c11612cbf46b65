/- This text proves a part of the laws of seat YtdeihieblljfcaaGreat, under no condition: F3p F3q F3r. -/
import Derived.Test.YtdeihieblljfcaaGreatPY
set_option linter.unusedVariables false
set_option linter.unusedSimpArgs false
/-! The disk by the program and by the document: the same. -/
namespace Go.V.YtdeihieblljfcaaGreat
open Go Go.V

abbrev Num := Nat → Option Nat
structure NmOk (N : Num) (σ : Dk) (r : Nat) (l : Nm) : Prop where
  ex : ∃ m, σ.mp r = some m ∧ (m.map (·.1)).Perm (l.map (·.1)) ∧ ∀ n i, (n, i) ∈ l → ∃ x, N i = some x ∧ look n m = some x
  srt : Srt (l.map (·.1))
def Ways (N : Num) (σ : Dk) (rs : List Nat) (ws : List Nm) : Prop := rs.length = ws.length ∧ ∀ (k : Nat) r l, rs[k]? = some r → ws[k]? = some l → NmOk N σ r l
def ScF (s : Sc) (fi ff : Int) : Prop := ((s.frm < 1 ∨ s.many = 0) ∧ fi = 0 ∧ ff = 0) ∨
  (1 ≤ s.frm ∧ 0 < s.many ∧ 0 ≤ s.seen ∧ ((s.seen < s.frm ∧ fi = s.frm - s.seen ∧ ff = s.many) ∨ (s.frm ≤ s.seen ∧ fi = 0 ∧ ((s.seen - s.frm + 1 ≤ s.many ∧ ff = s.many - (s.seen - s.frm + 1)) ∨ (s.many < s.seen - s.frm + 1 ∧ ff = 0)))))
def ScS (s : Sc) (si : Int) (st : Bool) : Prop := ((s.frm < 1 ∨ s.many = 0) ∧ si = 0 ∧ st = false) ∨
  (1 ≤ s.frm ∧ s.many < 0 ∧ 0 ≤ s.seen ∧ ((s.seen < s.frm ∧ si = s.frm - s.seen ∧ st = false) ∨ (s.frm ≤ s.seen ∧ si = 0 ∧ st = true)))
structure Rl (N : Num) (σ : Dk) (δ : Dc) : Prop where
  q : σ.quota = δ.quota
  dk : (σ.dirs.map (·.1)).Perm (δ.dirs.map (·.1))
  srt : Srt (δ.dirs.map (·.1))
  di : ∀ a ws, (a, ws) ∈ δ.dirs → ∃ b d, look a σ.dirs = some b ∧ σ.dr b = some d ∧ Ways N σ (d.was ++ [d.now]) ws
  inj : ∀ a a' b, look a σ.dirs = some b → look a' σ.dirs = some b → a = a'
  fi : ∀ i x, N i = some x → ∃ c, σ.fl x = some c ∧ δ.files[i]? = some (c.fast, c.opn)
  ni : ∀ i j x, N i = some x → N j = some x → i = j
  sf : ScF σ.fail δ.failIn δ.failFor
  ss : ScS σ.stop δ.stopIn δ.stopped

theorem script_rel {N : Num} {σ : Dk} {δ : Dc} (L : Rl N σ δ) : σ.change.1 = (scriptD δ).1 ∧ σ.change.2.1 = (scriptD δ).2.1 ∧ ScF σ.change.2.2.fail (scriptD δ).2.2.failIn (scriptD δ).2.2.failFor ∧ ScS σ.change.2.2.stop (scriptD δ).2.2.stopIn (scriptD δ).2.2.stopped := by
  have hf : (σ.fail.count.1 = decide ((failStep δ).1 = 21)) ∧ ((failStep δ).1 = 0 ∨ (failStep δ).1 = 21) ∧ ((failStep δ).1 = 21 → σ.fail.count.2.1 = (failStep δ).2.1) ∧ ((failStep δ).1 = 0 → (failStep δ).2.1 = false) ∧ ScF σ.fail.count.2.2 (failStep δ).2.2.failIn (failStep δ).2.2.failFor ∧ (failStep δ).2.2.stopIn = δ.stopIn ∧ (failStep δ).2.2.stopped = δ.stopped := by
    rcases L.sf with ⟨h1, h2, h3⟩ | ⟨h1, h2, h3, h⟩
    · have hc : σ.fail.count = (false, false, σ.fail) := by unfold Sc.count; rw [if_pos h1]
      have hs : failStep δ = (0, false, δ) := by unfold failStep; rw [if_neg (by omega), if_neg (by omega), if_neg (by omega)]
      rw [hc, hs]
      exact ⟨rfl, .inl rfl, fun x => (by cases x), fun _ => rfl, .inl ⟨h1, h2, h3⟩, rfl, rfl⟩
    · have hc : σ.fail.count = (decide (0 ≤ σ.fail.seen + 1 - σ.fail.frm ∧ (σ.fail.many < 0 ∨ σ.fail.seen + 1 - σ.fail.frm < σ.fail.many)), decide (σ.fail.seen + 1 - σ.fail.frm = 0), { σ.fail with seen := σ.fail.seen + 1 }) := by unfold Sc.count; rw [if_neg (by omega)]
      rw [hc]
      rcases h with ⟨g1, g2, g3⟩ | ⟨g1, g2, g3⟩
      · by_cases hk : 1 < δ.failIn
        · have hs : failStep δ = (0, false, { δ with failIn := δ.failIn - 1 }) := by unfold failStep; rw [if_pos hk]
          rw [hs]
          refine ⟨?_, .inl rfl, fun x => (by cases x), fun _ => rfl, .inr ⟨h1, h2, by show 0 ≤ σ.fail.seen + 1; omega, .inl ⟨by show σ.fail.seen + 1 < σ.fail.frm; omega, by show δ.failIn - 1 = σ.fail.frm - (σ.fail.seen + 1); omega, g3⟩⟩, rfl, rfl⟩
          show decide _ = decide _
          rw [Bool.eq_iff_iff, decide_eq_true_eq, decide_eq_true_eq]
          exact ⟨fun z => by first | rfl | (simp only at z ⊢; omega), fun z => by first | omega | (simp only at z; omega)⟩
        · have hs : failStep δ = (21, true, { δ with failIn := 0, failFor := δ.failFor - 1 }) := by unfold failStep; rw [if_neg hk, if_pos (by omega)]
          rw [hs]
          refine ⟨?_, .inr rfl, fun _ => ?_, fun x => (by cases x), .inr ⟨h1, h2, by show 0 ≤ σ.fail.seen + 1; omega, .inr ⟨by show σ.fail.frm ≤ σ.fail.seen + 1; omega, rfl, .inl ⟨?_, ?_⟩⟩⟩, rfl, rfl⟩
          · show decide _ = decide _
            rw [Bool.eq_iff_iff, decide_eq_true_eq, decide_eq_true_eq]
            exact ⟨fun z => by first | rfl | (simp only at z ⊢; omega), fun z => by first | omega | (simp only at z; omega)⟩
          · show decide (σ.fail.seen + 1 - σ.fail.frm = 0) = true
            rw [decide_eq_true_eq]; omega
          · show σ.fail.seen + 1 - σ.fail.frm + 1 ≤ σ.fail.many; omega
          · show δ.failFor - 1 = σ.fail.many - (σ.fail.seen + 1 - σ.fail.frm + 1); omega
      · by_cases hk : 0 < δ.failFor
        · have hs : failStep δ = (21, false, { δ with failFor := δ.failFor - 1 }) := by unfold failStep; rw [if_neg (by omega), if_neg (by omega), if_pos hk]
          rw [hs]
          refine ⟨?_, .inr rfl, fun _ => ?_, fun x => (by cases x), .inr ⟨h1, h2, by show 0 ≤ σ.fail.seen + 1; omega, .inr ⟨by show σ.fail.frm ≤ σ.fail.seen + 1; omega, g2, .inl ⟨?_, ?_⟩⟩⟩, rfl, rfl⟩
          · show decide _ = decide _
            rw [Bool.eq_iff_iff, decide_eq_true_eq, decide_eq_true_eq]
            exact ⟨fun z => by first | rfl | (simp only at z ⊢; omega), fun z => by first | omega | (simp only at z; omega)⟩
          · show decide (σ.fail.seen + 1 - σ.fail.frm = 0) = false
            rw [decide_eq_false_iff_not]; omega
          · show σ.fail.seen + 1 - σ.fail.frm + 1 ≤ σ.fail.many; omega
          · show δ.failFor - 1 = σ.fail.many - (σ.fail.seen + 1 - σ.fail.frm + 1); omega
        · have hs : failStep δ = (0, false, δ) := by unfold failStep; rw [if_neg (by omega), if_neg (by omega), if_neg hk]
          rw [hs]
          refine ⟨?_, .inl rfl, fun x => (by cases x), fun _ => rfl, .inr ⟨h1, h2, by show 0 ≤ σ.fail.seen + 1; omega, .inr ⟨by show σ.fail.frm ≤ σ.fail.seen + 1; omega, g2, .inr ⟨?_, ?_⟩⟩⟩, rfl, rfl⟩
          · show decide _ = decide _
            rw [Bool.eq_iff_iff, decide_eq_true_eq, decide_eq_true_eq]
            exact ⟨fun z => by first | rfl | (simp only at z ⊢; omega), fun z => by first | omega | (simp only at z; omega)⟩
          · show σ.fail.many < σ.fail.seen + 1 - σ.fail.frm + 1; omega
          · show δ.failFor = 0; omega
  obtain ⟨f1, f2, f3, f4, f5, f6, f7⟩ := hf
  unfold scriptD Dk.change
  simp only
  generalize failStep δ = a at *
  obtain ⟨e, hf, δ1⟩ := a
  simp only at f1 f2 f3 f4 f5 f6 f7 ⊢
  have base : (if σ.fail.count.1 = true then (21 : Int) else 0) = e ∧ (if σ.fail.count.1 = true then σ.fail.count.2.1 else false) = hf := by
    rcases f2 with h | h
    · subst h
      rw [f1]; simp only [Int.reduceEq, decide_false, Bool.false_eq_true, if_false]
      exact ⟨trivial, (f4 rfl).symm⟩
    · subst h
      rw [f1]; simp only [decide_true, if_true]
      exact ⟨trivial, f3 rfl⟩
  rcases L.ss with ⟨h1, h2, h3⟩ | ⟨h1, h2, h3, h⟩
  · have hc : σ.stop.count = (false, false, σ.stop) := by unfold Sc.count; rw [if_pos h1]
    have hs : stopStep e hf δ1 = (e, hf, δ1) := by unfold stopStep; rw [if_neg (by rw [f7, h3]; simp), if_neg (by omega), if_neg (by omega)]
    rw [hc, hs]
    simp only [Bool.false_eq_true, if_false]
    exact ⟨base.1, base.2, f5, .inl ⟨h1, f6.trans h2, f7.trans h3⟩⟩
  · have hc : σ.stop.count = (decide (0 ≤ σ.stop.seen + 1 - σ.stop.frm ∧ (σ.stop.many < 0 ∨ σ.stop.seen + 1 - σ.stop.frm < σ.stop.many)), decide (σ.stop.seen + 1 - σ.stop.frm = 0), { σ.stop with seen := σ.stop.seen + 1 }) := by unfold Sc.count; rw [if_neg (by omega)]
    rw [hc]
    rcases h with ⟨g1, g2, g3⟩ | ⟨g1, g2, g3⟩
    · by_cases hk : 1 < δ.stopIn
      · have hs : stopStep e hf δ1 = (e, hf, { δ1 with stopIn := δ1.stopIn - 1 }) := by unfold stopStep; rw [if_neg (by rw [f7, g3]; simp), if_pos (by omega)]
        rw [hs, decide_eq_false (by omega)]
        simp only [Bool.false_eq_true, if_false]
        exact ⟨base.1, base.2, f5, .inr ⟨h1, h2, by show 0 ≤ σ.stop.seen + 1; omega, .inl ⟨by show σ.stop.seen + 1 < σ.stop.frm; omega, by show δ1.stopIn - 1 = σ.stop.frm - (σ.stop.seen + 1); omega, f7.trans g3⟩⟩⟩
      · have hs : stopStep e hf δ1 = (22, true, { δ1 with stopIn := 0, stopped := true }) := by unfold stopStep; rw [if_neg (by rw [f7, g3]; simp), if_neg (by omega), if_pos (by omega)]
        rw [hs, decide_eq_true (by omega), decide_eq_true (by omega)]
        simp only [if_true]
        exact ⟨trivial, trivial, f5, .inr ⟨h1, h2, by show 0 ≤ σ.stop.seen + 1; omega, .inr ⟨by show σ.stop.frm ≤ σ.stop.seen + 1; omega, rfl, rfl⟩⟩⟩
    · have hs : stopStep e hf δ1 = (22, false, δ1) := by unfold stopStep; rw [if_pos (f7.trans g3)]
      rw [hs, decide_eq_true (by omega), decide_eq_false (by omega)]
      simp only [if_true]
      exact ⟨trivial, trivial, f5, .inr ⟨h1, h2, by show 0 ≤ σ.stop.seen + 1; omega, .inr ⟨by show σ.stop.frm ≤ σ.stop.seen + 1; omega, f6.trans g2, f7.trans g3⟩⟩⟩

theorem NmOk.mono {N N' : Num} {σ σ' : Dk} {r : Nat} {l : Nm} (h : NmOk N σ r l) (hN : ∀ i x, N i = some x → N' i = some x) (hm : ∀ m, σ.mp r = some m → σ'.mp r = some m) : NmOk N' σ' r l := by
  obtain ⟨m, h1, h2, h3⟩ := h.ex
  exact ⟨⟨m, hm m h1, h2, fun n i hi => let ⟨x, hx, hl⟩ := h3 n i hi; ⟨x, hN i x hx, hl⟩⟩, h.srt⟩
theorem Ways.mono {N N' : Num} {σ σ' : Dk} {rs : List Nat} {ws : List Nm} (h : Ways N σ rs ws) (hN : ∀ i x, N i = some x → N' i = some x) (hm : ∀ r m, σ.mp r = some m → σ'.mp r = some m) : Ways N' σ' rs ws :=
  ⟨h.1, fun k r l h1 h2 => (h.2 k r l h1 h2).mono hN (hm r)⟩
theorem Rl.script {N : Num} {σ : Dk} {δ : Dc} (L : Rl N σ δ) : Rl N σ.change.2.2 (scriptD δ).2.2 := by
  obtain ⟨_, _, h3, h4⟩ := script_rel L
  have hk := scriptD_keep δ
  exact ⟨L.q.trans hk.1.symm, by rw [hk.2.1]; exact L.dk, by rw [hk.2.1]; exact L.srt, fun a ws h => by
    rw [hk.2.1] at h
    obtain ⟨b, d, h1, h2, h3⟩ := L.di a ws h
    exact ⟨b, d, h1, h2, h3.mono (fun _ _ x => x) fun _ _ x => x⟩, L.inj, fun i x h => by rw [hk.2.2]; exact L.fi i x h, L.ni, h3, h4⟩

theorem NmOk.keys {N : Num} {σ : Dk} {r : Nat} {l : Nm} (h : NmOk N σ r l) {m : List (Tx × Nat)} (hm : σ.mp r = some m) : keysOf m = l.map (·.1) ∧ m.length = l.length := by
  obtain ⟨m', h1, h2, h3⟩ := h.ex
  rw [hm] at h1; cases h1
  refine ⟨?_, by have := h2.length_eq; simpa using this⟩
  unfold keysOf
  rw [sortT_of_perm h2]; exact sortT_srt h.srt
theorem NmOk.look {N : Num} {σ : Dk} {r : Nat} {l : Nm} (h : NmOk N σ r l) {m : List (Tx × Nat)} (hm : σ.mp r = some m) (n : Tx) :
    (look n m = none ∧ look n l = none) ∨ ∃ i x, look n l = some i ∧ look n m = some x ∧ N i = some x := by
  obtain ⟨m', h1, h2, h3⟩ := h.ex
  rw [hm] at h1; cases h1
  by_cases hn : n ∈ l.map (·.1)
  · right
    obtain ⟨p, hp, rfl⟩ := List.mem_map.1 hn
    obtain ⟨x, hx, hl⟩ := h3 p.1 p.2 hp
    exact ⟨p.2, x, mem_look h.srt.nodup hp, hl, hx⟩
  · exact .inl ⟨look_isNone fun x => hn (h2.mem_iff.1 x), look_isNone hn⟩

theorem NmOk.put {N : Num} {σ σ' : Dk} {r r' : Nat} {l : Nm} (h : NmOk N σ r l) {m : List (Tx × Nat)} (hm : σ.mp r = some m) {n : Tx} {i x : Nat} (hi : N i = some x) (hr : σ'.mp r' = some (putN n x m)) : NmOk N σ' r' (withD n (i : Int) l) := by
  obtain ⟨m', h1, h2, h3⟩ := h.ex
  rw [hm] at h1; cases h1
  refine ⟨⟨_, hr, ?_, fun k j hj => ?_⟩, withD_nat_srt h.srt⟩
  · refine List.Perm.trans ?_ (withD_nat_keys h.srt).symm
    rw [putN_keys]
    by_cases hn : n ∈ m.map (·.1)
    · rw [if_pos hn, if_pos (h2.mem_iff.1 hn)]; exact h2
    · rw [if_neg hn, if_neg fun z => hn (h2.mem_iff.2 z)]; exact h2.append_right _
  · rw [look_putN]
    rcases withD_nat_mem h.srt hj with e | ⟨h4, h5⟩
    · cases e; exact ⟨x, hi, if_pos rfl⟩
    · rw [if_neg h5]; exact h3 k j h4
theorem NmOk.del {N : Num} {σ σ' : Dk} {r r' : Nat} {l : Nm} (h : NmOk N σ r l) {m : List (Tx × Nat)} (hm : σ.mp r = some m) {n : Tx} (hr : σ'.mp r' = some (delN n m)) : NmOk N σ' r' (withD n (-1) l) := by
  obtain ⟨m', h1, h2, h3⟩ := h.ex
  rw [hm] at h1; cases h1
  obtain ⟨s1, s2⟩ := withD_neg_keys (n := n) h.srt
  refine ⟨⟨_, hr, ?_, fun k j hj => ?_⟩, s1⟩
  · rw [s2, delN_keys]; exact h2.erase n
  · rw [withD_neg] at hj
    obtain ⟨h4, h5⟩ := List.mem_filter.1 hj
    rw [look_delN (by simpa using h5)]; exact h3 k j h4

theorem Rl.dirs {N : Num} {σ : Dk} {δ : Dc} (L : Rl N σ δ) (a : Tx) : (look a σ.dirs = none ∧ ixOf a δ.dirs = none) ∨ ∃ i ws b d, ixOf a δ.dirs = some i ∧ δ.dirs[i]? = some (a, ws) ∧ look a σ.dirs = some b ∧ σ.dr b = some d ∧ Ways N σ (d.was ++ [d.now]) ws := by
  cases hi : ixOf a δ.dirs with
  | none =>
    left
    refine ⟨look_isNone fun h => ?_, rfl⟩
    obtain ⟨p, hp, he⟩ := List.mem_map.1 (L.dk.mem_iff.1 h)
    obtain ⟨j, hj⟩ := List.mem_iff_getElem?.1 hp
    have : ixOf a δ.dirs ≠ none := by
      have key : ∀ (l : List (Tx × List Nm)) (p : Tx × List Nm), p ∈ l → p.1 = a → ixOf a l ≠ none := fun l => by
        induction l with
        | nil => intro p hp; cases hp
        | cons q r ih =>
          intro p hp he
          unfold ixOf
          split
          · simp
          · rename_i hq
            rcases List.mem_cons.1 hp with rfl | hp
            · exact absurd he hq
            · have := ih p hp he
              cases hx : ixOf a r with
              | none => exact absurd hx this
              | some y => simp
      exact key _ p hp he
    exact this hi
  | some i =>
    right
    obtain ⟨ws, hw⟩ := ixOf_some hi
    obtain ⟨b, d, h1, h2, h3⟩ := L.di a ws (List.mem_of_getElem? hw)
    exact ⟨i, ws, b, d, rfl, hw, h1, h2, h3⟩
theorem Ways.now {N : Num} {σ : Dk} {d : Dr} {ws : List Nm} (h : Ways N σ (d.was ++ [d.now]) ws) : ∃ l, ws.getLast? = some l ∧ NmOk N σ d.now l ∧ ws.length = d.was.length + 1 := by
  have hl : ws.length = d.was.length + 1 := by rw [← h.1]; simp
  have hlt : d.was.length < ws.length := by omega
  refine ⟨ws[d.was.length], ?_, h.2 d.was.length _ _ (by simp) (List.getElem?_eq_getElem hlt), hl⟩
  rw [List.getLast?_eq_getElem?, hl, Nat.add_sub_cancel, List.getElem?_eq_getElem hlt]
structure At2 (N : Num) (σ : Dk) (δ : Dc) (a : Tx) (i b : Nat) (ws : List Nm) (d : Dr) (m : List (Tx × Nat)) (l : Nm) : Prop where
  ix : ixOf a δ.dirs = some i
  di : δ.dirs[i]? = some (a, ws)
  lk : look a σ.dirs = some b
  dr : σ.dr b = some d
  wy : Ways N σ (d.was ++ [d.now]) ws
  mp : σ.mp d.now = some m
  nw : nowD δ i = some l
  ok : NmOk N σ d.now l
  at_ : σ.at b = some (d, m)
theorem Rl.at2 {N : Num} {σ : Dk} {δ : Dc} (L : Rl N σ δ) (a : Tx) : (look a σ.dirs = none ∧ ixOf a δ.dirs = none) ∨ ∃ i b ws d m l, At2 N σ δ a i b ws d m l := by
  rcases L.dirs a with h | ⟨i, ws, b, d, h1, h2, h3, h4, h5⟩
  · exact .inl h
  · right
    obtain ⟨l, hl, ok, hlen⟩ := h5.now
    obtain ⟨m, hm, _⟩ := ok.ex
    exact ⟨i, b, ws, d, m, l, h1, h2, h3, h4, h5, hm, by unfold nowD; rw [h2]; exact hl, ok, Dk.at_some.2 ⟨h4, hm⟩⟩
theorem Rl.path {N : Num} {σ : Dk} {δ : Dc} (L : Rl N σ δ) (l : Tx) : (∃ e, pathE σ l = (none, e) ∧ placeD δ l = (none, e)) ∨
    ∃ a n i b ws d m q, pathE σ l = (some (b, n), 0) ∧ placeD δ l = (some (i, n), 0) ∧ At2 N σ δ a i b ws d m q := by
  unfold pathE placeD
  cases hp : pathOf l with
  | none => exact .inl ⟨1, rfl, rfl⟩
  | some p =>
    obtain ⟨a, n⟩ := p
    rcases L.at2 a with ⟨h1, h2⟩ | ⟨i, b, ws, d, m, q, A⟩
    · left; exact ⟨6, by simp only [h1], by simp only [h2]⟩
    · right; exact ⟨a, n, i, b, ws, d, m, q, by simp only [A.lk], by simp only [A.ix], A⟩
theorem Rl.file {N : Num} {σ : Dk} {δ : Dc} (L : Rl N σ δ) (l : Tx) : (∃ e, fileE σ l = (none, e) ∧ fileD δ l = (none, e)) ∨
    ∃ x i c, fileE σ l = (some x, 0) ∧ fileD δ l = (some i, 0) ∧ N i = some x ∧ σ.fl x = some c ∧ δ.files[i]? = some (c.fast, c.opn) := by
  unfold fileE fileD
  rcases L.path l with ⟨e, h1, h2⟩ | ⟨a, n, i, b, ws, d, m, q, h1, h2, A⟩
  · left; exact ⟨e, by rw [h1], by rw [h2]⟩
  · rw [h1, h2]
    simp only [A.dr, Option.bind_some, A.mp, A.nw]
    rcases A.ok.look A.mp n with ⟨h3, h4⟩ | ⟨j, x, h3, h4, h5⟩
    · left; exact ⟨6, by rw [h3], by rw [h4]⟩
    · right
      obtain ⟨c, h6, h7⟩ := L.fi j x h5
      exact ⟨x, j, c, by rw [h4], by rw [h3], h5, h6, h7⟩
theorem Rl.find {N : Num} {σ : Dk} {δ : Dc} (L : Rl N σ δ) (l : Tx) : (∃ e, findE σ l = (none, e) ∧ dirE δ l = (none, e)) ∨
    ∃ i b ws d m q, findE σ l = (some b, 0) ∧ dirE δ l = (some i, 0) ∧ At2 N σ δ l i b ws d m q := by
  unfold findE dirE
  by_cases ho : okName l = true
  · rw [if_pos ho, if_pos ho]
    rcases L.at2 l with ⟨h1, h2⟩ | ⟨i, b, ws, d, m, q, A⟩
    · left; exact ⟨6, by simp only [h1], by simp only [h2]⟩
    · right; exact ⟨i, b, ws, d, m, q, by simp only [A.lk], by simp only [A.ix], A⟩
  · rw [if_neg ho, if_neg ho]; exact .inl ⟨1, rfl, rfl⟩
theorem At2.script {N : Num} {σ : Dk} {δ : Dc} {a : Tx} {i b : Nat} {ws : List Nm} {d : Dr} {m : List (Tx × Nat)} {l : Nm} (A : At2 N σ δ a i b ws d m l) : At2 N σ.change.2.2 (scriptD δ).2.2 a i b ws d m l := by
  have hk := (scriptD_keep δ).2.1
  exact ⟨by rw [hk]; exact A.ix, by rw [hk]; exact A.di, A.lk, A.dr, A.wy.mono (fun _ _ x => x) fun _ _ x => x, A.mp, (nowD_script δ i).trans A.nw, A.ok.mono (fun _ _ x => x) fun _ x => x, A.at_⟩

theorem Rl.chg {N : Num} {σ : Dk} {δ : Dc} (L : Rl N σ δ) {a : Tx} {i b : Nat} {ws : List Nm} {d : Dr} {m : List (Tx × Nat)} {l : Nm} (A : At2 N σ δ a i b ws d m l) {r : Nat} (hr : σ.mp r = none) {m' : List (Tx × Nat)} {l' : Nm}
    (ok : NmOk N (σ.chg b d r m') r l') : Rl N (σ.chg b d r m') (chgD δ i l') := by
  have hc : chgD δ i l' = { δ with dirs := δ.dirs.set i (a, ws ++ [l']) } := by unfold chgD; rw [A.di]
  have hi := ltOf A.di
  have hkeys : (δ.dirs.set i (a, ws ++ [l'])).map (·.1) = δ.dirs.map (·.1) := by
    rw [List.map_set]
    apply List.ext_getElem?
    intro k
    rw [List.getElem?_set]
    split
    · rename_i e; subst e
      rw [List.length_map, if_pos hi, List.getElem?_map, A.di]; rfl
    · rfl
  have hm : ∀ r' q, σ.mp r' = some q → (σ.chg b d r m').mp r' = some q := fun r' q h => by
    show upd _ _ _ _ = _
    rw [upd_ne]; exact h
    rintro rfl; rw [hr] at h; cases h
  rw [hc]
  refine ⟨L.q, by rw [hkeys]; exact L.dk, by rw [hkeys]; exact L.srt, fun a' ws' h => ?_, L.inj, L.fi, L.ni, L.sf, L.ss⟩
  obtain ⟨k, hk⟩ := List.mem_iff_getElem?.1 h
  rw [List.getElem?_set] at hk
  split at hk
  · rename_i e; subst e
    (try rw [if_pos hi] at hk)
    cases hk
    refine ⟨b, ⟨r, d.was ++ [d.now]⟩, A.lk, upd_same _ _ _, ?_, fun k r' q h1 h2 => ?_⟩
    · have := A.wy.1; simp at this ⊢; omega
    · have hwl := A.wy.1
      rw [List.length_append, List.length_singleton] at hwl
      simp only at h1
      by_cases hkl : k < (d.was ++ [d.now]).length
      · rw [List.getElem?_append_left hkl] at h1
        rw [List.length_append, List.length_singleton] at hkl
        rw [List.getElem?_append_left (by omega)] at h2
        exact (A.wy.2 k r' q h1 h2).mono (fun _ _ x => x) (hm r')
      · rw [List.getElem?_append_right (by omega)] at h1
        rw [List.length_append, List.length_singleton] at h1 hkl
        rw [List.getElem?_append_right (by omega)] at h2
        obtain ⟨e1, e1'⟩ : k - (d.was.length + 1) = 0 ∧ r = r' := by
          cases hz : k - (d.was.length + 1) with
          | zero => rw [hz] at h1; exact ⟨rfl, by simpa using h1⟩
          | succ z => rw [hz] at h1; simp at h1
        have e2 : l' = q := by rw [show k - ws.length = 0 by omega] at h2; simpa using h2
        subst e1' e2; exact ok
  · rename_i hne
    obtain ⟨b', d', h1, h2, h3⟩ := L.di a' ws' (List.mem_of_getElem? hk)
    have hbb : b' ≠ b := fun e => by
      subst e
      have := L.inj _ _ _ h1 A.lk
      subst this
      have nd : (δ.dirs.map (·.1)).Nodup := L.srt.nodup
      have g1 : (δ.dirs.map (·.1))[k]? = some a' := by rw [List.getElem?_map, hk]; rfl
      have g2 : (δ.dirs.map (·.1))[i]? = some a' := by rw [List.getElem?_map, A.di]; rfl
      exact hne ((List.getElem?_inj (by rw [List.length_map]; exact hi) nd).1 (g2.trans g1.symm))
    exact ⟨b', d', h1, by show upd _ _ _ _ = _; rw [upd_ne hbb]; exact h2, h3.mono (fun _ _ x => x) hm⟩

end Go.V.YtdeihieblljfcaaGreat
/-! Call by call, the program's disk and the document's: names. -/
namespace Go.V.YtdeihieblljfcaaGreat
open Go Go.V

theorem noSome : ¬ ((none : Option Nat).isSome = true) := by simp
def ext (N : Num) (i x : Nat) : Num := fun j => if j = i then some x else N j
def Le (N N' : Num) : Prop := ∀ i x, N i = some x → N' i = some x
theorem Le.refl (N : Num) : Le N N := fun _ _ h => h
theorem Le.trans {N N' N'' : Num} (a : Le N N') (b : Le N' N'') : Le N N'' := fun i x h => b i x (a i x h)
theorem At2.mono {N N' : Num} {σ σ' : Dk} {δ δ' : Dc} {a : Tx} {i b : Nat} {ws : List Nm} {d : Dr} {m : List (Tx × Nat)} {l : Nm} (A : At2 N σ δ a i b ws d m l) (hN : Le N N') (h1 : σ'.dirs = σ.dirs) (h2 : σ'.dr = σ.dr) (h3 : σ'.mp = σ.mp) (h4 : δ'.dirs = δ.dirs) : At2 N' σ' δ' a i b ws d m l :=
  ⟨by rw [h4]; exact A.ix, by rw [h4]; exact A.di, by rw [h1]; exact A.lk, by rw [h2]; exact A.dr, A.wy.mono hN fun r m x => by rw [h3]; exact x, by rw [h3]; exact A.mp, by unfold nowD; rw [h4]; exact A.nw, A.ok.mono hN fun m x => by rw [h3]; exact x, Dk.at_some.2 ⟨by rw [h2]; exact A.dr, by rw [h3]; exact A.mp⟩⟩

theorem Rl.newF {N : Num} {σ : Dk} {δ : Dc} (L : Rl N σ δ) {x : Nat} (hx : σ.fl x = none) : Le N (ext N δ.files.length x) ∧ Rl (ext N δ.files.length x) { σ with fl := upd σ.fl x ⟨[], [], []⟩ } { δ with files := δ.files ++ [([], [])] } := by
  have hlt : ∀ i y, N i = some y → i < δ.files.length ∧ y ≠ x := fun i y h => by
    obtain ⟨c, h1, h2⟩ := L.fi i y h
    exact ⟨ltOf h2, fun e => by rw [e, hx] at h1; cases h1⟩
  have hle : Le N (ext N δ.files.length x) := fun i y h => by
    unfold ext; rw [if_neg (by have := (hlt i y h).1; omega)]; exact h
  refine ⟨hle, L.q, L.dk, L.srt, fun a ws h => ?_, L.inj, fun i y h => ?_, fun i j y h1 h2 => ?_, L.sf, L.ss⟩
  · obtain ⟨b, d, h1, h2, h3⟩ := L.di a ws h
    exact ⟨b, d, h1, h2, h3.mono hle fun _ _ x => x⟩
  · unfold ext at h
    by_cases hi : i = δ.files.length
    · rw [if_pos hi] at h; cases h
      exact ⟨⟨[], [], []⟩, upd_same _ _ _, by show (δ.files ++ _)[i]? = _; rw [hi, List.getElem?_append_right (Nat.le_refl _), Nat.sub_self]; rfl⟩
    · rw [if_neg hi] at h
      obtain ⟨c, h1, h2⟩ := L.fi i y h
      exact ⟨c, by show upd _ _ _ _ = _; rw [upd_ne (hlt i y h).2]; exact h1, by show (δ.files ++ _)[i]? = _; rw [List.getElem?_append_left (ltOf h2)]; exact h2⟩
  · unfold ext at h1 h2
    by_cases hi : i = δ.files.length
    · by_cases hj : j = δ.files.length
      · omega
      · rw [if_pos hi] at h1; rw [if_neg hj] at h2; cases h1
        exact absurd rfl (hlt j x h2).2
    · by_cases hj : j = δ.files.length
      · rw [if_neg hi] at h1; rw [if_pos hj] at h2; cases h2
        exact absurd rfl (hlt i x h1).2
      · rw [if_neg hi] at h1; rw [if_neg hj] at h2; exact L.ni i j y h1 h2

theorem create_rel {N : Num} {σ : Dk} {δ : Dc} (L : Rl N σ δ) (l : Tx) {r x : Nat} (hr : σ.mp r = none) (hx : σ.fl x = none) :
    ∃ N', Le N N' ∧ (createR σ l r x).1 = (createD δ l).1 ∧ Rl N' (createR σ l r x).2 (createD δ l).2 := by
  unfold createR createD
  rcases L.path l with ⟨e, h1, h2⟩ | ⟨a, n, i, b, ws, d, m, q, h1, h2, A⟩
  · rw [h1, h2]; exact ⟨N, Le.refl N, rfl, L⟩
  rw [h1, h2]
  simp only [A.at_, A.nw]
  rcases A.ok.look A.mp n with ⟨h3, h4⟩ | ⟨j, y, h3, h4, h5⟩
  rotate_left 1
  · rw [h3, h4, if_pos (show (some y).isSome = true from rfl), if_pos (show (some j).isSome = true from rfl)]; exact ⟨N, Le.refl N, rfl, L⟩
  rw [h3, h4, if_neg noSome, if_neg noSome, (A.ok.keys A.mp).2]
  by_cases hl : 1024 ≤ q.length
  · rw [if_pos hl, if_pos hl]; exact ⟨N, Le.refl N, rfl, L⟩
  rw [if_neg hl, if_neg hl]
  obtain ⟨s1, _, _, _⟩ := script_rel L
  by_cases he : (scriptD δ).1 ≠ 0
  · rw [if_pos he, if_pos (by rw [s1]; exact he)]; exact ⟨N, Le.refl N, s1, L.script⟩
  rw [if_neg he, if_neg (by rw [s1]; exact he)]
  obtain ⟨hle, L2⟩ := L.script.newF (x := x) hx
  have hf := (scriptD_keep δ).2.2
  rw [hf] at hle L2
  have A2 := A.script.mono (σ' := { σ.change.2.2 with fl := upd σ.change.2.2.fl x ⟨[], [], []⟩ }) (δ' := { (scriptD δ).2.2 with files := δ.files ++ [([], [])] }) hle rfl rfl rfl rfl
  refine ⟨_, hle, rfl, L2.chg A2 (r := r) (m' := putN n x m) hr ?_⟩
  exact A2.ok.put A2.mp (i := δ.files.length) (x := x) (by unfold ext; rw [if_pos rfl]) (upd_same _ _ _)

theorem two_rel {N : Num} {σ : Dk} {δ : Dc} (L : Rl N σ δ) (l l' : Tx) : (∃ e, twoE σ l l' = (none, e) ∧ twoD δ l l' = (none, e)) ∨
    ∃ a n i b ws d m q a' n' i' b' ws' d' m' q' j x, twoE σ l l' = (some (b, n, b', n', x), 0) ∧ twoD δ l l' = (some (i, n, i', n', j), 0) ∧ At2 N σ δ a i b ws d m q ∧ At2 N σ δ a' i' b' ws' d' m' q' ∧ N j = some x ∧ look n m = some x := by
  unfold twoE twoD
  rcases L.path l with ⟨e, h1, h2⟩ | ⟨a, n, i, b, ws, d, m, q, h1, h2, A⟩
  · left; exact ⟨e, by rw [h1], by rw [h2]⟩
  rw [h1, h2]
  rcases L.path l' with ⟨e, h3, h4⟩ | ⟨a', n', i', b', ws', d', m', q', h3, h4, A'⟩
  · left; exact ⟨e, by simp only [h3], by simp only [h4]⟩
  simp only [h3, h4, A.at_, A.nw]
  rcases A.ok.look A.mp n with ⟨h5, h6⟩ | ⟨j, x, h5, h6, h7⟩
  · left; exact ⟨6, by rw [h5], by rw [h6]⟩
  · right; exact ⟨a, n, i, b, ws, d, m, q, a', n', i', b', ws', d', m', q', j, x, by rw [h6], by rw [h5], A, A', h7, h6⟩

theorem link_rel {N : Num} {σ : Dk} {δ : Dc} (L : Rl N σ δ) (l l' : Tx) {r : Nat} (hr : σ.mp r = none) : (linkR σ l l' r).1 = (linkD δ l l').1 ∧ Rl N (linkR σ l l' r).2 (linkD δ l l').2 := by
  unfold linkR linkD
  rcases two_rel L l l' with ⟨e, h1, h2⟩ | ⟨a, n, i, b, ws, d, m, q, a', n', i', b', ws', d', m', q', j, x, h1, h2, A, A', hj, _⟩
  · rw [h1, h2]; exact ⟨rfl, L⟩
  rw [h1, h2]
  simp only [A'.at_, A'.nw]
  rcases A'.ok.look A'.mp n' with ⟨h3, h4⟩ | ⟨j', y, h3, h4, h5⟩
  rotate_left 1
  · rw [h3, h4, if_pos (show (some y).isSome = true from rfl), if_pos (show (some j').isSome = true from rfl)]; exact ⟨rfl, L⟩
  rw [h3, h4, if_neg noSome, if_neg noSome, (A'.ok.keys A'.mp).2]
  by_cases hl : 1024 ≤ q'.length
  · rw [if_pos hl, if_pos hl]; exact ⟨rfl, L⟩
  rw [if_neg hl, if_neg hl]
  obtain ⟨s1, _, _, _⟩ := script_rel L
  by_cases he : (scriptD δ).1 ≠ 0
  · rw [if_pos he, if_pos (by rw [s1]; exact he)]; exact ⟨s1, L.script⟩
  rw [if_neg he, if_neg (by rw [s1]; exact he)]
  exact ⟨rfl, L.script.chg A'.script (r := r) (m' := putN n' x m') hr (A'.script.ok.put A'.script.mp hj (upd_same _ _ _))⟩

theorem remove_rel {N : Num} {σ : Dk} {δ : Dc} (L : Rl N σ δ) (l : Tx) {r : Nat} (hr : σ.mp r = none) : (removeR σ l r).1 = (removeD δ l).1 ∧ Rl N (removeR σ l r).2 (removeD δ l).2 := by
  unfold removeR removeD
  rcases L.file l with ⟨e, h1, h2⟩ | ⟨x, i, c, h1, h2, _⟩
  · rw [h1, h2]; exact ⟨rfl, L⟩
  rw [h1, h2]
  rcases L.path l with ⟨e, h3, h4⟩ | ⟨a, n, i, b, ws, d, m, q, h3, h4, A⟩
  · exfalso
    unfold fileE at h1; rw [h3] at h1; cases h1
  simp only [h3, h4, A.at_, A.nw]
  obtain ⟨s1, _, _, _⟩ := script_rel L
  by_cases he : (scriptD δ).1 ≠ 0
  · rw [if_pos he, if_pos (by rw [s1]; exact he)]; exact ⟨s1, L.script⟩
  rw [if_neg he, if_neg (by rw [s1]; exact he)]
  exact ⟨rfl, L.script.chg A.script (r := r) (m' := delN n m) hr (A.script.ok.del A.script.mp (upd_same _ _ _))⟩

theorem At2.same {N : Num} {σ : Dk} {δ : Dc} (L : Rl N σ δ) {a a' : Tx} {i b i' b' : Nat} {ws ws' : List Nm} {d d' : Dr} {m m' : List (Tx × Nat)} {l l' : Nm} (A : At2 N σ δ a i b ws d m l) (A' : At2 N σ δ a' i' b' ws' d' m' l') : (b = b' ↔ i = i') := by
  constructor
  · rintro rfl
    have := L.inj _ _ _ A.lk A'.lk
    subst this
    have := A.ix.symm.trans A'.ix
    exact Option.some.inj this
  · rintro rfl
    have := A.di.symm.trans A'.di
    cases this
    have := A.lk.symm.trans A'.lk
    exact Option.some.inj this

theorem rename_rel {N : Num} {σ : Dk} {δ : Dc} (L : Rl N σ δ) (l l' : Tx) {r1 r2 : Nat} (hr1 : σ.mp r1 = none) (hr2 : σ.mp r2 = none) (hne : r1 ≠ r2) : (renameR σ l l' r1 r2).1 = (renameD δ l l').1 ∧ Rl N (renameR σ l l' r1 r2).2 (renameD δ l l').2 := by
  unfold renameR renameD
  rcases two_rel L l l' with ⟨e, h1, h2⟩ | ⟨a, n, i, b, ws, d, m, q, a', n', i', b', ws', d', m', q', j, x, h1, h2, A, A', hj, hlk⟩
  · rw [h1, h2]; exact ⟨rfl, L⟩
  rw [h1, h2]
  have hs := At2.same L A A'
  simp only [A'.at_, A'.nw, A.at_, A.nw]
  have hsome : (look n' m').isSome = (look n' q').isSome := by
    rcases A'.ok.look A'.mp n' with ⟨h3, h4⟩ | ⟨j', y, h3, h4, h5⟩
    · rw [h3, h4]
    · rw [h3, h4]; rfl
  have hc : ((look n' m').isSome = false ∧ b ≠ b' ∧ 1024 ≤ m'.length) ↔ (i ≠ i' ∧ (look n' q').isSome = false ∧ 1024 ≤ q'.length) := by
    rw [hsome, (A'.ok.keys A'.mp).2]
    exact ⟨fun ⟨x, y, z⟩ => ⟨fun e => y (hs.2 e), x, z⟩, fun ⟨x, y, z⟩ => ⟨y, fun e => x (hs.1 e), z⟩⟩
  by_cases hl : i ≠ i' ∧ (look n' q').isSome = false ∧ 1024 ≤ q'.length
  · rw [if_pos hl, if_pos (hc.2 hl)]; exact ⟨rfl, L⟩
  rw [if_neg hl, if_neg fun z => hl (hc.1 z)]
  obtain ⟨s1, _, _, _⟩ := script_rel L
  rw [s1]
  by_cases he : (scriptD δ).1 ≠ 0 ∨ l = l'
  · rw [if_pos he, if_pos he]; exact ⟨rfl, L.script⟩
  rw [if_neg he, if_neg he]
  by_cases hab : i = i'
  · rw [if_pos hab, if_pos (hs.2 hab)]
    refine ⟨rfl, L.script.chg A.script (r := r1) (m' := putN n' x (delN n m)) hr1 ?_⟩
    let σ1 : Dk := { σ.change.2.2 with mp := upd σ.change.2.2.mp r1 (delN n m) }
    have o1 : NmOk N σ1 r1 (withD n (-1) q) := A.script.ok.del A.script.mp (upd_same _ _ _)
    exact o1.put (m := delN n m) (upd_same _ _ _) hj (upd_same _ _ _)
  · rw [if_neg hab, if_neg fun z => hab (hs.1 z)]
    have hbb : b ≠ b' := fun z => hab (hs.1 z)
    have L1 := L.script.chg A'.script (r := r1) (m' := putN n' x m') hr1 (A'.script.ok.put A'.script.mp hj (upd_same _ _ _))
    have hmp : ∀ r q, σ.change.2.2.mp r = some q → (σ.change.2.2.chg b' d' r1 (putN n' x m')).mp r = some q := fun r q h => by
      show upd _ _ _ _ = _
      rw [upd_ne]; exact h
      rintro rfl
      have h : σ.mp r = some q := h
      rw [hr1] at h; cases h
    have A1 : At2 N (σ.change.2.2.chg b' d' r1 (putN n' x m')) (chgD (scriptD δ).2.2 i' (withD n' (j : Int) q')) a i b ws d m q := by
      have S := A.script
      have hd : (σ.change.2.2.chg b' d' r1 (putN n' x m')).dr b = some d := by show upd _ _ _ _ = _; rw [upd_ne hbb]; exact S.dr
      have hdi : (chgD (scriptD δ).2.2 i' (withD n' (j : Int) q')).dirs[i]? = some (a, ws) := by rw [chgD_dirs fun z => hab z.symm]; exact S.di
      refine ⟨?_, hdi, S.lk, hd, S.wy.mono (Le.refl N) hmp, hmp _ _ S.mp, ?_, S.ok.mono (Le.refl N) (hmp _), Dk.at_some.2 ⟨hd, hmp _ _ S.mp⟩⟩
      · have nd := L1.srt.nodup
        refine ixOf_head (b := ws) (fun k p hk hp he => ?_) hdi
        have g1 : ((chgD (scriptD δ).2.2 i' (withD n' (j : Int) q')).dirs.map (·.1))[k]? = some a := by rw [List.getElem?_map, hp, ← he]; rfl
        have g2 : ((chgD (scriptD δ).2.2 i' (withD n' (j : Int) q')).dirs.map (·.1))[i]? = some a := by rw [List.getElem?_map, hdi]; rfl
        have := (List.getElem?_inj (by rw [List.length_map]; exact ltOf hdi) nd).1 (g2.trans g1.symm)
        omega
      · have h1 := S.nw
        unfold nowD at h1 ⊢
        rw [hdi]; rw [S.di] at h1; exact h1
    have hr2' : (σ.change.2.2.chg b' d' r1 (putN n' x m')).mp r2 = none := by show upd _ _ _ _ = _; rw [upd_ne (fun e => hne e.symm)]; exact hr2
    exact ⟨rfl, L1.chg A1 (r := r2) (m' := delN n m) hr2' (A1.ok.del A1.mp (upd_same _ _ _))⟩

theorem take_tw {α : Type} (f : α → Bool) (l : List α) : l.take (l.takeWhile f).length = l.takeWhile f ∧ l.drop (l.takeWhile f).length = l.dropWhile f := by
  have h := List.takeWhile_append_dropWhile (p := f) (l := l)
  constructor
  · conv => lhs; rw [← h]
    rw [List.take_left' (by rw [h])]
  · conv => lhs; rw [← h]
    rw [List.drop_left' (by rw [h])]

theorem mkdir_rel {N : Num} {σ : Dk} {δ : Dc} (L : Rl N σ δ) (l : Tx) {r b : Nat} (hr : σ.mp r = none) (hb : σ.dr b = none) : (mkdirR σ l r b).1 = (mkdirD δ l).1 ∧ Rl N (mkdirR σ l r b).2 (mkdirD δ l).2 := by
  unfold mkdirR mkdirD
  by_cases ho : okName l = true
  rotate_left 1
  · rw [if_neg ho, if_neg ho]; exact ⟨rfl, L⟩
  rw [if_pos ho, if_pos ho]
  have hlen : σ.dirs.length = δ.dirs.length := by have := L.dk.length_eq; simpa using this
  rcases L.dirs l with ⟨h1, h2⟩ | ⟨i, ws, b', d, h1, h2, h3, _⟩
  rotate_left 1
  · rw [h1, h3, if_pos (show (some b').isSome = true from rfl), if_pos (show (some i).isSome = true from rfl)]; exact ⟨rfl, L⟩
  rw [h1, h2, if_neg noSome, if_neg noSome, hlen]
  by_cases hl : 64 ≤ δ.dirs.length
  · rw [if_pos hl, if_pos hl]; exact ⟨rfl, L⟩
  rw [if_neg hl, if_neg hl]
  obtain ⟨s1, _, _, _⟩ := script_rel L
  by_cases he : (scriptD δ).1 ≠ 0
  · rw [if_pos he, if_pos (by rw [s1]; exact he)]; exact ⟨s1, L.script⟩
  rw [if_neg he, if_neg (by rw [s1]; exact he)]
  have hnl : l ∉ δ.dirs.map (·.1) := fun z => by
    have := L.dk.mem_iff.2 z
    obtain ⟨y, hy⟩ := look_isSome this
    rw [h1] at hy; cases hy
  have hns : l ∉ σ.dirs.map (·.1) := fun z => hnl (L.dk.mem_iff.1 z)
  have L1 := L.script
  have hdirs := (scriptD_keep δ).2.1
  have hins : insD l δ.dirs = (δ.dirs.takeWhile fun p => decide (p.1 < l)) ++ (l, [[]]) :: (δ.dirs.dropWhile fun p => decide (p.1 < l)) := by
    unfold insD posD
    rw [(take_tw _ _).1, (take_tw _ _).2]
  have hsplit := List.takeWhile_append_dropWhile (p := fun p : Tx × List Nm => decide (p.1 < l)) (l := δ.dirs)
  have hA : ∀ p ∈ δ.dirs.takeWhile (fun p => decide (p.1 < l)), p.1 < l := fun p hp => by simpa using tw_mem hp
  have hB : ∀ p ∈ δ.dirs.dropWhile (fun p => decide (p.1 < l)), l < p.1 := fun p hp => by
    have key : ∀ (L : List (Tx × List Nm)), Srt (L.map (·.1)) → ∀ p ∈ L.dropWhile (fun p => decide (p.1 < l)), l ≤ p.1 := fun L => by
      induction L with
      | nil => intro _ p h; simp at h
      | cons q r ih =>
        intro hs p h
        rw [List.map_cons, Srt, List.pairwise_cons] at hs
        rw [List.dropWhile_cons] at h
        split at h
        · exact ih hs.2 p h
        · rename_i hq
          have hq : l ≤ q.1 := List.not_lt.1 (by simpa using hq)
          rcases List.mem_cons.1 h with rfl | h
          · exact hq
          · exact List.le_trans hq (tlt_le (hs.1 p.1 (List.mem_map.2 ⟨p, h, rfl⟩)))
    refine tlt_of_le_ne (key _ L.srt p hp) fun e => hnl ?_
    rw [e]; exact List.mem_map.2 ⟨p, (List.dropWhile_sublist _).subset hp, rfl⟩
  have hm : ∀ r' q, σ.change.2.2.mp r' = some q → upd σ.change.2.2.mp r [] r' = some q := fun r' q h => by
    rw [upd_ne]; exact h
    rintro rfl
    have h : σ.mp r' = some q := h
    rw [hr] at h; cases h
  refine ⟨rfl, L1.q, ?_, ?_, fun a ws h => ?_, fun a a' b' h h' => ?_, L1.fi, L1.ni, L1.sf, L1.ss⟩
  · show ((putN l b σ.dirs).map (·.1)).Perm ((insD l δ.dirs).map (·.1))
    rw [putN_keys, if_neg hns, hins, List.map_append, List.map_cons]
    refine (L.dk.append_right _).trans ?_
    conv => lhs; rw [← hsplit, List.map_append, List.append_assoc]
    exact List.Perm.append_left _ (List.perm_append_singleton l _)
  · show Srt ((insD l δ.dirs).map (·.1))
    rw [hins, List.map_append, List.map_cons]
    have hs := L.srt
    rw [← hsplit, List.map_append] at hs
    obtain ⟨g1, g2, g3⟩ := List.pairwise_append.1 hs
    have gt : ∀ y ∈ (δ.dirs.dropWhile fun p => decide (p.1 < l)).map (·.1), l < y := fun y hy => by
      obtain ⟨p, hp, rfl⟩ := List.mem_map.1 hy; exact hB p hp
    refine List.pairwise_append.2 ⟨g1, List.pairwise_cons.2 ⟨gt, g2⟩, fun y hy z hz => ?_⟩
    obtain ⟨p, hp, rfl⟩ := List.mem_map.1 hy
    rcases List.mem_cons.1 hz with rfl | hz
    · exact hA p hp
    · exact tlt_trans (hA p hp) (gt z hz)
  · have h : (a, ws) ∈ insD l δ.dirs := h
    rw [hins] at h
    have old : (a, ws) ∈ δ.dirs → ∃ b_1 d, look a (putN l b σ.dirs) = some b_1 ∧ upd σ.change.2.2.dr b ⟨r, []⟩ b_1 = some d ∧ Ways N { σ.change.2.2 with dirs := putN l b σ.dirs, mp := upd σ.change.2.2.mp r [], dr := upd σ.change.2.2.dr b ⟨r, []⟩ } (d.was ++ [d.now]) ws := fun hmem => by
      obtain ⟨b', d', g1, g2, g3⟩ := L.di a ws hmem
      have hal : a ≠ l := fun e => hnl (by rw [← e]; exact List.mem_map.2 ⟨_, hmem, rfl⟩)
      refine ⟨b', d', by rw [look_putN, if_neg hal]; exact g1, by rw [upd_ne (fun e => by rw [e, hb] at g2; cases g2)]; exact g2, g3.mono (Le.refl N) hm⟩
    rcases List.mem_append.1 h with h | h
    · exact old ((List.takeWhile_sublist _).subset h)
    · rcases List.mem_cons.1 h with h | h
      · cases h
        refine ⟨b, ⟨r, []⟩, by show look l (putN l b σ.dirs) = _; rw [look_putN, if_pos rfl], upd_same _ _ _, rfl, fun k r' q h1 h2 => ?_⟩
        have hk : k = 0 ∧ r' = r := by
          cases k with
          | zero => exact ⟨rfl, by simpa using h1.symm⟩
          | succ k => simp at h1
        obtain ⟨rfl, rfl⟩ := hk
        have : q = [] := by simpa using h2.symm
        subst this
        exact ⟨⟨[], upd_same _ _ _, List.Perm.refl _, fun n i h => by cases h⟩, List.Pairwise.nil⟩
      · exact old ((List.dropWhile_sublist _).subset h)
  · have h : look a (putN l b σ.dirs) = some b' := h
    have h' : look a' (putN l b σ.dirs) = some b' := h'
    rw [look_putN] at h h'
    have no : ∀ a, look a σ.dirs ≠ some b := fun a g => by
      rcases L.dirs a with ⟨g1, _⟩ | ⟨i, ws, b2, d, _, _, g3, g4, _⟩
      · rw [g1] at g; cases g
      · rw [g3] at g; cases g; rw [hb] at g4; cases g4
    by_cases ha : a = l
    · by_cases ha' : a' = l
      · rw [ha, ha']
      · rw [if_pos ha] at h; rw [if_neg ha'] at h'; cases h; exact absurd h' (no a')
    · by_cases ha' : a' = l
      · rw [if_neg ha] at h; rw [if_pos ha'] at h'; cases h'; exact absurd h (no a)
      · rw [if_neg ha] at h; rw [if_neg ha'] at h'; exact L.inj a a' b' h h'

theorem rmdir_rel {N : Num} {σ : Dk} {δ : Dc} (L : Rl N σ δ) (l : Tx) : (rmdirR σ l).1 = (rmdirD δ l).1 ∧ Rl N (rmdirR σ l).2 (rmdirD δ l).2 := by
  unfold rmdirR rmdirD
  rcases L.find l with ⟨e, h1, h2⟩ | ⟨i, b, ws, d, m, q, h1, h2, A⟩
  · rw [h1, h2]; exact ⟨rfl, L⟩
  rw [h1, h2]
  simp only [A.at_, A.nw]
  have hml := (A.ok.keys A.mp).2
  by_cases hq : q = []
  rotate_left 1
  · have hm0 : m ≠ [] := fun e => hq (List.length_eq_zero_iff.1 (by rw [← hml, e]; rfl))
    rw [if_pos (show m ≠ [] from hm0), if_pos (show q ≠ [] from hq)]; exact ⟨rfl, L⟩
  have hm0 : m = [] := List.length_eq_zero_iff.1 (by rw [hml, hq]; rfl)
  rw [if_neg (show ¬ (m ≠ []) from fun z => z hm0), if_neg (show ¬ (q ≠ []) from fun z => z hq)]
  obtain ⟨s1, _, _, _⟩ := script_rel L
  by_cases he : (scriptD δ).1 ≠ 0
  · rw [if_pos he, if_pos (by rw [s1]; exact he)]; exact ⟨s1, L.script⟩
  rw [if_neg he, if_neg (by rw [s1]; exact he)]
  have L1 := L.script
  have hi := ltOf A.di
  have hsplit : δ.dirs = δ.dirs.take i ++ (l, ws) :: δ.dirs.drop (i + 1) := by
    conv => lhs; rw [← List.take_append_drop i δ.dirs, List.drop_eq_getElem_cons hi]
    have := A.di
    rw [List.getElem?_eq_getElem hi] at this
    rw [Option.some.inj this]
  have hkeys : (δ.dirs.map (·.1)).Perm (l :: (δ.dirs.take i ++ δ.dirs.drop (i + 1)).map (·.1)) := by
    conv => lhs; rw [hsplit, List.map_append, List.map_cons]
    rw [List.map_append]
    exact List.perm_middle
  have nd := L.srt.nodup
  have hnin : l ∉ (δ.dirs.take i ++ δ.dirs.drop (i + 1)).map (·.1) := (List.nodup_cons.1 (hkeys.nodup_iff.1 nd)).1
  have hsub : ∀ p ∈ δ.dirs.take i ++ δ.dirs.drop (i + 1), p ∈ δ.dirs := fun p hp => (List.mem_append.1 hp).elim List.mem_of_mem_take List.mem_of_mem_drop
  refine ⟨rfl, L1.q, ?_, ?_, fun a ws' h => ?_, fun a a' b' h h' => ?_, L1.fi, L1.ni, L1.sf, L1.ss⟩
  · show ((delN l σ.dirs).map (·.1)).Perm ((δ.dirs.take i ++ δ.dirs.drop (i + 1)).map (·.1))
    rw [delN_keys]
    refine ((L.dk.trans hkeys).erase l).trans ?_
    rw [List.erase_cons_head]
  · show Srt ((δ.dirs.take i ++ δ.dirs.drop (i + 1)).map (·.1))
    refine List.Pairwise.sublist (List.Sublist.map _ ?_) L.srt
    conv => rhs; rw [hsplit]
    exact List.Sublist.append_left (List.sublist_cons_self _ _) _
  · have h : (a, ws') ∈ δ.dirs.take i ++ δ.dirs.drop (i + 1) := h
    obtain ⟨b', d', g1, g2, g3⟩ := L.di a ws' (hsub _ h)
    have hal : a ≠ l := fun e => hnin (by rw [← e]; exact List.mem_map.2 ⟨_, h, rfl⟩)
    exact ⟨b', d', by show look a (delN l σ.dirs) = _; rw [look_delN hal]; exact g1, g2, g3.mono (Le.refl N) fun _ _ x => x⟩
  · have nds : (σ.dirs.map (·.1)).Nodup := L.dk.nodup_iff.2 nd
    have hno : ∀ a, look a (delN l σ.dirs) = some b' → a ≠ l := fun a g e => by
      subst e
      have : a ∈ (delN a σ.dirs).map (·.1) := List.mem_map.2 ⟨_, look_mem g, rfl⟩
      rw [delN_keys] at this
      exact (nds.mem_erase_iff.1 this).1 rfl
    have h : look a (delN l σ.dirs) = some b' := h
    have h' : look a' (delN l σ.dirs) = some b' := h'
    have e1 := hno a h
    have e2 := hno a' h'
    rw [look_delN e1] at h
    rw [look_delN e2] at h'
    exact L.inj a a' b' h h'

end Go.V.YtdeihieblljfcaaGreat
/-! Call by call, the program's disk and the document's: files, what is read, a crash. -/
namespace Go.V.YtdeihieblljfcaaGreat
open Go Go.V

theorem Rl.setX {N : Num} {σ : Dk} {δ : Dc} (L : Rl N σ δ) {i x : Nat} (h : N i = some x) (c : Fl) : Rl N { σ with fl := upd σ.fl x c } (setD δ i (c.fast, c.opn)) := by
  obtain ⟨c0, h1, h2⟩ := L.fi i x h
  refine ⟨L.q, L.dk, L.srt, fun a ws h => ?_, L.inj, fun j y hj => ?_, L.ni, L.sf, L.ss⟩
  · obtain ⟨b, d, g1, g2, g3⟩ := L.di a ws h
    exact ⟨b, d, g1, g2, g3.mono (Le.refl N) fun _ _ x => x⟩
  · by_cases hy : y = x
    · subst hy
      have := L.ni j i y hj h
      subst this
      exact ⟨c, upd_same _ _ _, by show (δ.files.set j _)[j]? = _; rw [List.getElem?_set, if_pos rfl, if_pos (ltOf h2)]⟩
    · obtain ⟨c1, g1, g2⟩ := L.fi j y hj
      refine ⟨c1, by show upd _ _ _ _ = _; rw [upd_ne hy]; exact g1, ?_⟩
      show (δ.files.set i _)[j]? = _
      rw [List.getElem?_set, if_neg]; exact g2
      rintro rfl
      rw [h] at hj; cases hj; exact hy rfl
theorem bytesD_eq {c : Fl} (ok : FlOk c) : bytesD (c.fast, c.opn) = c.now := ok.now.symm
theorem Rl.scriptX {N : Num} {σ : Dk} {δ : Dc} (L : Rl N σ δ) {i x : Nat} (h : N i = some x) (c : Fl) : Rl N { σ.change.2.2 with fl := upd σ.fl x c } (setD (scriptD δ).2.2 i (c.fast, c.opn)) := L.script.setX h c

theorem sync_rel {N : Num} {σ : Dk} {δ : Dc} (L : Rl N σ δ) (Z : Fine σ) (l : Tx) : (syncR σ l).1 = (syncD δ l).1 ∧ Rl N (syncR σ l).2 (syncD δ l).2 := by
  unfold syncR syncD
  rcases L.file l with ⟨e, h1, h2⟩ | ⟨x, i, c, h1, h2, h3, h4, h5⟩
  · rw [h1, h2]; exact ⟨rfl, L⟩
  rw [h1, h2]
  simp only [h4, h5]
  obtain ⟨s1, _, _, _⟩ := script_rel L
  by_cases he : (scriptD δ).1 ≠ 0
  · rw [if_pos he, if_pos (by rw [s1]; exact he)]; exact ⟨s1, L.script⟩
  rw [if_neg he, if_neg (by rw [s1]; exact he), bytesD_eq (Z x c h4)]
  exact ⟨rfl, L.scriptX h3 ⟨c.now, [], c.now⟩⟩
theorem cut_rel {N : Num} {σ : Dk} {δ : Dc} (L : Rl N σ δ) (Z : Fine σ) (l : Tx) (k : Int) : (cutR σ l k).1 = (cutD δ l k).1 ∧ Rl N (cutR σ l k).2 (cutD δ l k).2 := by
  unfold cutR cutD
  rcases L.file l with ⟨e, h1, h2⟩ | ⟨x, i, c, h1, h2, h3, h4, h5⟩
  · rw [h1, h2]; exact ⟨rfl, L⟩
  rw [h1, h2]
  simp only [h4, h5]
  rw [bytesD_eq (Z x c h4)]
  by_cases hk : k < 0 ∨ k > c.now.length
  · rw [if_pos hk, if_pos hk]; exact ⟨rfl, L⟩
  rw [if_neg hk, if_neg hk]
  obtain ⟨s1, _, _, _⟩ := script_rel L
  by_cases he : (scriptD δ).1 ≠ 0
  · rw [if_pos he, if_pos (by rw [s1]; exact he)]; exact ⟨s1, L.script⟩
  rw [if_neg he, if_neg (by rw [s1]; exact he)]
  exact ⟨rfl, L.scriptX h3 ⟨c.now.take k.toNat, [], c.now.take k.toNat⟩⟩
theorem flip_rel {N : Num} {σ : Dk} {δ : Dc} (L : Rl N σ δ) (Z : Fine σ) (l : Tx) (k : Int) : (flipR σ l k).1 = (flipD δ l k).1 ∧ Rl N (flipR σ l k).2 (flipD δ l k).2 := by
  unfold flipR flipD
  rcases L.file l with ⟨e, h1, h2⟩ | ⟨x, i, c, h1, h2, h3, h4, h5⟩
  · rw [h1, h2]; exact ⟨rfl, L⟩
  rw [h1, h2]
  simp only [h4, h5]
  by_cases ho : c.opn ≠ []
  · rw [if_pos ho, if_pos ho]; exact ⟨rfl, L⟩
  rw [if_neg ho, if_neg ho]
  have hnow : c.now = c.fast := by
    have := (Z x c h4).now
    rw [Classical.not_not.1 ho] at this; exact this
  rw [hnow]
  by_cases hk : k < 0 ∨ 8 * (c.fast.length : Int) ≤ k
  · rw [if_pos hk, if_pos hk]; exact ⟨rfl, L⟩
  rw [if_neg hk, if_neg hk]
  exact ⟨rfl, L.setX h3 ⟨flipT c.fast k, [], flipT c.fast k⟩⟩
theorem fail_rel {N : Num} {σ : Dk} {δ : Dc} (L : Rl N σ δ) (n m : Int) : Rl N { σ with fail := ⟨n, if 0 > m then 0 else m, 0⟩ } (failD δ n m) := by
  have base : ∀ fi ff, ScF ⟨n, if 0 > m then 0 else m, 0⟩ fi ff → Rl N { σ with fail := ⟨n, if 0 > m then 0 else m, 0⟩ } { δ with failIn := fi, failFor := ff } := fun fi ff h =>
    ⟨L.q, L.dk, L.srt, fun a ws h => let ⟨b, d, g1, g2, g3⟩ := L.di a ws h; ⟨b, d, g1, g2, g3.mono (Le.refl N) fun _ _ x => x⟩, L.inj, L.fi, L.ni, h, L.ss⟩
  unfold failD
  by_cases h : 1 ≤ n ∧ 1 ≤ m
  · rw [if_pos h]
    refine base n m (.inr ⟨h.1, ?_, Int.le_refl 0, .inl ⟨by show (0 : Int) < n; omega, by show n = n - 0; omega, ?_⟩⟩)
    · show (0 : Int) < if 0 > m then 0 else m; rw [if_neg (by omega)]; omega
    · show m = if 0 > m then 0 else m; rw [if_neg (by omega)]
  · rw [if_neg h]
    refine base 0 0 (.inl ⟨?_, rfl, rfl⟩)
    show n < 1 ∨ (if 0 > m then 0 else m) = 0
    split <;> omega
theorem stop_rel {N : Num} {σ : Dk} {δ : Dc} (L : Rl N σ δ) (n : Int) : Rl N { σ with stop := ⟨n, -1, 0⟩ } (stopD δ n) := by
  have base : ∀ si, ScS ⟨n, -1, 0⟩ si false → Rl N { σ with stop := ⟨n, -1, 0⟩ } { δ with stopIn := si, stopped := false } := fun si h =>
    ⟨L.q, L.dk, L.srt, fun a ws h => let ⟨b, d, g1, g2, g3⟩ := L.di a ws h; ⟨b, d, g1, g2, g3.mono (Le.refl N) fun _ _ x => x⟩, L.inj, L.fi, L.ni, L.sf, h⟩
  unfold stopD
  split
  · rename_i h
    exact base n (.inr ⟨h, by show (-1 : Int) < 0; omega, Int.le_refl 0, .inl ⟨by show (0 : Int) < n; omega, by show n = n - 0; omega, rfl⟩⟩)
  · rename_i h
    exact base 0 (.inl ⟨.inl (by show n < 1; omega), rfl, rfl⟩)

theorem Rl.settle {N : Num} {σ : Dk} {δ : Dc} (L : Rl N σ δ) {a : Tx} {i b : Nat} {ws : List Nm} {d : Dr} {m : List (Tx × Nat)} {l : Nm} (A : At2 N σ δ a i b ws d m l) {k r : Nat} (hk : (d.was ++ [d.now])[k]? = some r) : Rl N { σ with dr := upd σ.dr b ⟨r, []⟩ } (settleD δ i k) := by
  have hwl := A.wy.1
  have hlt := ltOf hk
  have hkw : k < ws.length := by omega
  have hw := List.getElem?_eq_getElem hkw
  generalize ws[k] = q at hw
  have hc : settleD δ i k = { δ with dirs := δ.dirs.set i (a, [q]) } := by unfold settleD; rw [A.di]; simp only [hw]
  have ok := A.wy.2 k r q hk hw
  have hi := ltOf A.di
  have hkeys : (δ.dirs.set i (a, [q])).map (·.1) = δ.dirs.map (·.1) := by
    rw [List.map_set]
    apply List.ext_getElem?
    intro k
    rw [List.getElem?_set]
    split
    · rename_i e; subst e
      rw [List.length_map, if_pos hi, List.getElem?_map, A.di]; rfl
    · rfl
  rw [hc]
  refine ⟨L.q, by rw [hkeys]; exact L.dk, by rw [hkeys]; exact L.srt, fun a' ws' h => ?_, L.inj, L.fi, L.ni, L.sf, L.ss⟩
  obtain ⟨j, hj⟩ := List.mem_iff_getElem?.1 h
  rw [List.getElem?_set] at hj
  split at hj
  · rename_i e; subst e
    (try rw [if_pos hi] at hj)
    cases hj
    refine ⟨b, ⟨r, []⟩, A.lk, upd_same _ _ _, rfl, fun j r' q' h1 h2 => ?_⟩
    have hj : j = 0 ∧ r' = r := by
      cases j with
      | zero => exact ⟨rfl, by simpa using h1.symm⟩
      | succ j => simp at h1
    obtain ⟨rfl, rfl⟩ := hj
    have : q' = q := by simpa using h2.symm
    subst this
    exact ok.mono (Le.refl N) fun _ x => x
  · rename_i hne
    obtain ⟨b', d', h1, h2, h3⟩ := L.di a' ws' (List.mem_of_getElem? hj)
    have hbb : b' ≠ b := fun e => by
      subst e
      have := L.inj _ _ _ h1 A.lk
      subst this
      have nd : (δ.dirs.map (·.1)).Nodup := L.srt.nodup
      have g1 : (δ.dirs.map (·.1))[j]? = some a' := by rw [List.getElem?_map, hj]; rfl
      have g2 : (δ.dirs.map (·.1))[i]? = some a' := by rw [List.getElem?_map, A.di]; rfl
      exact hne ((List.getElem?_inj (by rw [List.length_map]; exact hi) nd).1 (g2.trans g1.symm))
    exact ⟨b', d', h1, by show upd _ _ _ _ = _; rw [upd_ne hbb]; exact h2, h3.mono (Le.refl N) fun _ _ x => x⟩
theorem syncDir_rel {N : Num} {σ : Dk} {δ : Dc} (L : Rl N σ δ) (l : Tx) : (syncDirR σ l).1 = (syncDirD δ l).1 ∧ Rl N (syncDirR σ l).2 (syncDirD δ l).2 := by
  unfold syncDirR syncDirD
  rcases L.find l with ⟨e, h1, h2⟩ | ⟨i, b, ws, d, m, q, h1, h2, A⟩
  · rw [h1, h2]; exact ⟨rfl, L⟩
  rw [h1, h2]
  simp only [A.dr, A.di]
  obtain ⟨s1, _, _, _⟩ := script_rel L
  by_cases he : (scriptD δ).1 ≠ 0
  · rw [if_pos he, if_pos (by rw [s1]; exact he)]; exact ⟨s1, L.script⟩
  rw [if_neg he, if_neg (by rw [s1]; exact he)]
  have hwl := A.wy.1
  rw [List.length_append, List.length_singleton] at hwl
  refine ⟨rfl, L.script.settle A.script (k := ws.length - 1) (r := d.now) ?_⟩
  rw [← hwl, Nat.add_sub_cancel]; simp

/-! ### All files -/

def nameD (δ : Dc) (i : Nat) : Tx := ((δ.dirs[i]?).map (·.1)).getD []
def docWalk (δ : Dc) : List (Tx × Nat) := ((List.range δ.dirs.length).map fun i => ((nowD δ i).getD []).map fun p => (nameD δ i ++ 47 :: p.1, p.2)).flatten
theorem allD_walk (δ : Dc) : allD δ = ((docWalk δ).map (·.2)).foldl addI [] := by
  unfold allD docWalk
  rw [List.map_flatten, List.map_map]
  congr 2
  apply List.map_congr_left
  intro i _
  simp [Function.comp_def]
theorem Rl.atI {N : Num} {σ : Dk} {δ : Dc} (L : Rl N σ δ) {i : Nat} {a : Tx} {ws : List Nm} (hi : δ.dirs[i]? = some (a, ws)) : ∃ b d m l, At2 N σ δ a i b ws d m l := by
  obtain ⟨b, d, h1, h2, h3⟩ := L.di a ws (List.mem_of_getElem? hi)
  obtain ⟨l, hl, ok, hlen⟩ := h3.now
  obtain ⟨m, hm, _⟩ := ok.ex
  have nd := L.srt.nodup
  have hix : ixOf a δ.dirs = some i := by
    refine ixOf_head (b := ws) (fun k p hk hp he => ?_) hi
    have g1 : (δ.dirs.map (·.1))[k]? = some a := by rw [List.getElem?_map, hp, ← he]; rfl
    have g2 : (δ.dirs.map (·.1))[i]? = some a := by rw [List.getElem?_map, hi]; rfl
    have := (List.getElem?_inj (by rw [List.length_map]; exact ltOf hi) nd).1 (g2.trans g1.symm)
    omega
  exact ⟨b, d, m, l, hix, hi, h1, h2, h3, hm, by unfold nowD; rw [hi]; exact hl, ok, Dk.at_some.2 ⟨h2, hm⟩⟩
theorem Rl.keysD {N : Num} {σ : Dk} {δ : Dc} (L : Rl N σ δ) : keysOf σ.dirs = δ.dirs.map (·.1) := by
  unfold keysOf; rw [sortT_of_perm L.dk]; exact sortT_srt L.srt
theorem walk_rel {N : Num} {σ : Dk} {δ : Dc} (L : Rl N σ δ) : walkL σ = (docWalk δ).map (fun p => (p.1, (N p.2).getD 0)) ∧ ∀ p ∈ docWalk δ, ∃ x, N p.2 = some x := by
  have step : ∀ i a ws, δ.dirs[i]? = some (a, ws) → walkD σ a = (((nowD δ i).getD []).map fun p => (nameD δ i ++ 47 :: p.1, p.2)).map (fun p => (p.1, (N p.2).getD 0)) ∧ ∀ p ∈ (nowD δ i).getD [], ∃ x, N p.2 = some x := fun i a ws hi => by
    obtain ⟨b, d, m, l, A⟩ := L.atI hi
    have hn : nameD δ i = a := by unfold nameD; rw [hi]; rfl
    rw [A.nw, Option.getD_some, hn]
    obtain ⟨m', h1, h2, h3⟩ := A.ok.ex
    rw [A.mp] at h1; cases h1
    refine ⟨?_, fun p hp => let ⟨x, hx, _⟩ := h3 p.1 p.2 hp; ⟨x, hx⟩⟩
    unfold walkD
    rw [A.lk, Option.bind_some, A.at_]
    simp only
    rw [(A.ok.keys A.mp).1, List.map_map, List.map_map]
    apply List.map_congr_left
    intro p hp
    obtain ⟨x, hx, hl⟩ := h3 p.1 p.2 hp
    simp only [Function.comp_def, hx, hl, Option.getD_some]
  constructor
  · unfold walkL docWalk
    rw [L.keysD, List.flatMap_def, List.map_flatten]
    congr 1
    apply List.ext_getElem?
    intro i
    rw [List.getElem?_map, List.getElem?_map, List.getElem?_map, List.getElem?_map]
    by_cases hi : i < δ.dirs.length
    · rw [List.getElem?_range hi, List.getElem?_eq_getElem hi]
      simp only [Option.map_some]
      rw [(step i δ.dirs[i].1 δ.dirs[i].2 (by rw [List.getElem?_eq_getElem hi])).1]
    · rw [List.getElem?_eq_none (by omega), List.getElem?_eq_none (by rw [List.length_range]; omega)]; rfl
  · intro p hp
    obtain ⟨K, hK, hp⟩ := List.mem_flatten.1 hp
    obtain ⟨i, hi, rfl⟩ := List.mem_map.1 hK
    obtain ⟨q, hq, rfl⟩ := List.mem_map.1 hp
    have hi : i < δ.dirs.length := by simpa using hi
    exact (step i δ.dirs[i].1 δ.dirs[i].2 (by rw [List.getElem?_eq_getElem hi])).2 q hq

theorem distinct_map {f : Nat → Nat} : ∀ (l : List Nat), (∀ i ∈ l, ∀ j ∈ l, f i = f j → i = j) → distinct (l.map f) = (l.foldl addI []).map f := fun l => by
  induction l using snoc_ind with
  | h0 => intro _; rfl
  | h1 l x ih =>
    intro h
    have ih := ih fun i hi j hj => h i (List.mem_append_left _ hi) j (List.mem_append_left _ hj)
    rw [List.map_append, List.map_singleton, distinct_snoc, List.foldl_append, ih]
    show _ = (addI (l.foldl addI []) x).map f
    have hm : f x ∈ (l.foldl addI []).map f ↔ x ∈ l.foldl addI [] := by
      constructor
      · intro hx
        obtain ⟨y, hy, he⟩ := List.mem_map.1 hx
        have hyl := (foldl_addI_mem l [] hy).resolve_left (by simp)
        have := h y (List.mem_append_left _ hyl) x (by simp) he
        rw [← this]; exact hy
      · intro hx; exact List.mem_map.2 ⟨x, hx, rfl⟩
    by_cases hx : x ∈ l.foldl addI []
    · rw [show addI (l.foldl addI []) x = l.foldl addI [] from if_pos hx, if_pos (hm.2 hx)]
    · rw [show addI (l.foldl addI []) x = l.foldl addI [] ++ [x] from if_neg hx, if_neg fun z => hx (hm.1 z), List.map_append]; rfl
theorem all_rel {N : Num} {σ : Dk} {δ : Dc} (L : Rl N σ δ) : distinct ((walkL σ).map (·.2)) = (allD δ).map (fun i => (N i).getD 0) ∧ ∀ i ∈ allD δ, ∃ x, N i = some x := by
  obtain ⟨h1, h2⟩ := walk_rel L
  have hN : ∀ i ∈ (docWalk δ).map (·.2), ∃ x, N i = some x := fun i hi => by
    obtain ⟨p, hp, rfl⟩ := List.mem_map.1 hi
    exact h2 p hp
  constructor
  · rw [h1, allD_walk, List.map_map]
    rw [show ((fun x : Tx × Nat => x.2) ∘ fun p : Tx × Nat => (p.1, (N p.2).getD 0)) = (fun i => (N i).getD 0) ∘ (fun x : Tx × Nat => x.2) from rfl, ← List.map_map]
    refine distinct_map _ fun i hi j hj e => ?_
    obtain ⟨x, hx⟩ := hN i hi
    obtain ⟨y, hy⟩ := hN j hj
    rw [hx, hy] at e
    simp only [Option.getD_some] at e
    subst e
    exact L.ni i j x hx hy
  · intro i hi
    rw [allD_walk] at hi
    exact hN i ((foldl_addI_mem _ _ hi).resolve_left (by simp))
theorem used_rel {N : Num} {σ : Dk} {δ : Dc} (L : Rl N σ δ) (Z : Fine σ) : usedN σ = usedD δ := by
  obtain ⟨h1, h2⟩ := all_rel L
  unfold usedN sizes usedD
  rw [h1, List.map_map]
  congr 1
  apply List.map_congr_left
  intro i hi
  obtain ⟨x, hx⟩ := h2 i hi
  obtain ⟨c, h3, h4⟩ := L.fi i x hx
  show σ.size ((N i).getD 0) = _
  rw [hx, Option.getD_some]
  unfold Dk.size sizeD
  rw [h3, h4]
  simp only [Option.map_some, Option.getD_some, bytesD_eq (Z x c h3)]

/-! ### Bytes are put in -/

theorem put_rel {N : Num} {σ : Dk} {δ : Dc} (L : Rl N σ δ) (Z : Fine σ) {i x : Nat} (h3 : N i = some x) (k : Int) (b : Tx) : (writesR σ x k b).1 = (putD δ i k b).1 ∧ Rl N (writesR σ x k b).2 (putD δ i k b).2 := by
  obtain ⟨c, h4, h5⟩ := L.fi i x h3
  unfold writesR putD
  simp only [h4, h5]
  rw [bytesD_eq (Z x c h4), used_rel L Z, L.q]
  by_cases hk : k < 0 ∨ k > c.now.length
  · rw [if_pos hk, if_pos hk]; exact ⟨rfl, L⟩
  rw [if_neg hk, if_neg hk]
  have hc : (k + (b.length : Int) - c.now.length > 0 ∧ (usedD δ : Int) + (k + b.length - c.now.length) > δ.quota) ↔ ((b.length : Int) - (c.now.length - k) > 0 ∧ ((b.length : Int) - (c.now.length - k) > δ.quota ∨ (usedD δ : Int) > δ.quota - ((b.length : Int) - (c.now.length - k)))) := by omega
  by_cases hq : (b.length : Int) - (c.now.length - k) > 0 ∧ ((b.length : Int) - (c.now.length - k) > δ.quota ∨ (usedD δ : Int) > δ.quota - ((b.length : Int) - (c.now.length - k)))
  · rw [if_pos hq, if_pos (hc.2 hq)]; exact ⟨rfl, L⟩
  rw [if_neg hq, if_neg fun z => hq (hc.1 z)]
  obtain ⟨s1, s2, _, _⟩ := script_rel L
  rw [s1, s2]
  generalize (if (scriptD δ).2.1 = true then b.take (b.length / 2) else b) = b'
  by_cases hb : ((scriptD δ).1 = 0 ∨ (scriptD δ).2.1 = true) ∧ b' ≠ []
  · rw [if_pos hb, if_pos hb]
    exact ⟨rfl, L.scriptX h3 ⟨c.fast, c.opn ++ [(k.toNat, b')], overL k.toNat b' c.now⟩⟩
  · rw [if_neg hb, if_neg hb]; exact ⟨rfl, L.script⟩
theorem write_rel {N : Num} {σ : Dk} {δ : Dc} (L : Rl N σ δ) (Z : Fine σ) (l : Tx) (k : Int) (b : Tx) : (writeR σ l k b).1 = (writeD δ l k b).1 ∧ Rl N (writeR σ l k b).2 (writeD δ l k b).2 := by
  unfold writeR writeD
  rcases L.file l with ⟨e, h1, h2⟩ | ⟨x, i, c, h1, h2, h3, h4, h5⟩
  · rw [h1, h2]; exact ⟨rfl, L⟩
  · rw [h1, h2]; exact put_rel L Z h3 k b
theorem append_rel {N : Num} {σ : Dk} {δ : Dc} (L : Rl N σ δ) (Z : Fine σ) (l : Tx) (b : Tx) : (appendR σ l b).1 = (appendD δ l b).1 ∧ Rl N (appendR σ l b).2 (appendD δ l b).2 := by
  unfold appendR appendD
  rcases L.file l with ⟨e, h1, h2⟩ | ⟨x, i, c, h1, h2, h3, h4, h5⟩
  · rw [h1, h2]; exact ⟨rfl, L⟩
  · rw [h1, h2]
    have hs : σ.size x = sizeD δ i := by
      unfold Dk.size sizeD; rw [h4, h5]
      simp only [Option.map_some, Option.getD_some, bytesD_eq (Z x c h4)]
    simp only
    rw [hs]
    exact put_rel L Z h3 _ b

/-! ### What is read -/

theorem read_rel {N : Num} {σ : Dk} {δ : Dc} (L : Rl N σ δ) (Z : Fine σ) (l : Tx) : readE σ l = readD δ l := by
  unfold readE readD
  rcases L.file l with ⟨e, h1, h2⟩ | ⟨x, i, c, h1, h2, h3, h4, h5⟩
  · rw [h1, h2]
  · rw [h1, h2]; simp only [h4, h5, bytesD_eq (Z x c h4)]
theorem readAt_rel {N : Num} {σ : Dk} {δ : Dc} (L : Rl N σ δ) (Z : Fine σ) (l : Tx) (i n : Int) : readAtE σ l i n = readAtD δ l i n := by
  unfold readAtE readAtD; rw [read_rel L Z]
theorem uns_rel {N : Num} {σ : Dk} {δ : Dc} (L : Rl N σ δ) (l : Tx) : unsE σ l = unsD δ l := by
  unfold unsE unsD
  rcases L.file l with ⟨e, h1, h2⟩ | ⟨x, i, c, h1, h2, h3, h4, h5⟩
  · rw [h1, h2]
  · rw [h1, h2]; simp only [h4, h5]
theorem open_rel {N : Num} {σ : Dk} {δ : Dc} (L : Rl N σ δ) (l : Tx) : openE σ l = openD δ l := by
  unfold openE openD
  rcases L.find l with ⟨e, h1, h2⟩ | ⟨i, b, ws, d, m, q, h1, h2, A⟩
  · rw [h1, h2]
  · rw [h1, h2]
    simp only [A.dr, A.di]
    have hwl := A.wy.1
    rw [List.length_append, List.length_singleton] at hwl
    congr 1
    omega
theorem list_rel {N : Num} {σ : Dk} {δ : Dc} (L : Rl N σ δ) (l : Tx) : listE σ l = listD δ l := by
  unfold listE listD
  rcases L.find l with ⟨e, h1, h2⟩ | ⟨i, b, ws, d, m, q, h1, h2, A⟩
  · rw [h1, h2]
  · rw [h1, h2]; simp only [A.at_, A.nw, (A.ok.keys A.mp).1]
theorem same_rel {N : Num} {σ : Dk} {δ : Dc} (L : Rl N σ δ) (l l' : Tx) : sameE σ l l' = sameD δ l l' := by
  unfold sameE sameD
  rcases L.file l with ⟨e, h1, h2⟩ | ⟨x, i, c, h1, h2, h3, h4, h5⟩
  · rw [h1, h2]
  rcases L.file l' with ⟨e, g1, g2⟩ | ⟨x', i', c', g1, g2, g3, g4, g5⟩
  · rw [h1, h2, g1, g2]
  rw [h1, h2, g1, g2]
  show decide (x = x') = decide (i = i')
  refine decide_eq_decide.2 ⟨fun e => ?_, fun e => ?_⟩
  · subst e; exact L.ni i i' x h3 g3
  · subst e; rw [h3] at g3; exact Option.some.inj g3

/-! ### A crash -/

theorem cutN_mod (t n : Nat) (hn : n ≤ 4611686018427387904) : cutN t (n : Int) = t % (n + 1) := by
  unfold cutN
  rw [wi64 (by omega) (by omega)]
  rfl
theorem crashD_rel {N : Num} {σ : Dk} {δ : Dc} (L : Rl N σ δ) {n : Nat} (O : Ok2 δ n) (names : List Int) : ∀ m, m ≤ δ.dirs.length →
    (crashD σ names ((keysOf σ.dirs).take m)).1 = (crashDD δ names m).1 ∧ Rl N (crashD σ names ((keysOf σ.dirs).take m)).2 (crashDD δ names m).2 ∧ (crashDD δ names m).2.dirs.map (·.1) = δ.dirs.map (·.1)
  | 0, _ => by rw [List.take_zero]; exact ⟨rfl, L, rfl⟩
  | m + 1, hm => by
    obtain ⟨h1, h2, h3⟩ := crashD_rel L O names m (by omega)
    have ok := (crashDD_ok O names m).1
    have hk : (keysOf σ.dirs)[m]? = some δ.dirs[m].1 := by rw [L.keysD, List.getElem?_map, List.getElem?_eq_getElem (by omega)]; rfl
    rw [List.take_add_one, hk]
    show (crashD σ names ((keysOf σ.dirs).take m ++ [δ.dirs[m].1])).1 = _ ∧ Rl N (crashD σ names ((keysOf σ.dirs).take m ++ [δ.dirs[m].1])).2 _ ∧ _
    rw [crashD_snoc, crashDD_succ]
    have hd : ((crashDD δ names m).2.dirs.map (·.1))[m]? = some δ.dirs[m].1 := by rw [h3, List.getElem?_map, List.getElem?_eq_getElem (by omega)]; rfl
    generalize δ.dirs[m].1 = a at *
    generalize crashD σ names ((keysOf σ.dirs).take m) = A at *
    generalize crashDD δ names m = B at *
    obtain ⟨t, τ⟩ := A
    obtain ⟨t', δ'⟩ := B
    simp only at h1 h2 h3 ok hd
    subst h1
    rw [List.getElem?_map] at hd
    obtain ⟨p, hp, he⟩ := Option.map_eq_some_iff.1 hd
    obtain ⟨a', ws⟩ := p
    simp only at he
    subst he
    obtain ⟨b, d, mm, l, AA⟩ := h2.atI hp
    have hwl := AA.wy.1
    rw [List.length_append, List.length_singleton] at hwl
    have hwb := ok.W.wl _ (List.mem_of_getElem? hp)
    simp only at hwb
    unfold dstep dstepD
    simp only [AA.lk, AA.dr, hp, Option.bind_some, Option.map_some]
    by_cases hw : d.was = []
    · rw [if_pos hw, if_neg (by rw [← hwl, hw]; simp)]; exact ⟨rfl, h2, h3⟩
    · have hpos := List.length_pos_iff.2 hw
      rw [if_neg hw, if_pos (by omega)]
      have hu : (ws.length : Int) - 1 = ((d.was.length : Nat) : Int) := by omega
      rw [hu, cutN_mod _ _ (by omega)]
      have hlt : turnV names t % (d.was.length + 1) < d.was.length + 1 := Nat.mod_lt _ (by omega)
      generalize turnV names t % (d.was.length + 1) = k at hlt
      have hk : (d.was ++ [d.now])[k]? = some ((d.was[k]?).getD d.now) := by
        by_cases hkl : k < d.was.length
        · rw [List.getElem?_append_left hkl, List.getElem?_eq_getElem hkl]; rfl
        · have : k = d.was.length := by omega
          subst this; simp
      refine ⟨rfl, h2.settle AA hk, ?_⟩
      have hs : (settleD δ' m k).dirs.map (·.1) = δ'.dirs.map (·.1) := by
        unfold settleD; rw [hp]
        simp only
        split
        · show (δ'.dirs.set m _).map (·.1) = _
          rw [List.map_set]
          apply List.ext_getElem?
          intro j
          rw [List.getElem?_set]
          split
          · rename_i e; subst e
            rw [List.length_map, if_pos (ltOf hp), List.getElem?_map, hp]; rfl
          · rfl
        · rfl
      rw [hs]; exact h3

def fstepR (l : List Int) (a : Nat × Dk) (x : Nat) : Nat × Dk := match a.2.fl x with
  | none => a
  | some c => if 0 < unsW c.opn then (a.1 + 1, { a.2 with fl := upd a.2.fl x ⟨keptL (cutN (turnV l a.1) (unsW c.opn)) c.fast c.opn, [], keptL (cutN (turnV l a.1) (unsW c.opn)) c.fast c.opn⟩ }) else a
theorem crashF_eq (σ : Dk) (keeps : List Int) (w : List (Tx × Nat)) : (crashF σ keeps w).2 = (distinct (w.map (·.2))).foldl (fstepR keeps) (0, σ) := by
  induction w using snoc_ind with
  | h0 => rfl
  | h1 w e ih =>
    rw [crashF_snoc, List.map_append, List.map_singleton, distinct_snoc]
    have hs := crashF_seen σ keeps w
    unfold cstep
    simp only
    rw [hs]
    by_cases hm : e.2 ∈ w.map (·.2)
    · rw [if_pos ((mem_distinct _).2 hm), ← ih]
      cases hc : (crashF σ keeps w).2.2.fl e.2 with
      | none => rfl
      | some c => simp only; rw [if_neg fun z => z.1 hm]
    · rw [if_neg fun z => hm ((mem_distinct _).1 z), List.foldl_append, ← ih]
      show _ = fstepR keeps (crashF σ keeps w).2 e.2
      unfold fstepR
      cases hc : (crashF σ keeps w).2.2.fl e.2 with
      | none => rfl
      | some c =>
        simp only
        by_cases hu : 0 < unsW c.opn
        · rw [if_pos ⟨hm, hu⟩, if_pos hu]
        · rw [if_neg fun z => hu z.2, if_neg hu]
theorem crashF_rel {N : Num} {σ : Dk} {δ : Dc} (L : Rl N σ δ) (keeps : List Int) (I : List Nat) (hI : ∀ i ∈ I, ∃ x, N i = some x) :
    ((I.map fun i => (N i).getD 0).foldl (fstepR keeps) (0, σ)).1 = (crashDF δ keeps I).1 ∧ Rl N ((I.map fun i => (N i).getD 0).foldl (fstepR keeps) (0, σ)).2 (crashDF δ keeps I).2 := by
  induction I using snoc_ind with
  | h0 => exact ⟨rfl, L⟩
  | h1 I i ih =>
    obtain ⟨h1, h2⟩ := ih fun j hj => hI j (List.mem_append_left _ hj)
    obtain ⟨x, hx⟩ := hI i (by simp)
    rw [crashDF_snoc, List.map_append, List.foldl_append, List.map_singleton, List.foldl_cons, List.foldl_nil, hx, Option.getD_some]
    generalize (I.map fun i => (N i).getD 0).foldl (fstepR keeps) (0, σ) = A at *
    generalize crashDF δ keeps I = B at *
    obtain ⟨t, τ⟩ := A
    obtain ⟨t', δ'⟩ := B
    simp only at h1 h2
    subst h1
    obtain ⟨c, h3, h4⟩ := h2.fi i x hx
    unfold fstepR fstepD
    simp only [h3, h4]
    by_cases hu : 0 < unsW c.opn
    · rw [if_pos hu, if_pos hu]
      exact ⟨rfl, h2.setX hx ⟨keptL (cutN (turnV keeps t) (unsW c.opn)) c.fast c.opn, [], keptL (cutN (turnV keeps t) (unsW c.opn)) c.fast c.opn⟩⟩
    · rw [if_neg hu, if_neg hu]; exact ⟨rfl, h2⟩

def zero (σ : Dk) : Dk := { σ with fail := ⟨0, 0, 0⟩, stop := ⟨0, 0, 0⟩ }
theorem dstep_z (l : List Int) (a : Nat × Dk) (n : Tx) : dstep l (a.1, zero a.2) n = ((dstep l a n).1, zero (dstep l a n).2) := by
  rcases dstep_cases l a n with h | ⟨b, d, h1, h2, h3, h⟩
  · have : dstep l (a.1, zero a.2) n = (a.1, zero a.2) := by
      unfold dstep at h ⊢
      show (match (look n a.2.dirs).bind fun b => (a.2.dr b).map fun d => (b, d) with | none => (a.1, zero a.2) | some (b, d) => if d.was = [] then (a.1, zero a.2) else _) = _
      cases hq : (look n a.2.dirs).bind fun b => (a.2.dr b).map fun d => (b, d) with
      | none => rfl
      | some p =>
        rw [hq] at h
        simp only at h ⊢
        by_cases hw : p.2.was = []
        · rw [if_pos hw]
        · rw [if_neg hw] at h
          have := congrArg Prod.fst h
          simp at this
    rw [this, h]
  · rw [h]
    unfold dstep
    show (match (look n a.2.dirs).bind fun b => (a.2.dr b).map fun d => (b, d) with | none => _ | some (b, d) => _) = _
    rw [h1, Option.bind_some, h2]
    simp only [Option.map_some]
    rw [if_neg h3]; rfl
theorem crashD_z (σ : Dk) (l : List Int) (w : List Tx) : crashD (zero σ) l w = ((crashD σ l w).1, zero (crashD σ l w).2) := by
  induction w using snoc_ind with
  | h0 => rfl
  | h1 w n ih => rw [crashD_snoc, crashD_snoc, ih, dstep_z]
theorem fstepR_z (l : List Int) (a : Nat × Dk) (x : Nat) : fstepR l (a.1, zero a.2) x = ((fstepR l a x).1, zero (fstepR l a x).2) := by
  unfold fstepR
  show (match a.2.fl x with | none => _ | some c => _) = _
  cases hc : a.2.fl x with
  | none => rfl
  | some c =>
    simp only
    by_cases hu : 0 < unsW c.opn
    · rw [if_pos hu, if_pos hu]; rfl
    · rw [if_neg hu, if_neg hu]
theorem foldF_z (σ : Dk) (l : List Int) (w : List Nat) : w.foldl (fstepR l) (0, zero σ) = ((w.foldl (fstepR l) (0, σ)).1, zero (w.foldl (fstepR l) (0, σ)).2) := by
  induction w using snoc_ind with
  | h0 => rfl
  | h1 w x ih => rw [List.foldl_append, List.foldl_append, ih]; exact fstepR_z l _ x

theorem crash_rel {N : Num} {σ : Dk} {δ : Dc} (L : Rl N σ δ) {n : Nat} (O : Ok2 δ n) (keeps names : List Int) : Rl N (crashR σ keeps names) (crashDoc δ keeps names) := by
  have L0 : Rl N (zero σ) (stopD (failD δ 0 0) 0) := by
    have hf : failD δ 0 0 = { δ with failIn := 0, failFor := 0 } := rfl
    have hs : stopD (failD δ 0 0) 0 = { δ with failIn := 0, failFor := 0, stopIn := 0, stopped := false } := rfl
    rw [hs]
    exact ⟨L.q, L.dk, L.srt, fun a ws h => let ⟨b, d, g1, g2, g3⟩ := L.di a ws h; ⟨b, d, g1, g2, g3.mono (Le.refl N) fun _ _ x => x⟩, L.inj, L.fi, L.ni, .inl ⟨.inl (by show (0 : Int) < 1; omega), rfl, rfl⟩, .inl ⟨.inl (by show (0 : Int) < 1; omega), rfl, rfl⟩⟩
  have O0 : Ok2 (stopD (failD δ 0 0) 0) n := ⟨⟨O.W.ways, O.W.few, O.W.wl, O.W.nl⟩, O.F, O.fn⟩
  unfold crashDoc
  simp only
  generalize stopD (failD δ 0 0) 0 = δ0 at *
  have hk : (keysOf σ.dirs).length = δ0.dirs.length := by
    have := L0.keysD
    rw [show keysOf σ.dirs = δ0.dirs.map (·.1) from this, List.length_map]
  obtain ⟨h1, h2, h3⟩ := crashD_rel L0 O0 names δ0.dirs.length (Nat.le_refl _)
  rw [show (zero σ).dirs = σ.dirs from rfl, ← hk, List.take_length, crashD_z] at h2
  rw [hk] at h2
  simp only at h2
  unfold crashR
  simp only
  generalize (crashD σ names (keysOf σ.dirs)).2 = τ at *
  generalize (crashDD δ0 names δ0.dirs.length).2 = δ1 at *
  obtain ⟨g1, g2⟩ := all_rel h2
  obtain ⟨_, g3⟩ := crashF_rel h2 keeps (allD δ1) g2
  rw [← g1, show walkL (zero τ) = walkL τ from rfl, foldF_z, ← crashF_eq] at g3
  exact g3

end Go.V.YtdeihieblljfcaaGreat
