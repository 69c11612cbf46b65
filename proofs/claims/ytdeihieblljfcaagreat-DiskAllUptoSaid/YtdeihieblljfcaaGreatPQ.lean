/- This text proves a part of the laws of seat YtdeihieblljfcaaGreat, under no condition: F2t F2u. -/
import Derived.Test.YtdeihieblljfcaaGreatPP
import Derived.Test.YtdeihieblljfcaaGreatPC
set_option linter.unusedVariables false
set_option linter.unusedSimpArgs false
/-! Bytes: copies, writes, what is kept. -/
namespace Go.V.YtdeihieblljfcaaGreat
open Go Go.V

def overL (i : Nat) (m l : Tx) : Tx := l.take i ++ m ++ l.drop (i + m.length)
theorem overL_len {i : Nat} {m l : Tx} (h : i ≤ l.length) : (overL i m l).length = max l.length (i + m.length) := by unfold overL; simp; omega
def appl : Tx → List (Nat × Tx) → Tx
  | l, [] => l
  | l, o :: r => appl (overL o.1 o.2 l) r
def chain : Tx → List (Nat × Tx) → Prop
  | _, [] => True
  | l, o :: r => o.1 ≤ l.length ∧ chain (overL o.1 o.2 l) r
theorem appl_snoc (o : Nat × Tx) : ∀ (r : List (Nat × Tx)) (l : Tx), appl l (r ++ [o]) = overL o.1 o.2 (appl l r)
  | [], _ => rfl
  | p :: r, l => appl_snoc o r _
theorem chain_snoc {o : Nat × Tx} : ∀ {r : List (Nat × Tx)} {l : Tx}, chain l r → o.1 ≤ (appl l r).length → chain l (r ++ [o])
  | [], _, _, h => ⟨h, trivial⟩
  | p :: r, l, ⟨h1, h2⟩, h => ⟨h1, chain_snoc h2 h⟩
theorem appl_len : ∀ {r : List (Nat × Tx)} {l : Tx}, chain l r → l.length ≤ (appl l r).length ∧ ∀ o ∈ r, o.1 + o.2.length ≤ (appl l r).length
  | [], l, _ => ⟨Nat.le_refl _, fun o h => by cases h⟩
  | p :: r, l, ⟨h1, h2⟩ => by
    have ih := appl_len h2
    rw [overL_len h1] at ih
    refine ⟨by unfold appl; omega, fun o ho => ?_⟩
    rcases List.mem_cons.1 ho with rfl | ho
    · unfold appl; omega
    · exact ih.2 o ho

structure FlOk (c : Fl) : Prop where
  ch : chain c.fast c.opn
  now : c.now = appl c.fast c.opn
  len : c.now.length ≤ 268435456

theorem c47 {h : Heap} {s : Slc} {l : Tx} (a : Arr 1 dF h s l) (hl : l.length ≤ 140737488355328) {R : Slc → Heap → Prop}
    (k : ∀ s' h', Own 1 dF h' s' l → Fresh h h' s' → R s' h') : Call Go.Proofs.Tryz.prog 47 [.lf (.slc s)] h [.one .slc] R := by
  refine ok47 (Br.mk (fun hn => ?_) fun hn => New.mk fun b0 h1 hb0 hs1 e1 k1 => ?_)
  · have hl0 : l = [] := Classical.byContradiction fun w => by
      obtain ⟨b, off, hb⟩ := a.ne w
      rw [hb] at hn; cases hn
    subst hl0
    exact k _ h (Own.nil 1 dF h) (Fresh.nil 0)
  · have o1 : Own 1 dF h1 ⟨some (b0, 0), 0, 0⟩ [] := Own.new dF_sized (l := []) k1
    refine AppC.grow dF_sized (by decide) rfl o1 (a.ext0 e1) (by simpa using hl) fun s2 h3 o3 g3 => ?_
    have f1 : Fresh h h1 ⟨some (b0, 0), 0, 0⟩ := ⟨e1, fun b off x => by cases x; omega⟩
    exact k s2 h3 (by simpa using o3) (f1.grow g3)

theorem c111 {h : Heap} {i : Nat} {sm sl : Slc} {m l : Tx} (am : Arr 1 dF h sm m) (al : Arr 1 dF h sl l) (hi : i ≤ l.length) (hl : l.length ≤ 4398046511104) (hm : m.length ≤ 4398046511104) {R : Slc → Heap → Prop}
    (k : ∀ s' h', Own 1 dF h' s' (overL i m l) → Fresh h h' s' → R s' h') : Call Go.Proofs.Tryz.prog 111 [VV.agg [.int .i64 (i : Int), .slc sm], .lf (.slc sl)] h [.one .slc] R := by
  have hml := am.len
  have hll := al.len
  refine ok111 (New.mk fun b0 h1 hb0 hs1 e1 k1 => ?_)
  rw [wi64 (n := (i : Int) + (sm.len : Int)) (by omega) (by omega)]
  refine Br.dec (fun hgt => ?_) fun hle => ?_
  · refine c47 (al.ext0 e1) (by omega) fun s2 h3 o3 f3 => ⟨f3.ext.keep k1.lt (fun x => x), ?_⟩
    rw [wi64 (n := (i : Int) + (sm.len : Int) - (sl.len : Int)) (by omega) (by omega)]
    refine AppZ.grow (z := 0) dF_sized (by decide) rfl o3 (k := i + m.length - l.length) (by omega) (by omega) fun s4 h5 o5 g5 => ?_
    have f5 := f3.grow g5
    have hs4 := o5.len
    refine ⟨f3.keep g5 k1.lt, by omega, by rw [hs4]; simp; omega, ?_⟩
    rw [show (Int.toNat (i : Int)) = i from rfl]
    refine CpyC.own dF_sized o5 (((am.ext0 e1).ext0 f3.ext).ext g5.ext fun ⟨b, off, x, off', y⟩ => ?_) (by simp; omega) fun n h7 hs7 o7 e7 => ?_
    · by_cases hm0 : m = []
      · rw [hm0] at hml; simp at hml; omega
      · have : b < h1.size := by
          obtain ⟨w, ws, rfl⟩ := List.exists_cons_of_ne_nil hm0
          have hc := (am.ext0 e1).at_ b off x 0 w rfl
          exact cellsAt.lt hc
        have := f3.new _ _ y; omega
    · have f7 : Fresh h h7 s4 := ⟨(e1.trans f5.ext).trans' e7 fun j hj ⟨off, x⟩ => by have := f5.new _ _ x; omega, fun b off x => by have := f5.new _ _ x; omega⟩
      have f17 : keepB h5 h7 [b0] := e7.keep (by have := f5.ext.size; have := k1.lt; omega) fun ⟨off, x⟩ => by have := f5.new _ _ x; have := k1.lt; omega
      refine ⟨f17, k s4 h7 ?_ f7⟩
      have : overL i m l = (l ++ List.replicate (i + m.length - l.length) 0).take i ++ m ++ (l ++ List.replicate (i + m.length - l.length) 0).drop (i + m.length) := by
        unfold overL
        have d1 : l.drop (i + m.length) = [] := List.drop_of_length_le (by omega)
        have d2 : (l ++ List.replicate (i + m.length - l.length) 0).drop (i + m.length) = [] := List.drop_of_length_le (by rw [List.length_append, List.length_replicate]; omega)
        rw [List.take_append_of_le_length hi, d1, d2]
      rw [this]; exact o7
  · refine c47 (al.ext0 e1) (by omega) fun s2 h3 o3 f3 => ?_
    have hs2 := o3.len
    refine ⟨f3.ext.keep k1.lt (fun x => x), by omega, by rw [hs2]; omega, ?_⟩
    rw [show (Int.toNat (i : Int)) = i from rfl]
    refine CpyC.own dF_sized o3 ((am.ext0 e1).ext0 f3.ext) (by omega) fun n h7 hs7 o7 e7 => ?_
    have f7 : Fresh h h7 s2 := ⟨(e1.trans f3.ext).trans' e7 fun j hj ⟨off, x⟩ => by have := f3.new _ _ x; omega, fun b off x => by have := f3.new _ _ x; omega⟩
    have f17 : keepB h3 h7 [b0] := e7.keep (by have := f3.ext.size; have := k1.lt; omega) fun ⟨off, x⟩ => by have := f3.new _ _ x; have := k1.lt; omega
    exact ⟨f17, k s2 h7 o7 f7⟩

end Go.V.YtdeihieblljfcaaGreat
/-! What of a file does not stand fast; what is kept of it. -/
namespace Go.V.YtdeihieblljfcaaGreat
open Go Go.V

def uns (o : List (Nat × Tx)) : Nat := (o.map (·.2.length)).sum
def unsW (o : List (Nat × Tx)) : Int := IntKind.wrap .i64 (uns o : Int)
theorem wrap_add (a b : Int) : IntKind.wrap .i64 (IntKind.wrap .i64 a + b) = IntKind.wrap .i64 (a + b) := by
  rw [IntKind.wrap_i64, IntKind.wrap_i64, IntKind.wrap_i64]; omega
theorem wrap_rng (a : Int) : -9223372036854775808 ≤ IntKind.wrap .i64 a ∧ IntKind.wrap .i64 a ≤ 9223372036854775807 := by
  rw [IntKind.wrap_i64]; omega
theorem unsW_snoc (o : List (Nat × Tx)) (i : Nat) (b : Tx) : IntKind.wrap .i64 (unsW o + (b.length : Int)) = unsW (o ++ [(i, b)]) := by
  unfold unsW
  rw [wrap_add]
  congr 1
  unfold uns
  rw [List.map_append, List.sum_append]
  simp
theorem unsW_take {o : List (Nat × Tx)} {n : Nat} {p : Nat × Tx} (h : o[n]? = some p) : IntKind.wrap .i64 (unsW (o.take n) + (p.2.length : Int)) = unsW (o.take (n + 1)) := by
  rw [List.take_add_one, h]; exact unsW_snoc _ _ _

theorem c48 {h : Heap} {lab : Labs} {f D : Nat} {σ : Dk} (R0 : DR h lab f D σ) {x : Nat} {c : Fl} (hx : σ.fl x = some c) (hb : c.opn.length ≤ 4398046511104) {R : Int → Heap → Prop}
    (k : ∀ h', Ext0 h h' → R (unsW c.opn) h') : Call Go.Proofs.Tryz.prog 48 [.lf (.ptr (some (x, 0)))] h [.one (.int .i64)] R := by
  obtain ⟨sf, so, sn, os, B, yf, oo, hs, hc, ho, yn⟩ := (R0.fls x c hx).1.ex
  have hol := oo.len
  rw [List.length_map] at hol
  have hcl : c.opn.length = os.length := by rw [hc, List.length_map]
  refine ok48 (NilC.mk rfl ⟨so, B.cell rfl, ⟨fun a i hh d => ∃ n : Nat, i = (n : Int) ∧ n ≤ os.length ∧ a = unsW (c.opn.take n) ∧ Ext0 h hh ∧ d = os.length - n, ⟨_, 0, rfl, Nat.zero_le _, rfl, Ext.refl _ _, rfl⟩, ?_⟩⟩)
  rintro a i h7 d ⟨n, rfl, hn, rfl, e7, rfl⟩
  refine Br.dec (fun hlt => ?_) fun hge => ?_
  · have hlt' : n < os.length := by omega
    have hcap := oo.lec
    refine ((oo.ext0 e7).arr oF_sized).ix rfl (x := os[n].1) (by rw [List.getElem?_map, List.getElem?_eq_getElem hlt']; rfl) fun b9 b10 hcell => ?_
    refine ⟨_, _, hcell, New.mk fun b13 h14 hb13 hs14 e14 k14 => Set.mk fun h15 hs15 e15 k15 => ⟨_, ?_, n + 1, ?_, by omega, ?_, (e7.trans e14).tmp e15 (by have := e7.size; omega), rfl⟩⟩
    · omega
    · rw [wi64 (by omega) (by omega)]; rfl
    · have h1 : c.opn[n]? = some (os[n].1.1, os[n].2) := by rw [hc, List.getElem?_map, List.getElem?_eq_getElem hlt']; rfl
      have hl := (ho os[n] (List.getElem_mem hlt')).arr.len
      rw [hl]; exact unsW_take h1
  · have : n = os.length := by omega
    subst this
    rw [← hcl, List.take_length]
    exact k h7 e7

def keptL : Nat → Tx → List (Nat × Tx) → Tx
  | _, l, [] => l
  | k, l, o :: r => keptL (k - min k o.2.length) (if 0 < min k o.2.length then overL o.1 (o.2.take (min k o.2.length)) l else l) r

theorem appl_take_succ {c : Tx} {os : List (Nat × Tx)} {n : Nat} {o : Nat × Tx} (h : os[n]? = some o) : appl c (os.take (n + 1)) = overL o.1 o.2 (appl c (os.take n)) := by
  rw [List.take_add_one, h]; exact appl_snoc o _ _
theorem chain_at : ∀ {os : List (Nat × Tx)} {c : Tx} {n : Nat} {o : Nat × Tx}, chain c os → os[n]? = some o → o.1 ≤ (appl c (os.take n)).length
  | [], _, n, _, _, h => by simp at h
  | p :: r, c, 0, o, ⟨h1, _⟩, h => by simp at h; subst h; exact h1
  | p :: r, c, n + 1, o, ⟨_, h2⟩, h => chain_at (os := r) (n := n) h2 (by simpa using h)
theorem chain_take : ∀ {os : List (Nat × Tx)} {c : Tx} (n : Nat), chain c os → (appl c (os.take n)).length ≤ (appl c os).length
  | [], _, n, _ => by simp
  | p :: r, c, 0, h => (appl_len h).1
  | p :: r, c, n + 1, ⟨_, h2⟩ => chain_take (os := r) n h2

theorem c52 {h : Heap} {lab : Labs} {f D : Nat} {σ : Dk} (R0 : DR h lab f D σ) {x : Nat} {c : Fl} (hx : σ.fl x = some c) (ok : FlOk c) (hb : c.opn.length ≤ 4398046511104) {k0 : Nat} (hk0 : k0 ≤ 9223372036854775807) {R : Heap → Prop}
    (k : ∀ h' lab', FlOk ⟨keptL k0 c.fast c.opn, [], keptL k0 c.fast c.opn⟩ → DR h' lab' f D { σ with fl := upd σ.fl x ⟨keptL k0 c.fast c.opn, [], keptL k0 c.fast c.opn⟩ } → Stp lab h lab' h' → lab.Le lab' → (∀ i, lab i = none → lab' i = none ∨ lab' i = some .dat) → Ext (fun i => i = x) h h' → R h') :
    Call Go.Proofs.Tryz.prog 52 [.lf (.ptr (some (x, 0))), .lf (.int .i64 (k0 : Int))] h [] R := by
  have lx := (R0.fls x c hx).2
  obtain ⟨sf, so, sn, os, B, yf, oo, hs, hc, ho, yn⟩ := (R0.fls x c hx).1.ex
  have hol := oo.len
  rw [List.length_map] at hol
  have hcl : c.opn.length = os.length := by rw [hc, List.length_map]
  have hnow : (appl c.fast c.opn).length ≤ 268435456 := by rw [← ok.now]; exact ok.len
  refine ok52 (NilC.mk rfl ⟨sf, B.cell rfl, NilC.mk rfl ⟨so, B.cell rfl,
    ⟨fun a s i hh d => ∃ (n kk : Nat) (l : Tx), i = (n : Int) ∧ n ≤ os.length ∧ a = (kk : Int) ∧ kk ≤ k0 ∧ keptL kk l (c.opn.drop n) = keptL k0 c.fast c.opn ∧ (kk = 0 ∨ l = appl c.fast (c.opn.take n)) ∧ l.length ≤ (appl c.fast c.opn).length ∧
      Arr 1 dF hh s l ∧ s.len ≤ s.cap ∧ s.plain ∧ (∀ b off, s.a = some (b, off) → lab b = some .dat ∨ (h.size ≤ b ∧ b < hh.size)) ∧ Ext0 h hh ∧ d = os.length - n,
      ⟨_, 0, k0, c.fast, rfl, Nat.zero_le _, rfl, Nat.le_refl _, rfl, .inr rfl, (appl_len ok.ch).1, yf.arr, yf.cap, yf.pl, fun b off y => .inl (yf.lab b off y), Ext.refl _ _, rfl⟩, ?_⟩⟩⟩)
  rintro a s i hh d ⟨n, kk, l, rfl, hn, rfl, hkk, hkept, hor, hlen, A, hcap, hpl, hlab, e7, rfl⟩
  refine Br.dec (fun hlt => ?_) fun hge => ?_
  · have hlt' : n < os.length := by omega
    have h1 : c.opn[n]? = some (os[n].1.1, os[n].2) := by rw [hc, List.getElem?_map, List.getElem?_eq_getElem hlt']; rfl
    have hlt2 : n < c.opn.length := by omega
    have hmem : (os[n].1.1, os[n].2) ∈ c.opn := List.mem_of_getElem? h1
    have hwl : os[n].1.1 + os[n].2.length ≤ (appl c.fast c.opn).length := (appl_len ok.ch).2 _ hmem
    have hby := ho os[n] (List.getElem_mem hlt')
    have hl := hby.arr.len
    have hbc := hby.cap
    have hmin : (if (os[n].1.2.len : Int) < (kk : Int) then (os[n].1.2.len : Int) else (kk : Int)) = ((min kk os[n].2.length : Nat) : Int) := by split <;> omega
    have hdrop : c.opn.drop n = (os[n].1.1, os[n].2) :: c.opn.drop (n + 1) := by
      rw [List.drop_eq_getElem_cons hlt2]
      rw [List.getElem?_eq_getElem hlt2] at h1
      rw [Option.some.inj h1]
    refine ⟨fun a' s' hh' => ∃ (l' : Tx), a' = ((kk - min kk os[n].2.length : Nat) : Int) ∧ keptL (kk - min kk os[n].2.length) l' (c.opn.drop (n + 1)) = keptL k0 c.fast c.opn ∧ (kk - min kk os[n].2.length = 0 ∨ l' = appl c.fast (c.opn.take (n + 1))) ∧ l'.length ≤ (appl c.fast c.opn).length ∧
      Arr 1 dF hh' s' l' ∧ s'.len ≤ s'.cap ∧ s'.plain ∧ (∀ b off, s'.a = some (b, off) → lab b = some .dat ∨ (h.size ≤ b ∧ b < hh'.size)) ∧ Ext0 h hh', ?_, ?_⟩
    · refine ((oo.ext0 e7).arr oF_sized).ix rfl (x := os[n].1) (by rw [List.getElem?_map, List.getElem?_eq_getElem hlt']; rfl) fun b9 b10 hcell => ?_
      refine ⟨_, _, hcell, New.mk fun b13 h14 hb13 hs14 e14 k14 => Set.mk fun h15 hs15 e15 k15 => ?_⟩
      have e015 : Ext0 h h15 := (e7.trans e14).tmp e15 (by have := e7.size; omega)
      have e715 : Ext0 hh h15 := e14.tmp e15 (by omega)
      rw [hmin, wi64 (by omega) (by omega)]
      have hsub : ((kk : Int) - ((min kk os[n].2.length : Nat) : Int)) = ((kk - min kk os[n].2.length : Nat) : Int) := by omega
      rw [hsub]
      refine Br.dec (fun hpos => ⟨by omega, by omega, ?_⟩) fun hzero => ⟨l, rfl, ?_, ?_, hlen, A.ext0 e715, hcap, hpl, fun b off y => ?_, e015⟩
      · have hkpos : kk ≠ 0 := by omega
        have hl' : l = appl c.fast (c.opn.take n) := hor.resolve_left hkpos
        have hat : os[n].1.1 ≤ l.length := by rw [hl']; exact chain_at ok.ch h1
        rw [Int.toNat_natCast]
        have am := ((hby.arr.ext0 e015).sub (Nat.zero_le (min kk os[n].2.length)) (Nat.min_le_right _ _) (m := os[n].1.2.cap) (by omega))
        rw [List.drop_zero] at am
        refine c111 am (A.ext0 e715) hat (by omega) (by simp; omega) fun s' h22 o22 f22 => ⟨f22.ext.keep (by omega) (fun y => y), _, rfl, ?_, ?_, ?_, o22.arr dF_sized, o22.lec, o22.pl, fun b off y => .inr ⟨by have := f22.new _ _ y; have := e015.size; omega, (o22.lt _ _ y).1⟩, e015.trans f22.ext⟩
        · rw [← hkept, hdrop]
          show _ = keptL _ (if 0 < min kk os[n].2.length then _ else _) _
          rw [if_pos (by omega)]
        · rcases Nat.lt_or_ge os[n].2.length kk with h2 | h2
          · right
            have : min kk os[n].2.length = os[n].2.length := by omega
            rw [appl_take_succ h1, this, List.take_length, ← hl']
          · left; omega
        · rw [overL_len hat]
          simp only [List.length_take]
          omega
      · rw [← hkept, hdrop]
        show _ = keptL _ (if 0 < min kk os[n].2.length then _ else _) _
        rw [if_neg (by omega)]
      · by_cases hk : kk = 0
        · left; omega
        · right
          have h0 : os[n].2 = [] := List.length_eq_zero_iff.1 (by omega)
          have hl' : l = appl c.fast (c.opn.take n) := hor.resolve_left hk
          rw [appl_take_succ h1, h0, ← hl']
          unfold overL; simp
      · rcases hlab b off y with z | ⟨z, w⟩
        · exact .inl z
        · exact .inr ⟨z, Nat.lt_of_lt_of_le w e715.size⟩
    · rintro a' s' hh' ⟨l', rfl, g1, g2, g3, g4, g5, g6, g7, g8⟩
      refine ⟨os.length - (n + 1), by omega, n + 1, _, l', ?_, by omega, rfl, by omega, g1, g2, g3, g4, g5, g6, g7, g8, rfl⟩
      rw [wi64 (by omega) (by omega)]; rfl
  · have hn' : n = os.length := by omega
    have hkl : keptL k0 c.fast c.opn = l := by
      rw [← hkept, hn', ← hcl, List.drop_length]; rfl
    refine NilC.mk rfl (StC.one (B.ext e7) (by simp) fun h29 hs29 k29 e29 => NilC.mk rfl (StC.one k29 (by simp) fun h32 hs32 k32 e32 => NilC.mk rfl (StC.one k32 (by simp) fun h35 hs35 k35 e35 => ?_)))
    have E : Ext (fun i => i = x) hh h35 := (e29.trans e32).trans e35
    have E0 : Ext (fun i => i = x) h h35 := e7.of0.trans E
    have lts := R0.lt x (by rw [lx]; simp)
    have hsx : ∀ b off, s.a = some (b, off) → b ≠ x := fun b off y z => by
      subst z
      rcases hlab _ _ y with w | w
      · rw [lx] at w; cases w
      · omega
    have hle : lab.Le (named lab s .dat) := named_le fun b off y => by
      rcases hlab b off y with z | z
      · exact .inr z
      · exact .inl (R0.free z.1)
    have Y : Byt h35 (named lab s .dat) s l := ⟨A.ext E fun ⟨b, off, y, z⟩ => hsx b off y z, fun b off y => named_at y, hcap, hpl⟩
    have hF : FlOk ⟨l, [], l⟩ := ⟨trivial, rfl, Nat.le_trans hlen hnow⟩
    have R1 : DR h35 (named lab s .dat) f D { σ with fl := upd σ.fl x ⟨l, [], l⟩ } := by
      refine R0.setXL lx (E0.mono fun i hi => .inl hi) hle (fun b hb => ?_) ⟨s, _, s, [], by simpa using k35, Y, Own.nil 2 oF h35, fun y off hy => (by cases hy), rfl, fun o ho => (by cases ho), Y⟩
      by_cases hbs : ∃ off, s.a = some (b, off)
      · obtain ⟨off, y⟩ := hbs
        rcases hlab b off y with z | z
        · have := R0.lt b (by rw [z]; simp); have := E0.size; omega
        · have := E.size; omega
      · rw [named_ne fun off y => hbs ⟨off, y⟩] at hb
        have := R0.lt b hb; have := E0.size; omega
    have st : Stp lab h (named lab s .dat) h35 := ⟨E0.size, fun i hi hn => E0.same i hi fun y => (by rw [y, lx] at hn; simp at hn), fun i hi => by
      cases hli : lab i with
      | some L => exact hle _ _ hli
      | none =>
        rw [named_ne fun off y => ?_, hli]
        rcases hlab i off y with z | z
        · rw [hli] at z; cases z
        · omega⟩
    have := k h35 (named lab s .dat)
    rw [hkl] at this
    refine this hF R1 st hle (fun i hi => ?_) E0
    by_cases hs : ∃ off, s.a = some (i, off)
    · obtain ⟨off, hs⟩ := hs; exact .inr (named_at hs)
    · left; rw [named_ne fun off y => hs ⟨off, y⟩]; exact hi

end Go.V.YtdeihieblljfcaaGreat
