/- This text proves a part of the laws of seat YtdeihieblljfcaaDoor, under no condition: S2i. -/
import Derived.Test.YtdeihieblljfcaaDoorSQ
set_option linter.unusedVariables false
set_option linter.unusedSimpArgs false
/-! Scripts, as the program and as the document reads them. -/
namespace Go.V.YtdeihieblljfcaaDoor
open Go Go.V Go.Lib Go.Proofs

theorem index_nl : ∀ l : Tx, index l [10] = if (10 : UInt8) ∈ l then ((l.takeWhile (· != 10)).length : Int) else -1
  | [] => rfl
  | c :: r => by
    unfold index
    by_cases h : c = 10
    · subst h; simp
    · have hp : List.isPrefixOf [10] (c :: r) = false := by
        simp [List.isPrefixOf]; exact fun x => h x.symm
      have hb : (c != 10) = true := by simpa using h
      have hm : (10 : UInt8) ∈ c :: r ↔ (10 : UInt8) ∈ r := by simp [Ne.symm h]
      rw [hp, index_nl r]
      simp only [hm]
      by_cases hr : (10 : UInt8) ∈ r
      · simp only [if_pos hr, List.takeWhile_cons, hb, if_true, List.length_cons]
        rw [if_neg (by decide)]
        have : ¬ ((((List.takeWhile (· != 10) r).length : Int) == -1) = true) := by rw [beq_iff_eq]; omega
        rw [if_neg this]; simp
      · simp [if_neg hr]
theorem cut_nl (l : Tx) : (cut l [10]).1 = l.takeWhile (· != 10) ∧ (cut l [10]).2.1 = (l.dropWhile (· != 10)).drop 1 := by
  unfold cut
  rw [index_nl]
  by_cases h : (10 : UInt8) ∈ l
  · rw [if_pos h, if_pos (by omega)]
    have e := List.takeWhile_append_dropWhile (p := (· != (10 : UInt8))) (l := l)
    have e1 : l.take (l.takeWhile (· != 10)).length = l.takeWhile (· != 10) := by
      conv => lhs; rw [← e]
      rw [List.takeWhile_append_dropWhile]
      conv => lhs; arg 2; rw [← e]
      rw [List.take_left]
    have e2 : l.drop (l.takeWhile (· != 10)).length = l.dropWhile (· != 10) := by
      conv => lhs; arg 2; rw [← e]
      rw [List.drop_left]
    show l.take ((l.takeWhile (· != 10)).length : Int).toNat = _ ∧ l.drop (((l.takeWhile (· != 10)).length : Int).toNat + 1) = _
    rw [show ((l.takeWhile (· != 10)).length : Int).toNat = (l.takeWhile (· != 10)).length from rfl]
    refine ⟨e1, ?_⟩
    rw [← List.drop_drop, e2]
  · rw [if_neg h, if_neg (by omega)]
    have hall : ∀ c ∈ l, (c != 10) = true := fun c hc => by
      rw [bne_iff_ne]; rintro rfl; exact h hc
    have e2 : l.dropWhile (· != 10) = [] := dropWhile_nil.2 hall
    have e1 : l.takeWhile (· != 10) = l := by
      have := List.takeWhile_append_dropWhile (p := (· != (10 : UInt8))) (l := l)
      rwa [e2, List.append_nil] at this
    exact ⟨e1.symm, by rw [e2]; rfl⟩
theorem nl_len (l : Tx) (h : l ≠ []) : ((l.dropWhile (· != 10)).drop 1).length < l.length ∧ (l.takeWhile (· != 10)).length ≤ l.length := by
  have e := List.takeWhile_append_dropWhile (p := (· != (10 : UInt8))) (l := l)
  have e2 := congrArg List.length e
  rw [List.length_append] at e2
  rw [List.length_drop]
  have hl : l.length ≠ 0 := fun x => h (List.length_eq_zero_iff.1 x)
  omega

/-- A command in memory: what it says, and the slice of its words. -/
def yF : Say × Slc → List Lf := fun x => [.int .i64 (x.1.line : Int), .str (tx x.1.word), .slc x.2]
theorem yF_sized : Sized 3 yF := fun _ => rfl
/-- Commands in memory, of a call's own. -/
structure Says (h0 h : Heap) (s : Slc) (X : List (Say × Slc)) : Prop where
  own : Own 3 yF h s X
  fr : Fresh h0 h s
  args : ∀ x ∈ X, Arr 1 sF h x.2 x.1.args
  lt : ∀ x ∈ X, ∀ b off, x.2.a = some (b, off) → b < h.size
  dis : ∀ x ∈ X, ∀ b off off', x.2.a = some (b, off) → s.a ≠ some (b, off')
theorem Says.nil (h : Heap) : Says h h ⟨none, 0, 0⟩ [] := ⟨Own.nil _ _ _, Fresh.nil _, by simp, by simp, by simp⟩
theorem Says.ext0 {h0 h h' : Heap} {s : Slc} {X : List (Say × Slc)} (y : Says h0 h s X) (e : Ext0 h h') : Says h0 h' s X :=
  ⟨y.own.ext0 e, y.fr.ext0 e, fun x hx => (y.args x hx).ext0 e, fun x hx b off hb => Nat.lt_of_lt_of_le (y.lt x hx b off hb) e.size, y.dis⟩
theorem Says.pre {h1 h0 h : Heap} {s : Slc} {X : List (Say × Slc)} (y : Says h0 h s X) (e : Ext0 h1 h0) : Says h1 h s X :=
  ⟨y.own, ⟨e.trans y.fr.ext, fun b off hb => Nat.le_trans e.size (y.fr.new b off hb)⟩, y.args, y.lt, y.dis⟩

/-- One more. -/
theorem Says.add {h0 h : Heap} {s : Slc} {X : List (Say × Slc)} (y : Says h0 h s X) {w : Say} {a : Slc} (A : Arr 1 sF h a w.args) (hlt : ∀ b off, a.a = some (b, off) → b < h.size) (hd : ∀ b off off', a.a = some (b, off) → s.a ≠ some (b, off')) (hX : X.length ≤ 300) {K : Heap → Slc → Heap → Prop}
    (k : ∀ h1 s' h', Says h0 h' s' (X ++ [(w, a)]) → Ext0 h h1 → Ext (fun b => ∃ off, s.a = some (b, off)) h1 h' → K h1 s' h') :
    New 33 [Lf.int IntKind.i64 (w.line : Int), Lf.str (tx w.word), Lf.slc a] h fun b h' => AppC 33 [Lf.int IntKind.i64 (0 : Int), Lf.str (ByteArray.mk #[]), Lf.slc (Slc.mk none 0 0)] 3 48 s ⟨some (b, 0), 1, 1⟩ h' (K h') :=
  New.mk fun b h1 hb hs e1 k1 => AppC.grow yF_sized (by decide) rfl (y.own.ext0 e1) ((Own.new yF_sized (l := [(w, a)]) k1).arr yF_sized) (by simp; omega) fun s' h' o' g' => by
    have hext : Ext (fun b => ∃ off, s.a = some (b, off)) h h' := (e1.of0).trans g'.ext
    have keep : ∀ {z : Slc} {l : List Tx}, Arr 1 sF h z l → (∀ b off off', z.a = some (b, off) → s.a ≠ some (b, off')) → Arr 1 sF h' z l := fun A hz => A.ext hext fun ⟨b, off, x, off', y⟩ => hz b off off' x y
    have new : ∀ b off', b < h.size → s'.a = some (b, off') → s.a = some (b, off') := fun b off' hlt hx => by
      rcases g'.new with z | ⟨b', z, z'⟩
      · rw [z] at hx; exact hx
      · rw [z] at hx; cases hx; have := e1.size; omega
    refine k h1 s' h' ⟨o', (y.fr.ext0 e1).grow g', fun x hx => ?_, fun x hx b off hb => ?_, fun x hx b off off' hb hs' => ?_⟩ e1 g'.ext
    · rcases List.mem_append.1 hx with hx | hx
      · exact keep (y.args x hx) (y.dis x hx)
      · rw [List.mem_singleton] at hx; subst hx; exact keep A hd
    · have := hext.size
      rcases List.mem_append.1 hx with hx | hx
      · exact Nat.lt_of_lt_of_le (y.lt x hx b off hb) this
      · rw [List.mem_singleton] at hx; subst hx; exact Nat.lt_of_lt_of_le (hlt b off hb) this
    · rcases List.mem_append.1 hx with hx | hx
      · exact y.dis x hx b off off' hb (new b off' (y.lt x hx b off hb) hs')
      · rw [List.mem_singleton] at hx; subst hx; exact hd b off off' hb (new b off' (hlt b off hb) hs')

/-- What a script's call hands back. -/
def Back (l : Tx) (h : Heap) (s : Slc) (line err : Int) (h' : Heap) : Prop :=
  Ext0 h h' ∧ ∃ X : List (Say × Slc), Arr 3 yF h' s X ∧ (∀ x ∈ X, Arr 1 sF h' x.2 x.1.args) ∧ X.length ≤ 300 ∧
    X.map Prod.fst = (parseL l).1 ∧ line = ((parseL l).2.1 : Int) ∧ err = ((parseL l).2.2 : Int)
theorem Back.none {l : Tx} {h h' : Heap} (e : Ext0 h h') {n m : Nat} (hp : parseL l = ([], n, m)) : Back l h ⟨none, 0, 0⟩ n m h' :=
  ⟨e, [], Arr.nil _ _ _ _, by simp, by simp, by rw [hp]; rfl, by rw [hp], by rw [hp]⟩

theorem c20 {l : Tx} {h : Heap} (hM : MaxL h) {R : Slc → Int → Int → Heap → Prop} (k : ∀ s a b h', Back l h s a b h' → R s a b h') :
    Call Tryd.prog 20 [.lf (.str (tx l))] h [.one .slc, .one (.int .i64), .one (.int .i64)] R := by
  refine ok20 (Br.dec (fun hbig => ?_) fun hsm => ?_)
  · rw [tx_size] at hbig
    exact k _ _ _ _ (Back.none (Ext.refl _ _) (n := 0) (m := 2) (by unfold parseL; rw [if_pos (by omega)]))
  rw [tx_size] at hsm
  have hp : parseL l = runL (lines l) 1 [] := by unfold parseL; rw [if_neg (by omega)]
  refine ⟨fun t s i hh b => ∃ (r : Tx) (n : Nat) (X : List (Say × Slc)), t = tx r ∧ i = n ∧ Says h hh s X ∧ X.length ≤ 300 ∧ runL (lines r) n (X.map Prod.fst) = parseL l ∧ n + r.length ≤ 1 + l.length ∧ r.length ≤ l.length ∧ b = r.length,
    ⟨_, l, 1, [], rfl, rfl, Says.nil h, by simp, hp.symm, by omega, by omega, rfl⟩, ?_⟩
  rintro _ s3 _ h5 _ ⟨r, n, X, rfl, rfl, Y, hX, hrun, hn, hrl, rfl⟩
  have he0 : strEq (tx r) (ByteArray.mk #[]) = decide (r = []) := tx_eq r []
  rw [he0]
  refine Br.not (fun hne => ?_) fun he => ?_
  · have hr : r ≠ [] := by rw [decide_eq_false_iff_not] at hne; exact hne
    have hnl := nl_len r hr
    rw [lines_cut hr] at hrun
    have step : runL (r.takeWhile (· != 10) :: lines ((r.dropWhile (· != 10)).drop 1)) n (X.map Prod.fst) = match cls (words (r.takeWhile (· != 10))) with
      | .skip => runL (lines ((r.dropWhile (· != 10)).drop 1)) (n + 1) (X.map Prod.fst)
      | .bad => ([], n, 300)
      | .good w a => if 300 ≤ (X.map Prod.fst).length then ([], n, 300) else runL (lines ((r.dropWhile (· != 10)).drop 1)) (n + 1) (X.map Prod.fst ++ [⟨n, w, a⟩]) := rfl
    rw [step] at hrun
    obtain ⟨hc1, hc2⟩ := cut_nl r
    refine ⟨fun t s hh => ∃ X', t = tx ((r.dropWhile (· != 10)).drop 1) ∧ Says h hh s X' ∧ X'.length ≤ 300 ∧ runL (lines ((r.dropWhile (· != 10)).drop 1)) (n + 1) (X'.map Prod.fst) = parseL l, c29 (p := [10]) (by omega) (hM.ext Y.fr.ext) ?_, ?_⟩
    · rw [hc1, hc2]
      refine c30 (by omega) (fun hcl h16 e16 => ?_) (fun hcl h16 e16 => ?_) fun w a hcl s14 h16 e16 A hnew => ?_
      · rw [hcl] at hrun
        refine New.mk fun b17 h18 hb17 hs18 e18 k18 => Set.mk fun h19 hs19 e19 k19 => ?_
        have e : Ext0 h5 h19 := (e16.trans e18).trans' e19 fun i hi x => by subst x; have := e16.size; omega
        exact ⟨fun _ => False, Br.t rfl (Br.t (by decide) ⟨X, rfl, Y.ext0 e, hX, hrun⟩), fun h21 x => x.elim⟩
      · rw [hcl] at hrun
        refine New.mk fun b17 h18 hb17 hs18 e18 k18 => Set.mk fun h19 hs19 e19 k19 => ?_
        have e : Ext0 h5 h19 := (e16.trans e18).trans' e19 fun i hi x => by subst x; have := e16.size; omega
        refine ⟨fun hh => hh = h19, Br.f rfl rfl, ?_⟩
        rintro h21 rfl
        exact Br.t rfl (k _ _ _ _ (Back.none (Y.fr.ext.trans e) hrun.symm))
      · rw [hcl] at hrun
        have hrun : (if 300 ≤ (X.map Prod.fst).length then (([], n, 300) : List Say × Nat × Nat) else runL (lines ((r.dropWhile (· != 10)).drop 1)) (n + 1) (X.map Prod.fst ++ [⟨n, w, a⟩])) = parseL l := hrun
        have hw : w ≠ [] := by
          have : w ∈ words (r.takeWhile (· != 10)) := by
            cases hws : words (r.takeWhile (· != 10)) with
            | nil => rw [hws] at hcl; cases hcl
            | cons v b =>
              rw [hws, cls_cons] at hcl
              split at hcl
              · cases hcl
              · split at hcl
                · cases hcl
                · split at hcl
                  · cases hcl; simp
                  · cases hcl
          exact words_ne this
        refine New.mk fun b17 h18 hb17 hs18 e18 k18 => Set.mk fun h19 hs19 e19 k19 => ?_
        have e : Ext0 h5 h19 := (e16.trans e18).trans' e19 fun i hi x => by subst x; have := e16.size; omega
        have A19 : Arr 1 sF h19 s14 a := (A.ext0 e18).ext e19 fun ⟨b, off, x, y⟩ => by subst y; have := (hnew b off x).2; omega
        refine ⟨fun hh => hh = h19, Br.t rfl (Br.f ?_ rfl), ?_⟩
        · show strEq (tx w) (tx []) = false
          rw [tx_eq]; exact decide_eq_false hw
        rintro h21 rfl
        refine Br.f rfl (Br.dec (fun hfull => ?_) fun hfree => ?_)
        · rw [Y.own.len] at hfull
          rw [if_pos (by rw [List.length_map]; omega)] at hrun
          exact k _ _ _ _ (Back.none (Y.fr.ext.trans e) hrun.symm)
        · rw [Y.own.len] at hfree
          rw [if_neg (by rw [List.length_map]; omega)] at hrun
          refine Set.mk fun h22 hs22 e22 k22 => ?_
          have hsz16 := e16.size
          have e' : Ext0 h5 h22 := e.trans' e22 fun i hi x => by subst x; omega
          have A22 : Arr 1 sF h22 s14 a := A19.ext e22 fun ⟨b, off, x, y⟩ => by subst y; have := (hnew b off x).2; omega
          refine (Y.ext0 e').add (w := ⟨n, w, a⟩) A22 (fun b off hb => by have := (hnew b off hb).2; omega) (fun b off off' hb hs' => ?_) hX fun h24 s25 h26 Y26 e24 e26 => ⟨e26.keep (by have := e24.size; omega) (fun ⟨off, x⟩ => by have := (Y.own.lt _ _ x).1; omega), X ++ [(⟨n, w, a⟩, s14)], rfl, Y26, by rw [List.length_append, List.length_singleton]; omega, by rw [List.map_append]; exact hrun⟩
          have h1 := (hnew b off hb).1
          have h2 := (Y.own.lt _ _ hs').1
          omega
    · rintro t27 s28 h29 ⟨X', rfl, Y', hX', hrun'⟩
      exact ⟨((r.dropWhile (· != 10)).drop 1).length, by omega, _, n + 1, X', rfl, by rw [wi64 (by omega) (by omega)]; omega, Y', hX', hrun', by omega, by omega, rfl⟩
  · rw [decide_eq_true_eq] at he
    subst he
    have : (X.map Prod.fst, 0, 0) = parseL l := hrun
    exact k _ _ _ _ ⟨Y.fr.ext, X, Y.own.arr yF_sized, Y.args, hX, by rw [← this], by rw [← this]; rfl, by rw [← this]; rfl⟩

theorem c14 {l : Tx} {h : Heap} (hM : MaxL h) {R : Slc → Int → Int → Heap → Prop} (k : ∀ s a b h', Back l h s a b h' → R s a b h') :
    Call Tryd.prog 14 [.lf (.str (tx l))] h [.one .slc, .one (.int .i64), .one (.int .i64)] R := ok14 (c20 hM k)

theorem linesA_len : ∀ (l cur : Tx), (linesA cur l).length ≤ l.length + 1
  | [], cur => by
    unfold linesA
    split <;> simp
  | c :: r, cur => by
    rw [linesA_cons]
    have h1 := linesA_len r []
    have h2 := linesA_len r (cur ++ [c])
    rw [List.length_cons]
    split
    · rw [List.length_cons]; omega
    · omega
theorem linesA_sub : ∀ (l cur : Tx), ∀ w ∈ linesA cur l, w.length ≤ cur.length + l.length
  | [], cur, w, hw => by
    unfold linesA at hw
    split at hw
    · cases hw
    · rw [List.mem_singleton] at hw; subst hw; omega
  | c :: r, cur, w, hw => by
    rw [linesA_cons] at hw
    rw [List.length_cons]
    split at hw
    · rcases List.mem_cons.1 hw with rfl | hw
      · omega
      · have := linesA_sub r [] w hw; simp only [List.length_nil] at this; omega
    · have := linesA_sub r _ w hw; rw [List.length_append, List.length_singleton] at this; omega

theorem canW_cons (w : Tx) (a : List Tx) : canW (w :: a) = match kindsOf w with | none => false | some ks => allFit ks a := rfl
theorem cls_can {w : Tx} {a : List Tx} (h : w.head? ≠ some 35) : (canW (w :: a) = false → cls (w :: a) = .bad) ∧ (canW (w :: a) = true → cls (w :: a) = .good w a) := by
  rw [canW_cons]
  cases hk : kindsOf w with
  | none => exact ⟨fun _ => cls_none h hk, fun x => by cases x⟩
  | some ks => exact ⟨fun x => cls_bad h hk x, fun x => cls_good h hk x⟩

theorem c15 {l : Tx} {h : Heap} {R : Slc → Int → Int → Heap → Prop} (k : ∀ s a b h', Back l h s a b h' → R s a b h') :
    Call Tryd.prog 15 [.lf (.str (tx l))] h [.one .slc, .one (.int .i64), .one (.int .i64)] R := by
  refine ok15 (Br.dec (fun hbig => ?_) fun hsm => ?_)
  · rw [tx_size] at hbig
    exact k _ _ _ _ (Back.none (Ext.refl _ _) (n := 0) (m := 2) (by unfold parseL; rw [if_pos (by omega)]))
  rw [tx_size] at hsm
  have hp : parseL l = runL (lines l) 1 [] := by unfold parseL; rw [if_neg (by omega)]
  have hll : (lines l).length ≤ l.length + 1 := linesA_len l []
  refine c21 (by omega) fun s0 h1 A f1 => ?_
  have hl0 := A.len
  refine ⟨fun s i hh b => ∃ (p : Nat) (X : List (Say × Slc)), i = p ∧ p ≤ (lines l).length ∧ Says h1 hh s X ∧ X.length ≤ 300 ∧ runL ((lines l).drop p) (p + 1) (X.map Prod.fst) = parseL l ∧ b = (lines l).length - p,
    ⟨_, 0, [], rfl, by omega, Says.nil h1, by simp, hp.symm, rfl⟩, ?_⟩
  rintro s4 _ h6 _ ⟨p, X, rfl, hpl, Y, hX, hrun, rfl⟩
  rw [hl0]
  refine Br.dec (fun hlt => ?_) fun hge => ?_
  · have hlt' : p < (lines l).length := by omega
    have hx : (lines l)[p].length ≤ 131072 := by
      have := linesA_sub l [] _ (List.getElem_mem hlt')
      simp only [List.length_nil] at this
      omega
    rw [List.drop_eq_getElem_cons hlt'] at hrun
    have step : runL ((lines l)[p] :: (lines l).drop (p + 1)) (p + 1) (X.map Prod.fst) = match cls (words (lines l)[p]) with
      | .skip => runL ((lines l).drop (p + 1)) (p + 1 + 1) (X.map Prod.fst)
      | .bad => ([], p + 1, 300)
      | .good w a => if 300 ≤ (X.map Prod.fst).length then ([], p + 1, 300) else runL ((lines l).drop (p + 1)) (p + 1 + 1) (X.map Prod.fst ++ [⟨p + 1, w, a⟩]) := rfl
    rw [step] at hrun
    refine (A.ext0 Y.fr.ext).ix rfl (List.getElem?_eq_getElem hlt') fun b off hb => ⟨_, hb, c22 hx fun s11 h12 A11 f12 hcap => ?_⟩
    have hl11 := A11.len
    have wl := words_len (lines l)[p]
    have skip : cls (words (lines l)[p]) = .skip → ∀ hh, hh = h12 → ∃ b, b < (lines l).length - p ∧ ∃ (q : Nat) (X : List (Say × Slc)), IntKind.wrap IntKind.i64 ((p : Int) + 1) = q ∧ q ≤ (lines l).length ∧ Says h1 hh s4 X ∧ X.length ≤ 300 ∧ runL ((lines l).drop q) (q + 1) (X.map Prod.fst) = parseL l ∧ b = (lines l).length - q := fun hcl hh he => by
      subst he
      rw [hcl] at hrun
      exact ⟨(lines l).length - (p + 1), by omega, p + 1, X, by rw [wi64 (by omega) (by omega)]; omega, by omega, Y.ext0 f12.ext, hX, hrun, rfl⟩
    refine ⟨fun hh => hh = h12 ∧ ∃ w a, words (lines l)[p] = w :: a ∧ w.head? ≠ some 35, ?_, ?_⟩
    · cases hw : words (lines l)[p] with
      | nil =>
        rw [hw] at hl11 skip
        exact Br.eq (fun _ => skip rfl h12 rfl) fun x => absurd (by rw [hl11]; rfl) x
      | cons w a =>
        rw [hw] at A11 hl11 skip
        rw [List.length_cons] at hl11
        obtain ⟨c, r, _, hbt, hsz, h35⟩ := head_35 (words_ne (l := (lines l)[p]) (w := w) (by rw [hw]; simp))
        refine Br.eq (fun x => by omega) fun _ => A11.ix (k := 0) rfl rfl fun b1 off1 hb1 => ⟨_, hb1, by omega, hsz, ?_⟩
        rw [hbt]
        exact Br.eq (fun e => skip (cls_skip.2 (h35.2 e)) h12 rfl) fun e => ⟨rfl, w, a, rfl, fun x => e (h35.1 x)⟩
    rintro h19 ⟨rfl, w, a, hw, h35⟩
    rw [hw] at A11 hl11 wl hrun
    rw [List.length_cons] at hl11 wl
    have hcan := cls_can (a := a) h35
    have e12 : Ext0 h h19 := (f1.ext.trans Y.fr.ext).trans f12.ext
    refine ⟨fun hh => hh = h19 ∧ canW (w :: a) = true ∧ X.length < 300, c23 A11 (by omega) (Br.not (fun hf => ?_) fun ht => ?_), ?_⟩
    · rw [hcan.1 hf] at hrun
      rw [wi64 (by omega) (by omega)]
      exact k _ _ _ _ (Back.none e12 hrun.symm)
    · rw [hcan.2 ht] at hrun
      rw [Y.own.len]
      refine Br.eq (fun hfull => ?_) fun hfree => ⟨rfl, ht, by omega⟩
      have : (if 300 ≤ (X.map Prod.fst).length then (([], p + 1, 300) : List Say × Nat × Nat) else runL ((lines l).drop (p + 1)) (p + 1 + 1) (X.map Prod.fst ++ [⟨p + 1, w, a⟩])) = parseL l := hrun
      rw [if_pos (by rw [List.length_map]; omega)] at this
      rw [wi64 (by omega) (by omega)]
      exact k _ _ _ _ (Back.none e12 this.symm)
    rintro h23 ⟨rfl, ht, hfree⟩
    rw [hcan.2 ht] at hrun
    have hrun : (if 300 ≤ (X.map Prod.fst).length then (([], p + 1, 300) : List Say × Nat × Nat) else runL ((lines l).drop (p + 1)) (p + 1 + 1) (X.map Prod.fst ++ [⟨p + 1, w, a⟩])) = parseL l := hrun
    rw [if_neg (by rw [List.length_map]; omega)] at hrun
    refine A11.ix (k := 0) rfl rfl fun b1 off1 hb1 => ⟨_, hb1, by omega, by omega, ?_⟩
    have A' := A11.sub (lo := 1) (hi := s11.len) (m := s11.cap) (by omega) (by rw [List.length_cons]; omega) hcap
    have hd : ((w :: a).take s11.len).drop 1 = a := by rw [List.take_of_length_le (by rw [List.length_cons]; omega)]; rfl
    rw [hd] at A'
    have hnew : ∀ b off, (s11.sub 1 1 s11.len s11.cap).a = some (b, off) → h6.size ≤ b ∧ b < h23.size := fun b off hx => by
      unfold Slc.sub at hx
      simp only at hx
      split at hx
      · exact ⟨f12.new _ _ hx, lt_of_arr A11 (by simp) _ _ hx⟩
      · cases ha : s11.a with
        | none => rw [ha] at hx; cases hx
        | some q => obtain ⟨b2, o2⟩ := q; rw [ha] at hx; cases hx; exact ⟨f12.new _ _ ha, lt_of_arr A11 (by simp) _ _ ha⟩
    rw [wi64 (n := (p : Int) + 1) (by omega) (by omega)]
    refine (Y.ext0 f12.ext).add (w := ⟨p + 1, w, a⟩) A' (fun b off hb => (hnew b off hb).2) (fun b off off' hb hs' => ?_) (by omega) fun h28 s29 h30 Y30 e28 e30 => ⟨(lines l).length - (p + 1), by omega, p + 1, X ++ [(⟨p + 1, w, a⟩, s11.sub 1 1 s11.len s11.cap)], rfl, by omega, Y30, by rw [List.length_append, List.length_singleton]; omega, by rw [List.map_append]; exact hrun, rfl⟩
    have h1 := (hnew b off hb).1
    have h2 := (Y.own.lt _ _ hs').1
    omega
  · obtain rfl : p = (lines l).length := by omega
    rw [List.drop_eq_nil_of_le (Nat.le_refl _)] at hrun
    have : (X.map Prod.fst, 0, 0) = parseL l := hrun
    have Y' := Y.pre f1.ext
    exact k _ _ _ _ ⟨Y'.fr.ext, X, Y'.own.arr yF_sized, Y'.args, hX, by rw [← this], by rw [← this]; rfl, by rw [← this]; rfl⟩

end Go.V.YtdeihieblljfcaaDoor
