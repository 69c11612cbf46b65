/- This text proves a part of the laws of seat YtdeihieblljfcaaDoor, under no condition: S2j. -/
import Derived.Test.YtdeihieblljfcaaDoorSR
set_option linter.unusedVariables false
set_option linter.unusedSimpArgs false
/-! Both readings are alike. -/
namespace Go.V.YtdeihieblljfcaaDoor
open Go Go.V Go.Lib Go.Proofs

theorem cells3 {h : Heap} {b off : Nat} {x : Say × Slc} (c : cellsAt h b off (yF x)) :
    cellsAt h b (off + 0) [.int .i64 (x.1.line : Int)] ∧ cellsAt h b (off + 1) [.str (tx x.1.word)] ∧ cellsAt h b (off + 2) [.slc x.2] :=
  ⟨⟨c.1, trivial⟩, ⟨c.2.1, trivial⟩, ⟨c.2.2.1, trivial⟩⟩

theorem cls_args {ws : List Tx} {w : Tx} {a : List Tx} (h : cls ws = .good w a) : a.length ≤ 5 := by
  cases ws with
  | nil => cases h
  | cons v b =>
    rw [cls_cons] at h
    split at h
    · cases h
    · split at h
      · cases h
      · rename_i ks hk
        split at h
        · rename_i hf
          cases h
          rw [← allFit_len hf]
          exact kindsOf_len hk
        · cases h
theorem runL_args : ∀ (ls : List Tx) (n : Nat) (acc : List Say), (∀ x ∈ acc, x.args.length ≤ 5) → ∀ x ∈ (runL ls n acc).1, x.args.length ≤ 5
  | [], _, acc, h => h
  | l :: r, n, acc, h => by
    unfold runL
    split
    · exact runL_args r (n + 1) acc h
    · intro x hx; cases hx
    · rename_i w a hc
      split
      · intro x hx; cases hx
      · refine runL_args r (n + 1) _ fun x hx => ?_
        rcases List.mem_append.1 hx with hx | hx
        · exact h x hx
        · rw [List.mem_singleton] at hx; subst hx; exact cls_args hc
theorem parse_args (l : Tx) : ∀ x ∈ (parseL l).1, x.args.length ≤ 5 := by
  unfold parseL
  split
  · intro x hx; cases hx
  · exact runL_args _ _ _ (by simp)

def lastT : Tx := [108, 97, 115, 116, 10]
theorem last_len : (parseL lastT).1.length = 1 := by decide
theorem last_err : (parseL lastT).2.2 = 0 := by decide

theorem c5 {l : Tx} {h : Heap} (hM : MaxL h) : Call Tryd.prog 5 [.lf (.str (tx l))] h [.one .bool] fun b h' => b = true ∧ Ext0 h h' := by
  refine ok5 (c14 hM fun s0 i1 i2 h3 ⟨e3, X, A, aA, hX, fX, l1, r1⟩ => c15 fun s4 i5 i6 h7 ⟨e7, Y, B, aB, hY, fY, l2, r2⟩ => ?_)
  have e : Ext0 h h7 := e3.trans e7
  have A7 := A.ext0 e7
  have aA7 : ∀ x ∈ X, Arr 1 sF h7 x.2 x.1.args := fun x hx => (aA x hx).ext0 e7
  have hl : i1 = i5 := by rw [l1, l2]
  have hr : i2 = i6 := by rw [r1, r2]
  have hXY : X.map Prod.fst = Y.map Prod.fst := by rw [fX, fY]
  have hlen : X.length = Y.length := by have := congrArg List.length hXY; simpa using this
  have hAl := A7.len
  have hBl := B.len
  refine ⟨fun c hh => c = false ∧ hh = h7, Br.ne (fun x => absurd hl x) fun _ => Br.ne (fun x => absurd hr x) fun _ => ⟨?_, rfl⟩, ?_⟩
  · rw [hAl, hBl, hlen]; simp
  rintro c h10 ⟨rfl, rfl⟩
  refine Br.f rfl ⟨fun i hh b => ∃ p : Nat, i = p ∧ hh = h10 ∧ p ≤ X.length ∧ b = X.length - p, ⟨_, 0, rfl, rfl, by omega, rfl⟩, ?_⟩
  rintro _ h14 _ ⟨p, rfl, rfl, hp, rfl⟩
  rw [hAl]
  refine Br.dec (fun hlt => ?_) fun hge => ?_
  · have hpX : p < X.length := by omega
    have hpY : p < Y.length := by omega
    have hxy : X[p].1 = Y[p].1 := by
      have h1 : (X.map Prod.fst)[p]? = some X[p].1 := by simp [hpX]
      have h2 : (Y.map Prod.fst)[p]? = some Y[p].1 := by simp [hpY]
      rw [hXY, h2] at h1
      exact (Option.some.inj h1).symm
    have gX := List.getElem?_eq_getElem hpX
    have gY := List.getElem?_eq_getElem hpY
    have a1 := aA7 _ (List.getElem_mem hpX)
    have a2 := aB _ (List.getElem_mem hpY)
    have al1 := a1.len
    have al2 := a2.len
    have hargs : X[p].1.args.length = Y[p].1.args.length := by rw [hxy]
    refine ⟨fun c hh => c = false ∧ hh = h14, ?_, ?_⟩
    · refine A7.ix rfl gX fun b1 o1 c1 => ⟨_, (cells3 c1).1, B.ix rfl gY fun b2 o2 c2 => ⟨_, (cells3 c2).1, Br.ne (fun x => absurd (by rw [hxy]) x) fun _ => ?_⟩⟩
      refine A7.ix rfl gX fun b3 o3 c3 => ⟨_, (cells3 c3).2.1, B.ix rfl gY fun b4 o4 c4 => ⟨_, (cells3 c4).2.1, ?_⟩⟩
      rw [hxy, tx_eq]
      refine Br.f (by simp) ?_
      refine A7.ix rfl gX fun b5 o5 c5 => ⟨_, (cells3 c5).2.2, B.ix rfl gY fun b6 o6 c6 => ⟨_, (cells3 c6).2.2, ?_, rfl⟩⟩
      rw [al1, al2, hargs]; simp
    rintro c h36 ⟨rfl, rfl⟩
    refine Br.f rfl ⟨fun i hh b => ∃ q : Nat, i = q ∧ hh = h36 ∧ q ≤ X[p].1.args.length ∧ b = X[p].1.args.length - q, ⟨_, 0, rfl, rfl, by omega, rfl⟩, ?_⟩
    rintro _ h40 _ ⟨q, rfl, rfl, hq, rfl⟩
    refine A7.ix rfl gX fun b1 o1 c1 => ⟨_, (cells3 c1).2.2, ?_⟩
    have hbig : X[p].1.args.length ≤ 5 := parse_args l _ (by rw [← fX]; exact List.mem_map_of_mem (List.getElem_mem hpX))
    rw [al1]
    refine Br.dec (fun hlt2 => ?_) fun hge2 => ⟨X.length - (p + 1), by omega, p + 1, by rw [wi64 (by omega) (by omega)]; omega, rfl, by omega, rfl⟩
    have hq1 : q < X[p].1.args.length := by omega
    have hq2 : q < Y[p].1.args.length := by omega
    have hgen : ∀ {u v : List Tx} (e : u = v) (h1 : q < u.length) (h2 : q < v.length), u[q] = v[q] := by rintro u _ rfl _ _; rfl
    have hqq : X[p].1.args[q] = Y[p].1.args[q] := hgen (congrArg Say.args hxy) hq1 hq2
    refine A7.ix rfl gX fun b2 o2 c2 => ⟨_, (cells3 c2).2.2, a1.ix rfl (List.getElem?_eq_getElem hq1) fun b3 o3 c3 => ⟨_, c3, B.ix rfl gY fun b4 o4 c4 => ⟨_, (cells3 c4).2.2, a2.ix rfl (List.getElem?_eq_getElem hq2) fun b5 o5 c5 => ⟨_, c5, ?_⟩⟩⟩⟩
    rw [hqq, tx_eq]
    refine Br.f (by simp) ⟨X[p].1.args.length - (q + 1), by omega, q + 1, by rw [wi64 (by omega) (by omega)]; omega, rfl, by omega, rfl⟩
  · refine c14 (l := lastT) (hM.ext e) fun s59 i60 i61 h62 ⟨e62, Z, C, _, _, fZ, _, rZ⟩ => ?_
    have hz : s59.len = 1 := by
      rw [C.len, ← List.length_map (f := Prod.fst), fZ]; exact last_len
    rw [hz]
    refine Br.t rfl ⟨?_, e.trans e62⟩
    rw [rZ, last_err]; rfl

end Go.V.YtdeihieblljfcaaDoor
