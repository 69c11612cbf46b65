/- This text proves a part of the laws of seat Yteojmnnobmpdiaa, under no condition: T4 C12c. -/
import Derived.Test.YteojmnnobmpdiaaEC
import Derived.Eval
import Derived.Test.YteojmnnobmpdiaaChecked
import Derived.Test.YteojmnnobmpdiaaCA
import Derived.Test.YteojmnnobmpdiaaCK
set_option linter.unusedVariables false
set_option maxRecDepth 100000
namespace Go.V.Yteojmnnobmpdiaa
open Go Go.V
/- 4: sediment.sedimentlaw11.CacheApart () · blk 1:  · seq 4: #50 · seq 13: #91 · loop 7: #12 · loop 22: #20 -/
def pl4 : Plan := {
  blk := fun | 1 => some ⟨[], [], []⟩ | _ => none
  seq := fun | 4 => some ⟨[(50, .one .bool)], [], []⟩ | 13 => some ⟨[(91, .one .bool)], [], []⟩ | _ => none
  loop := fun | 7 => some ⟨[(12, .one (.int .i64))], [], []⟩ | 22 => some ⟨[(20, .one (.int .i64))], [], []⟩ | _ => none
  live := fun | 0 => some [0, 1, 2] | 1 => some [0, 1, 2, 7, 8] | 2 => some [1, 2, 7, 8, 9, 10] | 3 => some [1, 2, 7, 9, 50] | 4 => some [6] | 5 => some [1, 2, 7, 9, 11] | 6 => some [1, 2, 7, 9, 11, 12] | 7 => some [1, 2, 7, 9, 11, 12, 57] | 8 => some [1, 2, 7, 9, 11, 12] | 9 => some [1, 2, 7, 9, 11, 12, 13] | 10 => some [1, 2, 7, 9, 11, 12, 13, 66] | 11 => some [1, 2, 7, 9, 11, 12, 13, 14, 15] | 12 => some [1, 2, 7, 9, 11, 12, 13, 15, 91] | 13 => some [6] | 14 => some [1, 2, 7, 9, 11, 12, 13, 15, 97] | 15 => some [1, 2, 7, 9, 11, 12, 13, 15, 16, 17] | 16 => some [1, 2, 7, 9, 11, 12, 127] | 17 => some [6] | 18 => some [2, 7, 9, 18, 19] | 19 => some [2, 7, 9, 18, 19, 138] | 20 => some [6] | 21 => some [2, 7, 9, 18, 19, 20] | 22 => some [2, 7, 9, 18, 19, 20, 142] | 23 => some [2, 7, 9, 18, 19, 20] | 24 => some [2, 7, 9, 18, 19, 20, 153] | 25 => some [6] | 26 => some [2, 9, 22, 23] | 27 => some [22, 23, 25, 26] | 28 => some [6] | _ => none
  track := fun | 13 => true | _ => false
  draw := fun | 24 => .still 0 (.still 1 (.still 2 (.still 3 (.still 4 (.still 5 (.still 6 (.still 7 (.still 8 (.done))))))))) | _ => .done
  iter := fun | _ => none }
def vc4 (a0 : Int) (a1 : Slc) (a2 : ByteArray) (h : Heap) (R : Bool → Heap → Prop) : Prop :=
  Call Go.Proofs.Try.prog 12 [VV.lf (Lf.int IntKind.i64 (3 : Int)), VV.lf (Lf.int IntKind.u64 a0), VV.lf (Lf.bool Bool.false)] h
    [VT.one LT.ptr, VT.one (LT.int IntKind.i64)] fun (p0 : Option (Nat × Nat)) (i1 : Int) (h2 : Heap) =>
    Call Go.Proofs.Try.prog 12 [VV.lf (Lf.int IntKind.i64 (3 : Int)), VV.lf (Lf.int IntKind.u64 a0), VV.lf (Lf.bool Bool.false)] h2
      [VT.one LT.ptr, VT.one (LT.int IntKind.i64)] fun (p3 : Option (Nat × Nat)) (i4 : Int) (h5 : Heap) =>
      ∃ (I6 : Bool → Heap → Prop),
        Br (Option.isNone p0) (I6 Bool.true h5) (Br (Option.isNone p3) (I6 Bool.true h5) (Br (i1 != (0 : Int)) (I6 Bool.true h5) (I6 (i4 != (0 : Int)) h5))) ∧
          ∀ (c7 : Bool) (h8 : Heap),
            I6 c7 h8 →
              Br c7 (R Bool.false h8)
                (Call Go.Proofs.Try.prog 18 [VV.lf (Lf.ptr p0), VV.lf (Lf.str a2)] h8 [VT.one (LT.int IntKind.i64)] fun (i9 : Int) (h10 : Heap) =>
                  ∃ (I11 : Int → Heap → Nat → Prop),
                    (∃ (b12 : Nat), I11 (0 : Int) h10 b12) ∧
                      ∀ (i13 : Int) (h14 : Heap) (b15 : Nat),
                        I11 i13 h14 b15 →
                          Br (Decidable.decide (i13 < (↑(Slc.len a1) : Int)))
                            (∃ (I16 : Heap → Prop),
                              (IxC a1 i13 5 fun (b17 b18 : Nat) =>
                                  ∃ (i19 : Int),
                                    ∃ (i20 : Int),
                                      ∃ (t21 : ByteArray),
                                        ∃ (i22 : Int),
                                          ∃ (i23 : Int),
                                            cellsAt h14 b17 b18
                                                [Lf.int IntKind.i64 i19, Lf.int IntKind.i64 i20, Lf.str t21, Lf.int IntKind.u64 i22, Lf.int IntKind.u64 i23] ∧
                                              New 33
                                                [Lf.int IntKind.i64 (0 : Int), Lf.int IntKind.i64 (0 : Int), Lf.str (ByteArray.mk #[]), Lf.int IntKind.u64 (0 : Int),
                                                  Lf.int IntKind.u64 (0 : Int)]
                                                h14 fun (b24 : Nat) (h25 : Heap) =>
                                                Set b24 33
                                                  [Lf.int IntKind.i64 i19, Lf.int IntKind.i64 i20, Lf.str t21, Lf.int IntKind.u64 i22, Lf.int IntKind.u64 i23] h25
                                                  fun (h26 : Heap) =>
                                                  Br (i19 != (0 : Int)) (I16 h26)
                                                    (Call Go.Proofs.Try.prog 14
                                                      [VV.lf (Lf.ptr p0), VV.lf (Lf.str t21), VV.lf (Lf.int IntKind.u64 i22),
                                                        VV.lf (Lf.int IntKind.u64 i23)]
                                                      h26 [VT.one (LT.int IntKind.i64), VT.one (LT.int IntKind.i64)] fun (i27 i28 : Int) (h29 : Heap) =>
                                                      keepB h26 h29 [b24] ∧
                                                        ∃ (I30 : Bool → Heap → Prop),
                                                          Br (i28 == (0 : Int))
                                                              (((2 : Int) = (0 : Int) → False) ∧
                                                                Br (Int.tmod i20 (2 : Int) == (0 : Int))
                                                                  (Call Go.Proofs.Try.prog 16 [VV.lf (Lf.ptr p0), VV.lf (Lf.int IntKind.i64 i27)] h29
                                                                    [VT.one (LT.int IntKind.i64)] fun (i31 : Int) (h32 : Heap) =>
                                                                    keepB h29 h32 [b24] ∧ I30 (i31 != (0 : Int)) h32)
                                                                  (I30 Bool.false h29))
                                                              (I30 Bool.false h29) ∧
                                                            ∀ (c33 : Bool) (h34 : Heap),
                                                              I30 c33 h34 →
                                                                Br c33 (R Bool.false h34)
                                                                  (Call Go.Proofs.Try.prog 18 [VV.lf (Lf.ptr p0), VV.lf (Lf.str t21)] h34
                                                                    [VT.one (LT.int IntKind.i64)] fun (i35 : Int) (h36 : Heap) =>
                                                                    keepB h34 h36 [b24] ∧
                                                                      Br (i35 != i9) (I16 h36)
                                                                        (Call Go.Proofs.Try.prog 14
                                                                          [VV.lf (Lf.ptr p3), VV.lf (Lf.str t21), VV.lf (Lf.int IntKind.u64 i22),
                                                                            VV.lf (Lf.int IntKind.u64 i23)]
                                                                          h36 [VT.one (LT.int IntKind.i64), VT.one (LT.int IntKind.i64)]
                                                                          fun (i37 i38 : Int) (h39 : Heap) =>
                                                                          keepB h36 h39 [b24] ∧
                                                                            Br (i28 != i38) (R Bool.false h39)
                                                                              (Br (i38 == (0 : Int))
                                                                                (((2 : Int) = (0 : Int) → False) ∧
                                                                                  Br (Int.tmod i20 (2 : Int) == (0 : Int))
                                                                                    (Call Go.Proofs.Try.prog 16 [VV.lf (Lf.ptr p3), VV.lf (Lf.int IntKind.i64 i37)]
                                                                                      h39 [VT.one (LT.int IntKind.i64)] fun (i40 : Int) (h41 : Heap) =>
                                                                                      keepB h39 h41 [b24] ∧ Br (i40 != (0 : Int)) (R Bool.false h41) (I16 h41))
                                                                                    (I16 h39))
                                                                                (I16 h39)))))) ∧
                                ∀ (h42 : Heap), I16 h42 → ∃ (b43 : Nat), b43 < b15 ∧ I11 (IntKind.wrap IntKind.i64 (i13 + (1 : Int))) h42 b43)
                            (Call Go.Proofs.Try.prog 19 [VV.lf (Lf.ptr p0), VV.lf (Lf.int IntKind.i64 i9)] h14 [VT.one LT.slc]
                              fun (s44 : Slc) (h45 : Heap) =>
                              Call Go.Proofs.Try.prog 19 [VV.lf (Lf.ptr p3), VV.lf (Lf.int IntKind.i64 i9)] h45 [VT.one LT.slc]
                                fun (s46 : Slc) (h47 : Heap) =>
                                Br ((↑(Slc.len s44) : Int) != (↑(Slc.len s46) : Int)) (R Bool.false h47)
                                  (∃ (I48 : Int → Heap → Nat → Prop),
                                    (∃ (b49 : Nat), I48 (0 : Int) h47 b49) ∧
                                      ∀ (i50 : Int) (h51 : Heap) (b52 : Nat),
                                        I48 i50 h51 b52 →
                                          Br (Decidable.decide (i50 < (↑(Slc.len s44) : Int)))
                                            (IxC s44 i50 1 fun (b53 b54 : Nat) =>
                                              ∃ (t55 : ByteArray),
                                                cellsAt h51 b53 b54 [Lf.str t55] ∧
                                                  IxC s46 i50 1 fun (b56 b57 : Nat) =>
                                                    ∃ (t58 : ByteArray),
                                                      cellsAt h51 b56 b57 [Lf.str t58] ∧
                                                        Br (!strEq t55 t58) (R Bool.false h51) (∃ (b59 : Nat), b59 < b52 ∧ I48 (IntKind.wrap IntKind.i64 (i50 + (1 : Int))) h51 b59))
                                            (Call Go.Proofs.Try.prog 20 [VV.lf (Lf.ptr p0), VV.lf (Lf.str a2)] h51
                                              [VT.one (LT.int IntKind.i64), VT.one (LT.int IntKind.u64), VT.one LT.bool]
                                              fun (i60 i61 : Int) (c62 : Bool) (h63 : Heap) =>
                                              Call Go.Proofs.Try.prog 20 [VV.lf (Lf.ptr p3), VV.lf (Lf.str a2)] h63
                                                [VT.one (LT.int IntKind.i64), VT.one (LT.int IntKind.u64), VT.one LT.bool]
                                                fun (i64 i65 : Int) (c66 : Bool) (h67 : Heap) =>
                                                Br (i61 == i65)
                                                  (Br (c62 == c66) (Call Go.Proofs.Try.prog 13 [] h67 [VT.one LT.bool] fun (c68 : Bool) (h69 : Heap) => R c68 h69)
                                                    (R Bool.false h67))
                                                  (R Bool.false h67)))))
theorem eq4 (a0 : Int) (a1 : Slc) (a2 : ByteArray) (h : Heap) (R : Bool → Heap → Prop) : vc4 a0 a1 a2 h R = vcFn Go.Proofs.Try.prog pl4 Go.Proofs.Try.f4 [.lf (.int .u64 a0), .lf (.slc a1), .lf (.str a2)] h [.one .bool] R := by kernel_rfl
theorem ok4 {a0 : Int} {a1 : Slc} {a2 : ByteArray} {h : Heap} {R : Bool → Heap → Prop} (hv : vc4 a0 a1 a2 h R) : Call Go.Proofs.Try.prog 4 [.lf (.int .u64 a0), .lf (.slc a1), .lf (.str a2)] h [.one .bool] R := call_eq hng hmix Go.Proofs.Try.func4 (eq4 a0 a1 a2 h R) hv
end Go.V.Yteojmnnobmpdiaa
set_option linter.unusedVariables false
set_option linter.unusedSimpArgs false
/-! CacheApart is true. -/
namespace Go.V.Yteojmnnobmpdiaa
open Go Go.V

/-- Two caches that lie apart. -/
structure Two (base h : Heap) (m m' c d : Nat) (F F' : Nat → Prop) (σ σ' : CS) : Prop where
  w : CW F h m c σ
  w' : CW F' h m' d σ'
  dis : ∀ y, F y → ¬ F' y
  fr : ∀ y, F y → base.size ≤ y
  fr' : ∀ y, F' y → base.size ≤ y
  ext : Ext0 base h

theorem Two.ext0 {base h h' : Heap} {m m' c d : Nat} {F F' : Nat → Prop} {σ σ' : CS} (t : Two base h m m' c d F F' σ σ') (e : Ext0 h h') : Two base h' m m' c d F F' σ σ' := { t with w := t.w.ext0 e, w' := t.w'.ext0 e, ext := t.ext.trans e }
theorem Two.left {base h h' : Heap} {m m' m2 c d : Nat} {F F' F2 : Nat → Prop} {σ σ' τ : CS} (t : Two base h m m' c d F F' σ σ') (w2 : CW F2 h' m2 c τ) (st : Stp F h F2 h') : Two base h' m2 m' c d F2 F' τ σ' :=
  ⟨w2, t.w'.ext st.ext fun y hy hF => t.dis y hF hy, fun y hy hF => (st.sub y hy).elim (fun h => t.dis y h hF) fun h => by have := t.w'.lt y hF; omega, (st.to0 t.ext t.fr).2, t.fr', (st.to0 t.ext t.fr).1⟩
theorem Two.right {base h h' : Heap} {m m' m2 c d : Nat} {F F' F2 : Nat → Prop} {σ σ' τ : CS} (t : Two base h m m' c d F F' σ σ') (w2 : CW F2 h' m2 d τ) (st : Stp F' h F2 h') : Two base h' m m2 c d F F2 σ τ :=
  ⟨t.w.ext st.ext fun y hy hF => t.dis y hy hF, w2, fun y hy hF => (st.sub y hF).elim (t.dis y hy) fun h => by have := t.w.lt y hy; omega, t.fr, (st.to0 t.ext t.fr').2, (st.to0 t.ext t.fr').1⟩
theorem Two.mono {base h : Heap} {m m' k k' c d : Nat} {F F' : Nat → Prop} {σ σ' : CS} (t : Two base h m m' c d F F' σ σ') (hk : m ≤ k) (hk' : m' ≤ k') : Two base h k k' c d F F' σ σ' := { t with w := t.w.mono hk, w' := t.w'.mono hk' }

/-- Put, and Free if it is asked for. -/
def putF (σ : CS) (key : ByteArray) (v ch : Int) (p : Nat) (fr : Bool) : CS := if fr then freeT (putA σ key v ch p) (σ.last + 1) p ⟨key, v, ch, true, 1⟩ else putA σ key v ch p

theorem putA_new {σ : CS} {key : ByteArray} {v ch : Int} {p : Nat} : (putA σ key v ch p).it p = some ⟨key, v, ch, true, 1⟩ ∧ (σ.last + 1, p) ∈ (putA σ key v ch p).pins := by
  refine ⟨by simp [putA, addS], ?_⟩
  rw [(putA_pins ..).1]; simp

theorem RX.putF {J : Nat → Prop} {f : Nat → Nat} {σ σ' : CS} {m m' p p' : Nat} {key : ByteArray} {v ch : Int} {fr : Bool} (r : RX J f σ σ') (I : Inv m σ) (I' : Inv m' σ') (IA : Inv (m + 1) (putA σ key v ch p)) (IA' : Inv (m' + 1) (putA σ' key v ch p')) (h1 : 1 ≤ σ.sh.length) (hJ : J (shardOf σ.sh.length key)) (hp : σ.it p = none) (hp' : σ'.it p' = none) :
    RX J (ren f p p') (putF σ key v ch p fr) (putF σ' key v ch p' fr) := by
  have R := r.put (v := v) (ch := ch) I I' h1 hJ hp hp'
  unfold Yteojmnnobmpdiaa.putF
  cases fr with
  | false => exact R
  | true =>
    simp only [if_true]
    have e1 := putA_new (σ := σ) (key := key) (v := v) (ch := ch) (p := p)
    have e2 := putA_new (σ := σ') (key := key) (v := v) (ch := ch) (p := p')
    have hren : ren f p p' p = p' := by simp [ren]
    have := R.free (n := σ.last + 1) (n' := σ'.last + 1) (x := p) (X := ⟨key, v, ch, true, 1⟩) IA IA' e1.2 (by rw [hren]; exact e2.2) e1.1 (by rw [hren]; exact e2.1) (by
      have := (putA_pins σ key v ch p).2.2.2.2
      show J (shardOf (putA σ key v ch p).sh.length key)
      rw [this]; exact hJ)
    rw [hren] at this
    exact this
theorem putF_loc {σ : CS} {m p : Nat} {key : ByteArray} {v ch : Int} {fr : Bool} (I : Inv m σ) (IA : Inv (m + 1) (putA σ key v ch p)) (h1 : 1 ≤ σ.sh.length) (hp : σ.it p = none) : Loc (shardOf σ.sh.length key) σ (putF σ key v ch p fr) := by
  have L := putA_loc (v := v) (ch := ch) I h1 hp (key := key)
  unfold putF
  cases fr with
  | false => exact L
  | true =>
    simp only [if_true]
    have e1 := putA_new (σ := σ) (key := key) (v := v) (ch := ch) (p := p)
    have L2 := freeT_loc (n := σ.last + 1) (x := p) IA e1.2 e1.1
    have hl : shardOf (putA σ key v ch p).sh.length key = shardOf σ.sh.length key := by rw [L.len]
    have L3 : Loc (shardOf σ.sh.length key) (putA σ key v ch p) (freeT (putA σ key v ch p) (σ.last + 1) p ⟨key, v, ch, true, 1⟩) := by rw [← hl]; exact L2
    exact L.trans L3

theorem no_full {σ : CS} {key : ByteArray} {ch : Int} (h : σ.strict = false) : ¬ putFull σ key ch := fun hf => by rw [hf.1] at h; cases h

theorem Inv.inv {m : Nat} {σ : CS} (I : Inv m σ) : Inv m σ := I

theorem c4 {h : Heap} {room : Int} {key : ByteArray} {s : Slc} {l : List Act} (a : Arr 5 Act.lfs h s l) (r0 : 0 ≤ room) (r1 : room ≤ big)
    (hk : key.size ≤ 9223372036854775807) (hl : l.length < 4398046511100) (ok : ∀ x ∈ l, x.Ok) {R : Bool → Heap → Prop} (k : ∀ h', Ext0 h h' → R true h') :
    Call Go.Proofs.Try.prog 4 [.lf (.int .u64 room), .lf (.slc s), .lf (.str key)] h [.one .bool] R := by
  have hlen := a.len
  refine ok4 (w12 r0 r1 (by decide) (by decide) (fun hbad => by omega) fun _ _ F h2 c w e2 hF => w12 r0 r1 (by decide) (by decide) (fun hbad => by omega) fun _ _ F' h5 d w' e5 hF' => ?_)
  have T0 : Two h h5 0 0 c d F F' (newS 3 room false) (newS 3 room false) :=
    ⟨w.ext0 e5, w', fun y hy hy' => by have := w.lt y hy; have := hF' y hy'; omega, hF, fun y hy => by have := hF' y hy; have := e2.size; omega, e2.trans e5⟩
  refine ⟨fun cc h' => cc = false ∧ h5 = h', Br.f rfl (Br.f rfl (Br.f rfl ⟨rfl, rfl⟩)), ?_⟩
  rintro _ _ ⟨rfl, rfl⟩
  refine Br.f rfl (w18 T0.w hk fun h10 e10 => ?_)
  have hm3 : (newS 3 room false).sh.length = 3 := by simp [newS]
  rw [hm3]
  generalize hmine : shardOf 3 key = mine
  refine ⟨fun i h' b => ∃ (m : Nat) (F F' : Nat → Prop) (σ σ' : CS) (f : Nat → Nat), i = m ∧ m ≤ l.length ∧ b = l.length - m ∧ Two h h' m m c d F F' σ σ' ∧ RX (fun j => j = mine) f σ σ' ∧ σ.sh.length = 3 ∧ σ.strict = false,
    ⟨_, 0, F, F', _, _, id, rfl, by omega, rfl, T0.ext0 e10, RX.new .., hm3, rfl⟩, ?_⟩
  rintro _ h14 _ ⟨m, F, F', σ, σ', f, rfl, hm, rfl, T, X, hσ, hst⟩
  have hσ' : σ'.sh.length = 3 := by rw [X.len, hσ]
  have hst' : σ'.strict = false := by rw [X.strict, hst]
  refine Br.dec (fun hi => ?_) fun hi => ?_
  · have hi' : m < l.length := by omega
    have ox := ok _ (List.getElem_mem hi')
    have hgx : l[m]? = some l[m] := List.getElem?_eq_getElem hi'
    generalize l[m] = x at ox hgx
    refine ⟨fun h' => ∃ (F F' : Nat → Prop) (σ σ' : CS) (f : Nat → Nat), Two h h' (m + 1) (m + 1) c d F F' σ σ' ∧ RX (fun j => j = mine) f σ σ' ∧ σ.sh.length = 3 ∧ σ.strict = false,
      (a.ext0 T.ext).ix rfl hgx fun b17 b18 hc => ⟨_, _, _, _, _, hc, New.mk fun b24 h25 hb24 hs25 e25 k25 => Set.mk fun h26 hs26 e26 _ => ?_⟩, ?_⟩
    · have e26' : Ext0 h14 h26 := e25.tmp e26 (by omega)
      have T26 := T.ext0 e26'
      have hb26 : b24 < h26.size := by omega
      have hbF : ∀ y, F y → y ≠ b24 := fun y hy e => by have := T.w.lt y hy; omega
      have hbF' : ∀ y, F' y → y ≠ b24 := fun y hy e => by have := T.w'.lt y hy; omega
      refine Br.ne (fun _ => ⟨F, F', σ, σ', f, T26.mono (by omega) (by omega), X, hσ, hst⟩) fun _ => ?_
      have hsh : ∀ {τ : CS}, τ.sh.length = 3 → ∀ {k : ByteArray}, shardOf τ.sh.length k = shardOf 3 k := @fun τ ht k => by rw [ht]
      refine w14 T26.w (by omega) ox.v0 ox.v1 ox.n0 ox.n1 ox.key (fun hbig => ⟨⟨rfl, trivial⟩, ?_⟩) (fun _ hfull => absurd hfull (no_full hst)) fun hks _ F2 h29 p hp w29 st29 => ?_
      · refine ⟨fun cc h' => cc = false ∧ h26 = h', Br.f rfl ⟨rfl, rfl⟩, ?_⟩
        rintro _ _ ⟨rfl, rfl⟩
        refine Br.f rfl (w18 T26.w ox.key fun h36 e36 => ⟨⟨e36.same _ hb26 id, trivial⟩, ?_⟩)
        have T36 := T26.ext0 e36
        have done : ∃ (F F' : Nat → Prop) (σ σ' : CS) (f : Nat → Nat), Two h h36 (m + 1) (m + 1) c d F F' σ σ' ∧ RX (fun j => j = mine) f σ σ' ∧ σ.sh.length = 3 ∧ σ.strict = false := ⟨F, F', σ, σ', f, T36.mono (by omega) (by omega), X, hσ, hst⟩
        refine Br.ne (fun _ => done) fun _ => w14 T36.w' (by omega) ox.v0 ox.v1 ox.n0 ox.n1 ox.key (fun _ => ⟨⟨rfl, trivial⟩, Br.f rfl (Br.f rfl done)⟩) (fun hks => absurd hks (by omega)) fun hks => absurd hks (by omega)
      · have T29 := T26.left w29 st29
        have hk29 : keepB h26 h29 [b24] := st29.ext.keep hb26 fun hy => hbF _ hy rfl
        have hb29 : b24 < h29.size := by have := st29.ext.size; omega
        have hF2 : ∀ y, F2 y → y ≠ b24 := fun y hy e => (st29.sub y hy).elim (fun h => hbF y h e) fun h => by omega
        have hIA := w29.inv
        have hI := T26.w.inv
        have hn1 : 1 ≤ σ.sh.length := by omega
        have e1 := putA_new (σ := σ) (key := x.key) (v := x.v) (ch := x.n) (p := p)
        have hpa := putA_pins σ x.key x.v x.n p
        let fr : Bool := Int.tmod x.pin 2 == 0
        refine ⟨hk29, fun cc h' => cc = false ∧ ∃ G, Two h h' (m + 1) m c d G F' (putF σ x.key x.v x.n p fr) σ' ∧ (∀ y, G y → y ≠ b24) ∧ b24 < h'.size, Br.t rfl ⟨by decide, Br.mk (fun hfr => ?_) fun hfr => ?_⟩, ?_⟩
        · refine w16 T29.w (by omega) (fun hno => absurd rfl (hno _ e1.2)) fun y Y hy hY F32 h32 w32 st32 => ⟨st32.ext.keep hb29 fun hy => hF2 _ hy rfl, rfl, F32, ?_⟩
          have hyp : y = p := congrArg Prod.snd (pin_uniq hIA.pinN hy e1.2 rfl)
          subst hyp
          rw [e1.1] at hY; cases hY
          have : putF σ x.key x.v x.n y fr = freeT (putA σ x.key x.v x.n y) (σ.last + 1) y ⟨x.key, x.v, x.n, true, 1⟩ := if_pos hfr
          rw [this]
          exact ⟨T29.left w32 st32, fun z hz e => (st32.sub z hz).elim (fun h => hF2 z h e) fun h => by omega, by have := st32.ext.size; omega⟩
        · have : putF σ x.key x.v x.n p fr = putA σ x.key x.v x.n p := if_neg (by simp only [fr, hfr]; simp)
          rw [this]
          exact ⟨rfl, F2, T29, hF2, hb29⟩
        rintro _ h34 ⟨rfl, G, T34, hG, hb34⟩
        have hL := putF_loc (v := x.v) (ch := x.n) (fr := fr) hI hIA hn1 hp
        have hlen2 : (putF σ x.key x.v x.n p fr).sh.length = 3 := by rw [hL.len, hσ]
        have hst2 : (putF σ x.key x.v x.n p fr).strict = false := by rw [hL.strict, hst]
        refine Br.f rfl (w18 T34.w ox.key fun h36 e36 => ⟨⟨e36.same _ hb34 id, trivial⟩, ?_⟩)
        have T36 := T34.ext0 e36
        have hb36 : b24 < h36.size := by have := e36.size; omega
        rw [hlen2]
        refine Br.ne (fun hne => ⟨G, F', _, σ', f, T36.mono (by omega) (by omega), X.left hL (by rw [hsh hσ]; intro e; exact hne (by rw [e])), hlen2, hst2⟩) fun heq => ?_
        have hmineq : shardOf 3 x.key = mine := by omega
        refine w14 T36.w' (by omega) ox.v0 ox.v1 ox.n0 ox.n1 ox.key (fun hbig => absurd hbig (by omega)) (fun _ hfull => absurd hfull (no_full hst')) fun _ _ F3 h39 p' hp' w39 st39 => ⟨st39.ext.keep hb36 fun hy => hbF' _ hy rfl, ?_⟩
        have T39 := T36.right w39 st39
        have hIA' := w39.inv
        have hI' := T36.w'.inv
        have e1' := putA_new (σ := σ') (key := x.key) (v := x.v) (ch := x.n) (p := p')
        have X2 := X.putF (fr := fr) hI hI' hIA hIA' hn1 (by show shardOf σ.sh.length x.key = mine; rw [hσ]; exact hmineq) hp hp'
        refine Br.f rfl (Br.t rfl ⟨by decide, Br.mk (fun hfr => ?_) fun hfr => ?_⟩)
        · have hb39 : b24 < h39.size := by have := st39.ext.size; omega
          refine w16 T39.w' (by omega) (fun hno => absurd rfl (hno _ e1'.2)) fun y Y hy hY F41 h41 w41 st41 => ⟨st41.ext.keep hb39 fun hy => (st39.sub _ hy).elim (fun h => hbF' _ h rfl) fun h => by omega, Br.f rfl ?_⟩
          have hyp : y = p' := congrArg Prod.snd (pin_uniq hIA'.pinN hy e1'.2 rfl)
          subst hyp
          rw [e1'.1] at hY; cases hY
          have : putF σ' x.key x.v x.n y fr = freeT (putA σ' x.key x.v x.n y) (σ'.last + 1) y ⟨x.key, x.v, x.n, true, 1⟩ := if_pos hfr
          rw [this] at X2
          exact ⟨G, F41, _, _, _, T39.right w41 st41, X2, hlen2, hst2⟩
        · have : putF σ' x.key x.v x.n p' fr = putA σ' x.key x.v x.n p' := if_neg (by simp only [fr, hfr]; simp)
          rw [this] at X2
          exact ⟨G, F3, _, _, _, T39, X2, hlen2, hst2⟩
    · rintro h42 ⟨F, F', σ, σ', f, T, X, hσ, hst⟩
      refine ⟨l.length - (m + 1), by omega, m + 1, F, F', σ, σ', f, ?_, by omega, rfl, T, X, hσ, hst⟩
      rw [wi64 (by omega) (by omega)]; rfl
  · have hkeys := X.keys T.w.inv (i := mine) rfl
    refine w19 T.w (by omega) fun s44 h45 a44 e45 fr44 => w19 (T.w'.ext0 e45) (by omega) fun s46 h47 a46 e47 fr46 => ?_
    rw [hkeys] at a46
    have a44' := a44.ext0 e47
    have hl1 := a44.len
    have hl2 := a46.len
    have T47 := (T.ext0 e45).ext0 e47
    refine Br.f (by simp; omega) ⟨fun i h' b => ∃ n : Nat, i = n ∧ n ≤ s44.len ∧ b = s44.len - n ∧ h47 = h', ⟨_, 0, rfl, by omega, rfl, rfl⟩, ?_⟩
    rintro _ _ _ ⟨n, rfl, hn, rfl, rfl⟩
    have hkl : (keysS σ (mine : Int)).length ≤ 4398046511104 := by
      unfold keysS
      split
      · obtain ⟨t, t', ht, ht', _⟩ := X.at (i := mine) (by omega) rfl
        rw [Int.toNat_natCast, shAt_of ht, List.length_map]
        have := (T.w.inv.sh _ t ht).wlen
        have := T.w.inv.len _ t ht
        omega
      · simp
    refine Br.dec (fun hi => ?_) fun hi => ?_
    · have hi' : n < (keysS σ (mine : Int)).length := by omega
      refine a44'.ix rfl (List.getElem?_eq_getElem hi') fun b1 o1 hc1 => ⟨_, hc1, a46.ix rfl (List.getElem?_eq_getElem hi') fun b2 o2 hc2 => ⟨_, hc2, ?_⟩⟩
      have hse : strEq ((keysS σ (mine : Int))[n]) ((keysS σ (mine : Int))[n]) = true := (MapKept.bytes_beq _ _).2 rfl
      rw [hse]
      refine Br.f rfl ⟨s44.len - (n + 1), by omega, n + 1, ?_, by omega, rfl, rfl⟩
      rw [wi64 (by omega) (by omega)]; rfl
    · have hsK : shardOf σ.sh.length key = mine := by rw [hσ]; exact hmine
      obtain ⟨t, t', ht, ht', R⟩ := X.at (i := mine) (by rw [← hsK]; exact shardOf_lt (by omega) key) rfl
      have S := T.w.inv.sh _ t ht
      have hlook : lookK key (σ'.shAt mine).ins = (lookK key (σ.shAt mine).ins).map f := by rw [shAt_of ht, shAt_of ht', R.ins, lookK_map]
      have hsK' : shardOf σ'.sh.length key = mine := by rw [X.len]; exact hsK
      refine w20 T47.w (by omega) hk (fun hno h63 w63 st63 => ?_) fun q Q hq hQ h63 w63 st63 => ?_
      · rw [hsK] at hno
        have T63 := T47.left w63 st63
        refine w20 T63.w' (by omega) hk (fun hno' h67 w67 st67 => ?_) fun q' Q' hq' _ _ _ _ => ?_
        · exact Br.t rfl (Br.t rfl (c13 fun h69 e69 => k h69 ((T63.right w67 st67).ext.trans e69)))
        · rw [hsK', hlook, hno] at hq'; cases hq'
      · rw [hsK] at hq
        have T63 := T47.left w63 st63
        rw [shAt_of ht] at hq
        have hqm := ((S.ins _ (lookK_some hq)).1)
        refine w20 T63.w' (by omega) hk (fun hno' _ _ _ => ?_) fun q' Q' hq' hQ' h67 w67 st67 => ?_
        · rw [hsK', hlook, shAt_of ht, hq] at hno'; cases hno'
        · rw [hsK', hlook, shAt_of ht, hq] at hq'
          simp only [Option.map_some, Option.some.injEq] at hq'
          subst hq'
          rw [R.it q hqm, hQ] at hQ'
          cases hQ'
          exact Br.t (by simp) (Br.t rfl (c13 fun h69 e69 => k h69 ((T63.right w67 st67).ext.trans e69)))

end Go.V.Yteojmnnobmpdiaa
