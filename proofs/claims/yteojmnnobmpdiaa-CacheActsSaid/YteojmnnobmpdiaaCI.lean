/- This text proves a part of the laws of seat Yteojmnnobmpdiaa, under no condition: T5 C11t C11u. -/
import Derived.Test.YteojmnnobmpdiaaEC
import Derived.Eval
import Derived.Test.YteojmnnobmpdiaaChecked
import Derived.Test.YteojmnnobmpdiaaCA
import Derived.Test.YteojmnnobmpdiaaCE
import Derived.Test.YteojmnnobmpdiaaCH
set_option linter.unusedVariables false
set_option maxRecDepth 100000
namespace Go.V.Yteojmnnobmpdiaa
open Go Go.V
/- 5: sediment.sedimentlaw11.CachePinned () · blk 1:  · blk 2:  · seq 16: #102 · loop 9: #11 -/
def pl5 : Plan := {
  blk := fun | 1 => some ⟨[], [], [0]⟩ | 2 => some ⟨[], [], [0, 1]⟩ | _ => none
  seq := fun | 16 => some ⟨[(102, .one .bool)], [], [0, 1]⟩ | _ => none
  loop := fun | 9 => some ⟨[(11, .one (.int .i64))], [], [0]⟩ | _ => none
  live := fun | 0 => some [1, 2, 3] | 1 => some [1, 2, 3, 7] | 2 => some [1, 2, 3, 7, 8, 9] | 3 => some [1, 2, 3, 7, 8, 9, 28] | 4 => some [6] | 5 => some [1, 2, 3, 7, 8, 9, 10] | 6 => some [1, 2, 3, 7, 8, 9, 10, 42] | 7 => some [6] | 8 => some [2, 7, 8, 10, 11] | 9 => some [2, 7, 8, 10, 11, 73] | 10 => some [2, 7, 8, 10, 11] | 11 => some [2, 7, 8, 10, 11, 12] | 12 => some [2, 7, 8, 10, 11, 12, 81] | 13 => some [2, 7, 8, 10, 11, 12, 81, 82] | 14 => some [2, 7, 8, 10, 11, 12, 13, 14] | 15 => some [2, 7, 8, 10, 11, 13, 102] | 16 => some [2, 7, 8, 10, 11] | 17 => some [2, 7, 8, 10, 11, 12, 81, 106] | 18 => some [2, 7, 8, 10, 11] | 19 => some [2, 7, 8, 10, 11, 12, 81, 112] | 20 => some [2, 7, 8, 10, 11] | 21 => some [2, 7, 8, 10, 11, 12, 118] | 22 => some [2, 7, 8, 10, 11] | 23 => some [2, 7, 8, 10, 11, 15, 16] | 24 => some [2, 7, 8, 10, 11, 136] | 25 => some [6] | 26 => some [6] | _ => none
  track := fun | 3 => true | 12 => true | _ => false
  draw := fun | _ => .done
  iter := fun | _ => none }
def vc5 (a0 : Int) (a1 : Int) (a2 : Bool) (a3 : ByteArray) (a4 : Slc) (h : Heap) (R : Bool → Heap → Prop) : Prop :=
  New 24 [Lf.int IntKind.i64 a0, Lf.int IntKind.u64 a1, Lf.bool a2] h fun (b0 : Nat) (h1 : Heap) =>
    Call Go.Proofs.Try.prog 12 [VV.lf (Lf.int IntKind.i64 a0), VV.lf (Lf.int IntKind.u64 a1), VV.lf (Lf.bool a2)] h1
      [VT.one LT.ptr, VT.one (LT.int IntKind.i64)] fun (p2 : Option (Nat × Nat)) (i3 : Int) (h4 : Heap) =>
      keepB h1 h4 [b0] ∧
        Br (Option.isNone p2)
          (Br (i3 == (1 : Int)) (Call Go.Proofs.Try.prog 13 [] h4 [VT.one LT.bool] fun (c5 : Bool) (h6 : Heap) => keepB h4 h6 [b0] ∧ R c5 h6) (R Bool.false h4))
          (Call Go.Proofs.Try.prog 14
            [VV.lf (Lf.ptr p2), VV.lf (Lf.str a3), VV.lf (Lf.int IntKind.u64 (4711 : Int)), VV.lf (Lf.int IntKind.u64 (1 : Int))] h4
            [VT.one (LT.int IntKind.i64), VT.one (LT.int IntKind.i64)] fun (i7 i8 : Int) (h9 : Heap) =>
            keepB h4 h9 [b0] ∧
              Br (i8 != (0 : Int))
                (Br (i8 == (2 : Int))
                  (Br (Decidable.decide ((↑(ByteArray.size a3) : Int) > (1024 : Int)))
                    (Call Go.Proofs.Try.prog 13 [] h9 [VT.one LT.bool] fun (c10 : Bool) (h11 : Heap) => keepB h9 h11 [b0] ∧ R c10 h11)
                    (Br (i8 == (110 : Int))
                      (Br a2
                        ((IntKind.wrap IntKind.u64 a0 = (0 : Int) → False) ∧
                          Br (Decidable.decide (IntKind.wrap IntKind.u64 (Int.tdiv a1 (IntKind.wrap IntKind.u64 a0)) < (1 : Int)))
                            (Call Go.Proofs.Try.prog 13 [] h9 [VT.one LT.bool] fun (c12 : Bool) (h13 : Heap) => keepB h9 h13 [b0] ∧ R c12 h13) (R Bool.false h9))
                        (R Bool.false h9))
                      (R Bool.false h9)))
                  (Br (i8 == (110 : Int))
                    (Br a2
                      ((IntKind.wrap IntKind.u64 a0 = (0 : Int) → False) ∧
                        Br (Decidable.decide (IntKind.wrap IntKind.u64 (Int.tdiv a1 (IntKind.wrap IntKind.u64 a0)) < (1 : Int)))
                          (Call Go.Proofs.Try.prog 13 [] h9 [VT.one LT.bool] fun (c14 : Bool) (h15 : Heap) => keepB h9 h15 [b0] ∧ R c14 h15) (R Bool.false h9))
                      (R Bool.false h9))
                    (R Bool.false h9)))
                (∃ (I16 : Int → Heap → Nat → Prop),
                  (∃ (b17 : Nat), I16 (0 : Int) h9 b17) ∧
                    ∀ (i18 : Int) (h19 : Heap) (b20 : Nat),
                      I16 i18 h19 b20 →
                        Br (Decidable.decide (i18 < (↑(Slc.len a4) : Int)))
                          (∃ (I21 : Heap → Prop),
                            (IxC a4 i18 5 fun (b22 b23 : Nat) =>
                                ∃ (i24 : Int),
                                  ∃ (i25 : Int),
                                    ∃ (t26 : ByteArray),
                                      ∃ (i27 : Int),
                                        ∃ (i28 : Int),
                                          cellsAt h19 b22 b23
                                              [Lf.int IntKind.i64 i24, Lf.int IntKind.i64 i25, Lf.str t26, Lf.int IntKind.u64 i27, Lf.int IntKind.u64 i28] ∧
                                            New 33
                                              [Lf.int IntKind.i64 (0 : Int), Lf.int IntKind.i64 (0 : Int), Lf.str (ByteArray.mk #[]), Lf.int IntKind.u64 (0 : Int),
                                                Lf.int IntKind.u64 (0 : Int)]
                                              h19 fun (b29 : Nat) (h30 : Heap) =>
                                              Set b29 33
                                                [Lf.int IntKind.i64 i24, Lf.int IntKind.i64 i25, Lf.str t26, Lf.int IntKind.u64 i27, Lf.int IntKind.u64 i28] h30
                                                fun (h31 : Heap) =>
                                                ∃ (I32 : Heap → Prop),
                                                  Br (i24 == (0 : Int))
                                                      (Call Go.Proofs.Try.prog 14
                                                        [VV.lf (Lf.ptr p2), VV.lf (Lf.str t26), VV.lf (Lf.int IntKind.u64 i27),
                                                          VV.lf (Lf.int IntKind.u64 i28)]
                                                        h31 [VT.one (LT.int IntKind.i64), VT.one (LT.int IntKind.i64)] fun (i33 i34 : Int) (h35 : Heap) =>
                                                        keepB h31 h35 [b29] ∧
                                                          ∃ (I36 : Bool → Heap → Prop),
                                                            Br (i34 == (0 : Int)) (((2 : Int) = (0 : Int) → False) ∧ I36 (Int.tmod i25 (2 : Int) == (0 : Int)) h35) (I36 Bool.false h35) ∧
                                                              ∀ (c37 : Bool) (h38 : Heap),
                                                                I36 c37 h38 →
                                                                  Br c37
                                                                    (Call Go.Proofs.Try.prog 16 [VV.lf (Lf.ptr p2), VV.lf (Lf.int IntKind.i64 i33)] h38
                                                                      [VT.one (LT.int IntKind.i64)] fun (i39 : Int) (h40 : Heap) => I32 h40)
                                                                    (I32 h38))
                                                      (Br (i24 == (1 : Int))
                                                        (Call Go.Proofs.Try.prog 20 [VV.lf (Lf.ptr p2), VV.lf (Lf.str t26)] h31
                                                          [VT.one (LT.int IntKind.i64), VT.one (LT.int IntKind.u64), VT.one LT.bool]
                                                          fun (i41 i42 : Int) (c43 : Bool) (h44 : Heap) => keepB h31 h44 [b29] ∧ I32 h44)
                                                        (Br (i24 == (4 : Int))
                                                          (Call Go.Proofs.Try.prog 21 [VV.lf (Lf.ptr p2), VV.lf (Lf.str t26)] h31 [VT.one LT.bool]
                                                            fun (c45 : Bool) (h46 : Heap) => keepB h31 h46 [b29] ∧ I32 h46)
                                                          (Br (i24 == (5 : Int))
                                                            (Call Go.Proofs.Try.prog 22 [VV.lf (Lf.ptr p2), VV.lf (Lf.int IntKind.u64 i28)] h31 []
                                                              fun (h47 : Heap) => keepB h31 h47 [b29] ∧ I32 h47)
                                                            (I32 h31)))) ∧
                                                    ∀ (h48 : Heap),
                                                      I32 h48 →
                                                        Call Go.Proofs.Try.prog 23 [VV.lf (Lf.ptr p2), VV.lf (Lf.int IntKind.i64 i7)] h48
                                                          [VT.one (LT.int IntKind.u64), VT.one (LT.int IntKind.i64)] fun (i49 i50 : Int) (h51 : Heap) =>
                                                          Br (i49 != (4711 : Int)) (R Bool.false h51) (Br (i50 != (0 : Int)) (R Bool.false h51) (I21 h51))) ∧
                              ∀ (h52 : Heap), I21 h52 → ∃ (b53 : Nat), b53 < b20 ∧ I16 (IntKind.wrap IntKind.i64 (i18 + (1 : Int))) h52 b53)
                          (Call Go.Proofs.Try.prog 16 [VV.lf (Lf.ptr p2), VV.lf (Lf.int IntKind.i64 i7)] h19 [VT.one (LT.int IntKind.i64)]
                            fun (i54 : Int) (h55 : Heap) =>
                            Br (i54 == (0 : Int))
                              (Call Go.Proofs.Try.prog 16 [VV.lf (Lf.ptr p2), VV.lf (Lf.int IntKind.i64 i7)] h55 [VT.one (LT.int IntKind.i64)]
                                fun (i56 : Int) (h57 : Heap) =>
                                Br (i56 == (111 : Int)) (Call Go.Proofs.Try.prog 13 [] h57 [VT.one LT.bool] fun (c58 : Bool) (h59 : Heap) => R c58 h59)
                                  (R Bool.false h57))
                              (R Bool.false h55))))
theorem eq5 (a0 : Int) (a1 : Int) (a2 : Bool) (a3 : ByteArray) (a4 : Slc) (h : Heap) (R : Bool → Heap → Prop) : vc5 a0 a1 a2 a3 a4 h R = vcFn Go.Proofs.Try.prog pl5 Go.Proofs.Try.f5 [.agg [.int .i64 a0, .int .u64 a1, .bool a2], .lf (.str a3), .lf (.slc a4)] h [.one .bool] R := by kernel_rfl
theorem ok5 {a0 : Int} {a1 : Int} {a2 : Bool} {a3 : ByteArray} {a4 : Slc} {h : Heap} {R : Bool → Heap → Prop} (hv : vc5 a0 a1 a2 a3 a4 h R) : Call Go.Proofs.Try.prog 5 [.agg [.int .i64 a0, .int .u64 a1, .bool a2], .lf (.str a3), .lf (.slc a4)] h [.one .bool] R := call_eq hng hmix Go.Proofs.Try.func5 (eq5 a0 a1 a2 a3 a4 h R) hv
end Go.V.Yteojmnnobmpdiaa
set_option linter.unusedVariables false
set_option linter.unusedSimpArgs false
/-! CachePinned. -/
namespace Go.V.Yteojmnnobmpdiaa
open Go Go.V

theorem goneS_keep' {σ τ : CS} {i : Nat} {s : Sh} {x : Nat} {X Y : It} (k : Keep σ τ) (hy : τ.it x = some Y) : Keep σ (goneS τ i s x Y) := k.trans (goneS_keep hy)
theorem unpin_keep {σ : CS} {n : Int} {x : Nat} {X : It} (hX : σ.it x = some X) : Keep σ (unpin σ n x X) :=
  Keep.one (X' := { X with pins := X.pins - 1 }) hX (by simp [unpin, CS.setIt]) (fun p hp => by simp [unpin, CS.setIt, hp]) rfl rfl rfl

/-- What freeing leaves as it is. -/
theorem freeT_same {σ : CS} {n : Int} {x : Nat} {X : It} {s : Sh} (hX : σ.it x = some X) (hs : σ.sh[shardOf σ.sh.length X.key]? = some s) :
    (freeT σ n x X).room = σ.room ∧ (freeT σ n x X).strict = σ.strict ∧ (freeT σ n x X).last = σ.last ∧ (freeT σ n x X).pins = adel (.int .i64) n σ.pins ∧ (freeT σ n x X).sh.length = σ.sh.length ∧ Keep σ (freeT σ n x X) := by
  have hu := unpin_keep (n := n) hX
  have hx : (unpin σ n x X).it x = some { X with pins := X.pins - 1 } := by simp [unpin, CS.setIt]
  rw [freeT_eq (m := 0) hs]
  split
  · exact ⟨rfl, rfl, rfl, rfl, rfl, hu⟩
  · split
    · have h := makesS_same (shardOf σ.sh.length X.key) 0 (share σ) (s.waits.length + 1) (waitS σ n x X s)
      exact ⟨h.room, h.strict, h.last, h.pins, by rw [h.len]; simp [waitS, CS.setSh, unpin, CS.setIt], Keep.trans (show Keep σ (waitS σ n x X s) from hu) (makesS_keep _ _ _ _ _)⟩
    · have h := goneS_same (unpin σ n x X) (shardOf σ.sh.length X.key) s x { X with pins := X.pins - 1 }
      exact ⟨h.room, h.strict, h.last, h.pins, h.len, hu.trans (goneS_keep hx)⟩

theorem addS_keep {σ : CS} {i : Nat} {key : ByteArray} {v ch : Int} {p : Nat} (hp : σ.it p = none) : Keep σ (addS σ i key v ch p) := fun q X hX =>
  ⟨X, by
    have : q ≠ p := fun e => by rw [e, hp] at hX; cases hX
    simp [addS, this, hX], rfl, rfl, rfl⟩
theorem putA_keep {σ : CS} {m : Nat} (I : Inv m σ) (h1 : 1 ≤ σ.sh.length) {key : ByteArray} {v ch : Int} {p : Nat} (hp : σ.it p = none) : Keep σ (putA σ key v ch p) := by
  have same := putM_same σ key ch
  obtain ⟨s, hs⟩ : ∃ s, (putM σ key ch).sh[shardOf σ.sh.length key]? = some s := ⟨_, List.getElem?_eq_getElem (by rw [same.len]; exact shardOf_lt h1 key)⟩
  have IM := putM_inv I key ch
  exact ((makesS_keep _ _ _ _ _).trans (takeS_keep IM hs)).trans (addS_keep (takeS_none IM hs (makesS_none _ _ _ _ _ hp)))
theorem putA_pins (σ : CS) (key : ByteArray) (v ch : Int) (p : Nat) : (putA σ key v ch p).pins = σ.pins ++ [(σ.last + 1, p)] ∧ (putA σ key v ch p).last = σ.last + 1 ∧ (putA σ key v ch p).strict = σ.strict ∧ (putA σ key v ch p).room = σ.room ∧ (putA σ key v ch p).sh.length = σ.sh.length := by
  have h1 := putM_same σ key ch
  have h2 := takeS_same (putM σ key ch) (shardOf σ.sh.length key) key
  refine ⟨?_, ?_, ?_, ?_, ?_⟩
  · simp only [putA, addS, h2.pins, h1.pins, h2.last, h1.last]
  · simp only [putA, addS, h2.last, h1.last]
  · simp only [putA, addS, h2.strict, h1.strict]
  · simp only [putA, addS, h2.room, h1.room]
  · simp only [putA, addS, List.length_set, h2.len, h1.len]
theorem dropS_same {σ : CS} {m : Nat} (I : Inv m σ) (h1 : 1 ≤ σ.sh.length) (key : ByteArray) : Same σ (dropS σ key).2 ∧ Keep σ (dropS σ key).2 := by
  obtain ⟨s, hs⟩ : ∃ s, σ.sh[shardOf σ.sh.length key]? = some s := ⟨_, List.getElem?_eq_getElem (shardOf_lt h1 key)⟩
  unfold dropS
  simp only [shAt_of hs]
  split
  · rename_i q hq
    split
    · rename_i X hX
      exact ⟨outS_same .., outS_keep hX ((I.sh _ s hs).at (lookK_some hq) hX).2.2⟩
    · exact ⟨Same.refl _, Keep.refl _⟩
  · exact ⟨Same.refl _, Keep.refl _⟩
theorem roomS_same (σ : CS) (r : Int) : Same { σ with room := r } (roomS σ r) ∧ Keep σ (roomS σ r) := by
  have key : ∀ (l : List Nat) (τ : CS), Same τ (l.foldl (fun τ i => makesS i 0 (share τ) (τ.shAt i).waits.length τ) τ) ∧ Keep τ (l.foldl (fun τ i => makesS i 0 (share τ) (τ.shAt i).waits.length τ) τ) := by
    intro l
    induction l with
    | nil => intro τ; exact ⟨Same.refl _, Keep.refl _⟩
    | cons i l ih => intro τ; exact ⟨(makesS_same ..).trans (ih _).1, (makesS_keep _ _ _ _ _).trans (ih _).2⟩
  exact key _ _

/-- The first pin is there, and has its value. -/
def First (σ : CS) : Prop := ∃ x X, (1, x) ∈ σ.pins ∧ σ.it x = some X ∧ X.v = 4711
theorem First.keep {σ σ' : CS} (f : First σ) (k : Keep σ σ') (hp : ∀ x, (1, x) ∈ σ.pins → (1, x) ∈ σ'.pins) : First σ' := by
  obtain ⟨x, X, h1, h2, h3⟩ := f
  obtain ⟨Y, hY, _, hv, _⟩ := k x X h2
  exact ⟨x, Y, hp x h1, hY, hv.trans h3⟩
theorem First.same {σ σ' : CS} (f : First σ) (s : Same σ σ') (k : Keep σ σ') : First σ' := f.keep k fun x hx => by rw [s.pins]; exact hx

/-- A call, as the statements have it. -/
structure Act where
  kind : Int
  pin : Int
  key : ByteArray
  v : Int
  n : Int
def Act.lfs (a : Act) : List Lf := [.int .i64 a.kind, .int .i64 a.pin, .str a.key, .int .u64 a.v, .int .u64 a.n]
theorem act_sized : Sized 5 Act.lfs := fun _ => rfl
structure Act.Ok (a : Act) : Prop where
  k0 : -9223372036854775808 ≤ a.kind
  k1 : a.kind ≤ 9223372036854775807
  p0 : -9223372036854775808 ≤ a.pin
  p1 : a.pin ≤ 9223372036854775807
  key : a.key.size ≤ 9223372036854775807
  v0 : 0 ≤ a.v
  v1 : a.v ≤ big
  n0 : 0 ≤ a.n
  n1 : a.n ≤ big

theorem adel_other {n : Int} {x : Nat} : ∀ {l : List (Int × Nat)}, n ≠ 1 → (1, x) ∈ l → (1, x) ∈ adel (.int .i64) n l
  | [], _, h => by simp at h
  | y :: l, hn, h => by
    by_cases hy : keq (.int .i64) n y.1 = true
    · have hyk := (keq_iff (kt := .int .i64) trivial _ _).1 hy
      rw [adel, if_pos hy]
      rcases List.mem_cons.1 h with h | h
      · rw [← h] at hyk; exact absurd hyk hn
      · exact h
    · rw [adel, if_neg hy]
      rcases List.mem_cons.1 h with h | h
      · exact List.mem_cons.2 (.inl h)
      · exact List.mem_cons.2 (.inr (adel_other hn h))

theorem new_sh (n : Nat) (room : Int) (strict : Bool) (i : Nat) : (newS n room strict).shAt i = emptySh := by
  unfold CS.shAt newS
  simp only [List.getElem?_replicate]
  split <;> rfl

theorem new_full {n : Nat} {room : Int} {strict : Bool} {key : ByteArray} (hf : putFull (newS n room strict) key 1) : strict = true ∧ room / (n : Int) < 1 := by
  obtain ⟨h1, h2⟩ := hf
  refine ⟨h1, ?_⟩
  have h3 : putM (newS n room strict) key 1 = newS n room strict := by unfold putM; rw [new_sh]; rfl
  rw [h3, new_sh] at h2
  have h4 : usedS (newS n room strict).it emptySh = 0 := rfl
  have h5 : plusS 0 1 = 1 := by decide
  have h6 : share (newS n room strict) = room / (n : Int) := by simp [share, newS]
  rw [h4, h5, h6] at h2
  omega

theorem c5 {h : Heap} {n room : Int} {strict : Bool} {key : ByteArray} {s : Slc} {l : List Act} (a : Arr 5 Act.lfs h s l) (r0 : 0 ≤ room) (r1 : room ≤ big) (hn0 : -9223372036854775808 ≤ n) (hn1 : n ≤ 9223372036854775807)
    (hk : key.size ≤ 9223372036854775807) (hl : l.length < 4398046511100) (ok : ∀ x ∈ l, x.Ok) {R : Bool → Heap → Prop} (k : ∀ h', Ext0 h h' → R true h') :
    Call Go.Proofs.Try.prog 5 [.agg [.int .i64 n, .int .u64 room, .bool strict], .lf (.str key), .lf (.slc s)] h [.one .bool] R := by
  have hlen := a.len
  refine ok5 (New.mk fun b0 h1 hb0 hs1 e1 k1 => w12 r0 r1 hn0 hn1 (fun hbad => ⟨⟨rfl, trivial⟩, Br.t rfl (Br.t rfl (c13 fun h2 e2 => ⟨⟨e2.same _ (by omega) id, trivial⟩, k h2 (e1.trans e2)⟩))⟩) fun hn1' hn64 F h4 c w e4 hF => ⟨⟨e4.same _ (by omega) id, trivial⟩, Br.f rfl ?_⟩)
  have e14 := e1.trans e4
  have hF0 : ∀ y, F y → h.size ≤ y := fun y hy => by have := hF y hy; omega
  obtain ⟨q, rfl⟩ := Int.eq_ofNat_of_zero_le (show 0 ≤ n by omega)
  have hb1 : b0 < h4.size := by have := e4.size; omega
  have hbF : ∀ {F' h'}, Stp F h4 F' h' → h'[b0]? = h4[b0]? := fun st => st.ext.same _ hb1 fun hy => by have := hF _ hy; omega
  refine w14 w (by decide) (by decide) (by decide) (by decide) (by decide) hk (fun hbig => ⟨⟨rfl, trivial⟩, Br.t rfl (Br.t rfl (Br.t (by simp; omega) (c13 fun h2 e2 => ⟨⟨e2.same _ hb1 id, trivial⟩, k h2 (e14.trans e2)⟩)))⟩) ?_ ?_
  · intro hks hf h5 w5 st5
    refine ⟨⟨hbF st5, trivial⟩, Br.t rfl (Br.f rfl (Br.t rfl ?_))⟩
    have hw : IntKind.wrap .u64 (q : Int) = q := wu64 (by omega) (by omega)
    have hfull := new_full hf
    rw [Int.toNat_natCast] at hfull
    rw [hw]
    have hdiv : Int.tdiv room (q : Int) = room / (q : Int) := Int.tdiv_eq_ediv_of_nonneg r0
    have hd0 : 0 ≤ room / (q : Int) := Int.ediv_nonneg r0 (by omega)
    refine Br.t hfull.1 ⟨fun e => by omega, ?_⟩
    rw [hdiv, wu64 hd0 (by omega)]
    have hb5 : b0 < h5.size := Nat.lt_of_lt_of_le hb1 st5.ext.size
    refine Br.t (by simpa using hfull.2) (c13 fun h6 e6 => ⟨⟨e6.same _ hb5 id, trivial⟩, k h6 ((st5.to0 e14 hF0).1.trans e6)⟩)
  · intro hks hno F5 h5 p hp w5 st5
    refine ⟨⟨hbF st5, trivial⟩, Br.f rfl ?_⟩
    rw [Int.toNat_natCast] at w5 hp
    have hfirst : First (putA (newS q room strict) key 4711 1 p) := by
      refine ⟨p, ⟨key, 4711, 1, true, 1⟩, ?_, by simp [putA, addS], rfl⟩
      rw [(putA_pins ..).1]; exact List.mem_append.2 (.inr (by simp [newS]))
    refine ⟨fun i h' d => ∃ (m : Nat) (F' : Nat → Prop) (σ : CS), i = m ∧ m ≤ l.length ∧ d = l.length - m ∧ CW F' h' (1 + m) c σ ∧ First σ ∧ 1 ≤ σ.last ∧ (∀ y, F' y → h.size ≤ y) ∧ Ext0 h h', ⟨_, 0, F5, _, rfl, by omega, rfl, w5, hfirst, ?_, (st5.to0 e14 hF0).2, (st5.to0 e14 hF0).1⟩, ?_⟩
    · rw [(putA_pins ..).2.1]; exact Int.le_refl _
    rintro _ h19 _ ⟨m, F', σ, rfl, hm, rfl, w19, f19, hl19, hF19, e19⟩
    refine Br.dec (fun hi => ?_) fun hi => ?_
    · have hi' : m < l.length := by omega
      have ox := ok _ (List.getElem_mem hi')
      refine ⟨fun h' => ∃ (F'' : Nat → Prop) (τ : CS), CW F'' h' (1 + (m + 1)) c τ ∧ First τ ∧ 1 ≤ τ.last ∧ (∀ y, F'' y → h.size ≤ y) ∧ Ext0 h h', (a.ext0 e19).ix rfl (List.getElem?_eq_getElem hi') fun b22 b23 hc => ⟨_, _, _, _, _, hc, New.mk fun b29 h30 hb29 hs30 e30 k30 => Set.mk fun h31 hs31 e31 _ => ?_⟩, ?_⟩
      · generalize l[m] = x at ox
        have e31' : Ext0 h19 h31 := e30.tmp e31 (by omega)
        have w31 := w19.ext0 e31'
        have e031 := e19.trans e31'
        have hb31 : b29 < h31.size := by omega
        have hbG : ∀ {G h'}, Stp F' h31 G h' → keepB h31 h' [b29] := fun st => ⟨st.ext.same _ hb31 (fun hy => by have := w19.lt _ hy; omega), trivial⟩
        have hmm : 1 + m ≤ 4398046511104 := by omega
        have hn1 := w31.n.1
        have hI := w31.inv
        refine ⟨fun h' => ∃ (F'' : Nat → Prop) (τ : CS), CW F'' h' (1 + (m + 1)) c τ ∧ First τ ∧ 1 ≤ τ.last ∧ (∀ y, F'' y → h.size ≤ y) ∧ Ext0 h h', ?_, ?_⟩
        · refine Br.eq (fun _ => ?_) fun _ => Br.eq (fun _ => ?_) fun _ => Br.eq (fun _ => ?_) fun _ => Br.eq (fun _ => ?_) fun _ => ⟨F', σ, w31.mono (by omega), f19, hl19, hF19, e031⟩
          · refine w14 w31 hmm ox.v0 ox.v1 ox.n0 ox.n1 ox.key (fun _ => ⟨⟨rfl, trivial⟩, ?_⟩) (fun _ _ h35 w35 st35 => ⟨hbG st35, ?_⟩) fun _ _ F35 h35 p' hp' w35 st35 => ⟨hbG st35, ?_⟩
            · refine ⟨fun cc h' => cc = false ∧ h31 = h', Br.f rfl ⟨rfl, rfl⟩, ?_⟩
              rintro cc _ ⟨rfl, rfl⟩
              exact Br.f rfl ⟨F', σ, w31.mono (by omega), f19, hl19, hF19, e031⟩
            · refine ⟨fun cc h' => cc = false ∧ h35 = h', Br.f rfl ⟨rfl, rfl⟩, ?_⟩
              rintro cc _ ⟨rfl, rfl⟩
              have same := putM_same σ x.key x.n
              exact Br.f rfl ⟨F', _, w35.mono (by omega), f19.same same (makesS_keep _ _ _ _ _), by rw [same.last]; exact hl19, (st35.to0 e031 hF19).2, (st35.to0 e031 hF19).1⟩
            · have hpa := putA_pins σ x.key x.v x.n p'
              have fA : First (putA σ x.key x.v x.n p') := f19.keep (putA_keep hI hn1 hp') fun y hy => by rw [hpa.1]; exact List.mem_append.2 (.inl hy)
              have hF35 := st35.to0 e031 hF19
              refine ⟨fun cc h' => h35 = h', Br.t rfl ⟨by decide, rfl⟩, ?_⟩
              rintro cc _ rfl
              refine Br.mk (fun _ => ?_) fun _ => ⟨F35, _, w35.mono (by omega), fA, by rw [hpa.2.1]; omega, hF35.2, hF35.1⟩
              refine w16 w35 (by omega) (fun hno => absurd rfl (hno (σ.last + 1, p') (by rw [hpa.1]; simp))) fun y Y hy hY F40 h40 w40 st40 => ?_
              obtain ⟨t, ht, _⟩ := w35.inv.at hy hY
              obtain ⟨_, _, hlast, hpins, _, hkeep⟩ := freeT_same (n := σ.last + 1) hY ht
              have hF40 := st40.to0 hF35.1 hF35.2
              refine ⟨F40, _, w40.mono (by omega), fA.keep hkeep fun z hz => by rw [hpins]; exact adel_other (by omega) hz, by rw [hlast, hpa.2.1]; omega, hF40.2, hF40.1⟩
          · refine w20 w31 hmm ox.key (fun _ h44 w44 st44 => ⟨hbG st44, F', σ, w44.mono (by omega), f19, hl19, (st44.to0 e031 hF19).2, (st44.to0 e031 hF19).1⟩) fun q' X hq hX h44 w44 st44 => ⟨hbG st44, F', _, w44.mono (by omega), f19.keep ?_ fun y hy => List.mem_append.2 (.inl hy), ?_, (st44.to0 e031 hF19).2, (st44.to0 e031 hF19).1⟩
            · exact Keep.one (X' := { X with pins := X.pins + 1 }) hX (by simp [repin]) (fun p hp => by simp [repin, hp]) rfl rfl rfl
            · simp only [repin]; omega
          · have hd := dropS_same hI hn1 x.key
            exact w21 w31 hmm ox.key fun h46 w46 st46 => ⟨hbG st46, F', _, w46.mono (by omega), f19.same hd.1 hd.2, by rw [hd.1.last]; exact hl19, (st46.to0 e031 hF19).2, (st46.to0 e031 hF19).1⟩
          · have hd := roomS_same σ x.n
            exact w22 w31 hmm ox.n0 ox.n1 fun h47 w47 st47 => ⟨hbG st47, F', _, w47.mono (by omega), f19.keep hd.2 fun y hy => by rw [hd.1.pins]; exact hy, by rw [hd.1.last]; exact hl19, (st47.to0 e031 hF19).2, (st47.to0 e031 hF19).1⟩
        · rintro h48 ⟨G, τ, w48, f48, hl48, hF48, e48⟩
          have hlast0 : (newS q room strict).last + 1 = 1 := rfl
          refine w23 w48 (fun hno => ?_) fun y Y hy hY => ?_
          · obtain ⟨z, Z, hz, _⟩ := f48
            exact absurd rfl (hno _ hz)
          · obtain ⟨z, Z, hz, hZ, hv⟩ := f48
            have hyz : (((newS q room strict).last + 1, y) : Int × Nat) = (1, z) := pin_uniq w48.inv.pinN hy hz rfl
            have : y = z := congrArg Prod.snd hyz
            subst this
            rw [hY] at hZ; cases hZ
            rw [hv]
            exact Br.f rfl (Br.f rfl ⟨G, τ, w48, ⟨y, Y, hz, hY, hv⟩, hl48, hF48, e48⟩)
      · rintro h52 ⟨G, τ, w52, f52, hl52, hF52, e52⟩
        refine ⟨_, ?_, m + 1, G, τ, ?_, by omega, rfl, w52, f52, hl52, hF52, e52⟩
        · show l.length - (m + 1) < l.length - m; omega
        · rw [wi64 (by omega) (by omega)]; rfl
    · obtain ⟨z, Z, hz, hZ, hv⟩ := f19
      refine w16 w19 (by omega) (fun hno => absurd rfl (hno _ hz)) fun y Y hy hY F55 h55 w55 st55 => Br.t rfl ?_
      obtain ⟨t, ht, _⟩ := w19.inv.at hy hY
      obtain ⟨_, _, hlast, hpins, _, hkeep⟩ := freeT_same (n := 1) hY ht
      have hF55 := st55.to0 e19 hF19
      refine w16 w55 (by omega) (fun hno => Br.t rfl (c13 fun h57 e57 => ?_)) fun y' Y' hy' _ _ _ _ _ => ?_
      · exact k _ (hF55.1.trans e57)
      · have hy2 : ((1 : Int), y') ∈ (freeT σ 1 y Y).pins := hy'
        rw [hpins] at hy2
        have := ((adel_mem (kt := .int .i64) (e := ((1 : Int), y')) trivial w19.inv.pinN).1 hy2).2
        exact absurd rfl this

end Go.V.Yteojmnnobmpdiaa
set_option linter.unusedVariables false
set_option linter.unusedSimpArgs false
/-! The cache: how much is used. -/
namespace Go.V.Yteojmnnobmpdiaa
open Go Go.V

theorem sums_sub {l m : List Int} (h : l.Sublist m) (hm : ∀ x ∈ m, 0 ≤ x) : sums l ≤ sums m := by
  induction h with
  | slnil => exact Int.le_refl _
  | cons x _ ih =>
    have := ih fun y hy => hm y (List.mem_cons_of_mem _ hy)
    have := hm x (List.mem_cons_self ..)
    simp only [sums]; omega
  | cons_cons x _ ih =>
    have := ih fun y hy => hm y (List.mem_cons_of_mem _ hy)
    simp only [sums]; omega
theorem cap_mono {a b : Int} (h : a ≤ b) : cap a ≤ cap b := by unfold cap big; split <;> split <;> omega
theorem plusS_mono {a b c : Int} (h : a ≤ b) (ha : 0 ≤ a) (hb : b ≤ big) (hc : 0 ≤ c) (hc' : c ≤ big) : plusS a c ≤ plusS b c := by unfold plusS big at *; split <;> split <;> omega
theorem plusS_zero {a : Int} (ha : 0 ≤ a) (ha' : a ≤ big) : plusS a 0 = a := by unfold plusS big at *; split <;> omega
theorem plusS_le {a b : Int} : plusS a b ≤ a + b := by unfold plusS big; split <;> omega

/-- From one state to another no part has more entries. -/
structure Less (i : Nat) (σ σ' : CS) : Prop where
  keep : Keep σ σ'
  len : σ'.sh.length = σ.sh.length
  oth : ∀ j, j ≠ i → σ'.sh[j]? = σ.sh[j]?
  own : ∀ s, σ.sh[i]? = some s → ∃ s', σ'.sh[i]? = some s' ∧ s'.all.Sublist s.all ∧ (s.waits = [] → s'.waits = [])

theorem Less.refl (i : Nat) (σ : CS) : Less i σ σ := ⟨Keep.refl _, rfl, fun _ _ => rfl, fun s hs => ⟨s, hs, List.Sublist.refl _, id⟩⟩
theorem Less.trans {i : Nat} {a b c : CS} (h : Less i a b) (k : Less i b c) : Less i a c :=
  ⟨h.keep.trans k.keep, k.len.trans h.len, fun j hj => (k.oth j hj).trans (h.oth j hj), fun s hs => by
    obtain ⟨t, ht, h1, h2⟩ := h.own s hs
    obtain ⟨u, hu, k1, k2⟩ := k.own t ht
    exact ⟨u, hu, k1.trans h1, fun hw => k2 (h2 hw)⟩⟩
theorem goneS_less {σ : CS} {i : Nat} {s : Sh} {x : Nat} {X : It} (hs : σ.sh[i]? = some s) (hx : σ.it x = some X) : Less i σ (goneS σ i s x X) := by
  refine ⟨goneS_keep hx, (goneS_same ..).len, fun j hj => ?_, fun t ht => ?_⟩
  · unfold goneS CS.setSh CS.setIt
    have : ¬ i = j := fun e => hj e.symm
    split <;> simp [this]
  · rw [hs] at ht; cases ht
    exact ⟨_, goneS_sh hs, List.erase_sublist .., fun hw => by simp [hw]⟩
theorem makesS_less (i : Nat) (more room : Int) : ∀ (n : Nat) (σ : CS), Less i σ (makesS i more room n σ)
  | 0, σ => Less.refl _ _
  | n + 1, σ => by
    unfold makesS
    split
    · rename_i s hs
      split
      · exact Less.refl _ _
      · split
        · split
          · rename_i X hX
            exact (goneS_less hs hX).trans (makesS_less i more room n _)
          · exact Less.refl _ _
        · exact Less.refl _ _
    · exact Less.refl _ _
theorem outS_less {σ : CS} {i : Nat} {s : Sh} {x : Nat} {X : It} (hs : σ.sh[i]? = some s) (hx : σ.it x = some X) (hin : X.inn = true) : Less i σ (outS σ i s x X) := by
  by_cases hp : X.pins = 0
  · rw [outS_gone hp hin]; exact goneS_less hs hx
  · have hk := outS_keep (i := i) (s := s) hx hin
    rw [outS_pinned hp] at hk ⊢
    have hi := sh_lt hs
    refine ⟨hk, by simp [outP, CS.setSh, CS.setIt], fun j hj => ?_, fun t ht => ?_⟩
    · have : ¬ i = j := fun e => hj e.symm
      simp [outP, CS.setSh, CS.setIt, this]
    · rw [hs] at ht; cases ht
      exact ⟨{ s with ins := adel .str X.key s.ins }, by simp [outP, CS.setSh, CS.setIt, hi], List.Sublist.refl _, id⟩
theorem takeS_less {σ : CS} {i m : Nat} {key : ByteArray} (I : Inv m σ) {s : Sh} (hs : σ.sh[i]? = some s) : Less i σ (takeS σ i key) := by
  unfold takeS
  rw [shAt_of hs]
  split
  · rename_i q hq
    split
    · rename_i X hX
      exact outS_less hs hX ((I.sh i s hs).at (lookK_some hq) hX).2.2
    · exact Less.refl _ _
  · exact Less.refl _ _

theorem chs_keep {σ σ' : CS} (k : Keep σ σ') : ∀ {l : List Nat}, (∀ p ∈ l, ∃ X, σ.it p = some X) → l.map (chOf σ'.it) = l.map (chOf σ.it)
  | [], _ => rfl
  | p :: l, h => by
    obtain ⟨X, hX⟩ := h p (List.mem_cons_self ..)
    rw [List.map_cons, List.map_cons, k.ch hX, chs_keep k fun q hq => h q (List.mem_cons_of_mem _ hq)]
theorem ch_nonneg {σ : CS} {m : Nat} (I : Inv m σ) {l : List Nat} : ∀ x ∈ l.map (chOf σ.it), 0 ≤ x := fun x hx => by
  obtain ⟨p, _, rfl⟩ := List.mem_map.1 hx
  unfold chOf
  split
  · rename_i X hX; exact (I.ok p X hX).c0
  · exact Int.le_refl _
theorem used_range {σ : CS} {m : Nat} (I : Inv m σ) (s : Sh) : 0 ≤ usedS σ.it s ∧ usedS σ.it s ≤ big := cap_range (sums_nonneg (ch_nonneg I))
theorem SInv.ex {n : Nat} {it : Nat → Option It} {i : Nat} {s : Sh} (S : SInv n it i s) : ∀ p ∈ s.all, ∃ X, it p = some X := fun p hp => by obtain ⟨X, hX, _⟩ := S.ent p hp; exact ⟨X, hX⟩

theorem used_sub {σ σ' : CS} {m i : Nat} {s s' : Sh} (I : Inv m σ) (hs : σ.sh[i]? = some s) (k : Keep σ σ') (h : s'.all.Sublist s.all) : usedS σ'.it s' ≤ usedS σ.it s := by
  have hex := (I.sh i s hs).ex
  unfold usedS
  rw [chs_keep k fun p hp => hex p (h.subset hp)]
  exact cap_mono (sums_sub (h.map _) (ch_nonneg I))
theorem used_same {σ σ' : CS} {m i : Nat} {s : Sh} (I : Inv m σ) (hs : σ.sh[i]? = some s) (k : Keep σ σ') : usedS σ'.it s = usedS σ.it s := by
  have hex := (I.sh i s hs).ex
  unfold usedS
  rw [chs_keep k hex]

theorem Less.sh {i j : Nat} {σ σ' : CS} (h : Less i σ σ') {t : Sh} (ht : σ'.sh[j]? = some t) : ∃ s, σ.sh[j]? = some s ∧ t.all.Sublist s.all ∧ (s.waits = [] → t.waits = []) := by
  by_cases hj : j = i
  · subst hj
    have hl := sh_lt ht
    rw [h.len] at hl
    obtain ⟨s', hs', h1, h2⟩ := h.own _ (List.getElem?_eq_getElem hl)
    rw [ht] at hs'; cases hs'
    exact ⟨_, List.getElem?_eq_getElem hl, h1, h2⟩
  · rw [h.oth j hj] at ht
    exact ⟨t, ht, List.Sublist.refl _, id⟩

/-- No part uses more than its share, or nothing waits there. -/
def Rest (σ : CS) : Prop := ∀ (i : Nat) (s : Sh), σ.sh[i]? = some s → usedS σ.it s ≤ share σ ∨ s.waits = []
def Tight (σ : CS) : Prop := ∀ (i : Nat) (s : Sh), σ.sh[i]? = some s → usedS σ.it s ≤ share σ

theorem Less.rest {i m : Nat} {σ σ' : CS} (h : Less i σ σ') (I : Inv m σ) (hr : σ'.room = σ.room) (r : Rest σ) : Rest σ' := by
  intro j t ht
  obtain ⟨s, hs, h1, h2⟩ := h.sh ht
  have hsh : share σ' = share σ := by unfold share; rw [hr, h.len]
  rw [hsh]
  have := used_sub I hs h.keep h1
  exact (r j s hs).imp (fun x => Int.le_trans this x) h2
theorem Less.tight {i m : Nat} {σ σ' : CS} (h : Less i σ σ') (I : Inv m σ) (hr : σ'.room = σ.room) (r : Tight σ) : Tight σ' := by
  intro j t ht
  obtain ⟨s, hs, h1, h2⟩ := h.sh ht
  have hsh : share σ' = share σ := by unfold share; rw [hr, h.len]
  rw [hsh]
  exact Int.le_trans (used_sub I hs h.keep h1) (r j s hs)

/-- Room is made as far as it goes. -/
theorem makesS_end {m i : Nat} {more room : Int} : ∀ (n : Nat) {σ : CS} {s : Sh}, Inv m σ → σ.sh[i]? = some s → s.waits.length ≤ n →
    ∃ s', (makesS i more room n σ).sh[i]? = some s' ∧ (plusS (usedS (makesS i more room n σ).it s') more ≤ room ∨ s'.waits = [])
  | 0, σ, s, I, hs, hn => ⟨s, hs, .inr (List.length_eq_zero_iff.1 (by omega))⟩
  | n + 1, σ, s, I, hs, hn => by
    unfold makesS
    rw [hs]
    simp only
    cases hw : s.waits with
    | nil => exact ⟨s, hs, .inr hw⟩
    | cons x rest =>
      simp only
      by_cases hgt : plusS (usedS σ.it s) more > room
      · obtain ⟨hm, X, hX, hin, hp⟩ := ((I.sh i s hs).w x).1 (by rw [hw]; exact List.mem_cons_self ..)
        simp only [hgt, if_true, hX]
        refine makesS_end n (I.gone hs hm hX hp) (goneS_sh hs) ?_
        have : (s.waits.filter fun p => !decide (p = x)).length ≤ rest.length := by
          rw [hw, List.filter_cons]
          simp only [decide_true, Bool.not_true, Bool.false_eq_true, if_false]
          exact List.length_filter_le ..
        have h2 : s.waits.length = rest.length + 1 := by rw [hw]; rfl
        simp only; omega
      · simp only [hgt, if_false]
        exact ⟨s, hs, .inl (by omega)⟩

/-- What a Put leaves: the parts, ahead of the new entry. -/
theorem putM_end {m : Nat} {σ : CS} (I : Inv m σ) (h1 : 1 ≤ σ.sh.length) (key : ByteArray) (ch : Int) :
    ∃ s, (putM σ key ch).sh[shardOf σ.sh.length key]? = some s ∧ (plusS (usedS (putM σ key ch).it s) ch ≤ share σ ∨ s.waits = []) := by
  obtain ⟨s, hs⟩ : ∃ s, σ.sh[shardOf σ.sh.length key]? = some s := ⟨_, List.getElem?_eq_getElem (shardOf_lt h1 key)⟩
  exact makesS_end _ I hs (by rw [shAt_of hs]; exact Nat.le_refl _)

theorem addS_used {m i p : Nat} {τ : CS} {s : Sh} {key : ByteArray} {v ch : Int} (I : Inv m τ) (hs : τ.sh[i]? = some s) (hp : τ.it p = none) (hc0 : 0 ≤ ch) (hc1 : ch ≤ big) :
    (addS τ i key v ch p).sh[i]? = some ⟨s.ins ++ [(key, p)], s.all ++ [p], s.waits⟩ ∧ usedS (addS τ i key v ch p).it ⟨s.ins ++ [(key, p)], s.all ++ [p], s.waits⟩ = plusS (usedS τ.it s) ch := by
  have hi := sh_lt hs
  refine ⟨by simp [addS, shAt_of hs, hi], ?_⟩
  have hn : chOf (addS τ i key v ch p).it p = ch := by simp [chOf, addS]
  unfold usedS
  rw [List.map_append, sums_append, chs_keep (addS_keep hp) (I.sh i s hs).ex, plusS_cap (sums_nonneg (ch_nonneg I)) hc0 hc1]
  simp [sums, hn]
theorem addS_oth {m i j p : Nat} {τ : CS} {t : Sh} {key : ByteArray} {v ch : Int} (I : Inv m τ) (hp : τ.it p = none) (hj : j ≠ i) (ht : (addS τ i key v ch p).sh[j]? = some t) :
    τ.sh[j]? = some t ∧ usedS (addS τ i key v ch p).it t = usedS τ.it t := by
  have : ¬ i = j := fun e => hj e.symm
  have h1 : τ.sh[j]? = some t := by simpa [addS, this] using ht
  exact ⟨h1, used_same I h1 (addS_keep hp)⟩

theorem putA_rest {m p : Nat} {σ : CS} {key : ByteArray} {v ch : Int} (I : Inv m σ) (h1 : 1 ≤ σ.sh.length) (hp : σ.it p = none) (hc0 : 0 ≤ ch) (hc1 : ch ≤ big) (r : Rest σ) : Rest (putA σ key v ch p) := by
  have same := putM_same σ key ch
  have IM := putM_inv I key ch
  obtain ⟨s, hs, hend⟩ := putM_end I h1 key ch
  have hl := takeS_less (key := key) IM hs
  have IT := IM.take (key := key) hs
  obtain ⟨t, ht, ht1, ht2⟩ := hl.own s hs
  have hpn := takeS_none IM (key := key) hs (makesS_none _ _ _ _ _ hp)
  have hshare : share (putA σ key v ch p) = share σ := by
    have := putA_pins σ key v ch p
    unfold share; rw [this.2.2.2.1, this.2.2.2.2]
  have rT : Rest (takeS (putM σ key ch) (shardOf σ.sh.length key) key) := hl.rest IM (takeS_same ..).room ((makesS_less ..).rest I same.room r)
  intro j u hu
  rw [hshare]
  by_cases hj : j = shardOf σ.sh.length key
  · subst hj
    obtain ⟨h2, h3⟩ := addS_used (key := key) (v := v) (ch := ch) IT ht hpn hc0 hc1
    have hu' : (addS (takeS (putM σ key ch) (shardOf σ.sh.length key) key) (shardOf σ.sh.length key) key v ch p).sh[shardOf σ.sh.length key]? = some u := hu
    rw [h2] at hu'
    cases hu'
    have h4 : usedS (putA σ key v ch p).it ⟨t.ins ++ [(key, p)], t.all ++ [p], t.waits⟩ = plusS (usedS (takeS (putM σ key ch) (shardOf σ.sh.length key) key).it t) ch := h3
    rw [h4]
    rcases hend with h5 | h5
    · left
      have h6 := used_sub IM hs hl.keep ht1
      exact Int.le_trans (plusS_mono h6 (used_range IT t).1 (used_range IM s).2 hc0 hc1) h5
    · right; exact ht2 h5
  · obtain ⟨h2, h3⟩ := addS_oth IT hpn hj hu
    have h4 : usedS (putA σ key v ch p).it u = usedS (takeS (putM σ key ch) (shardOf σ.sh.length key) key).it u := h3
    rw [h4]
    have := rT j u h2
    rwa [show share (takeS (putM σ key ch) (shardOf σ.sh.length key) key) = share σ by rw [share_same (takeS_same ..), share_same same]] at this
theorem putA_tight {m p : Nat} {σ : CS} {key : ByteArray} {v ch : Int} (I : Inv m σ) (h1 : 1 ≤ σ.sh.length) (hp : σ.it p = none) (hc0 : 0 ≤ ch) (hc1 : ch ≤ big) (hst : σ.strict = true) (hf : ¬ putFull σ key ch) (r : Tight σ) : Tight (putA σ key v ch p) := by
  have same := putM_same σ key ch
  have IM := putM_inv I key ch
  obtain ⟨s, hs, _⟩ := putM_end I h1 key ch
  have hl := takeS_less (key := key) IM hs
  have IT := IM.take (key := key) hs
  obtain ⟨t, ht, ht1, ht2⟩ := hl.own s hs
  have hpn := takeS_none IM (key := key) hs (makesS_none _ _ _ _ _ hp)
  have hshare : share (putA σ key v ch p) = share σ := by
    have := putA_pins σ key v ch p
    unfold share; rw [this.2.2.2.1, this.2.2.2.2]
  have rT : Tight (takeS (putM σ key ch) (shardOf σ.sh.length key) key) := hl.tight IM (takeS_same ..).room ((makesS_less ..).tight I same.room r)
  have hfit : plusS (usedS (putM σ key ch).it s) ch ≤ share σ := by
    have : ¬ plusS (usedS (putM σ key ch).it s) ch > share σ := fun hh => hf ⟨hst, by rw [shAt_of hs]; exact hh⟩
    omega
  intro j u hu
  rw [hshare]
  by_cases hj : j = shardOf σ.sh.length key
  · subst hj
    obtain ⟨h2, h3⟩ := addS_used (key := key) (v := v) (ch := ch) IT ht hpn hc0 hc1
    have hu' : (addS (takeS (putM σ key ch) (shardOf σ.sh.length key) key) (shardOf σ.sh.length key) key v ch p).sh[shardOf σ.sh.length key]? = some u := hu
    rw [h2] at hu'
    cases hu'
    have h4 : usedS (putA σ key v ch p).it ⟨t.ins ++ [(key, p)], t.all ++ [p], t.waits⟩ = plusS (usedS (takeS (putM σ key ch) (shardOf σ.sh.length key) key).it t) ch := h3
    rw [h4]
    have h6 := used_sub IM hs hl.keep ht1
    exact Int.le_trans (plusS_mono h6 (used_range IT t).1 (used_range IM s).2 hc0 hc1) hfit
  · obtain ⟨h2, h3⟩ := addS_oth IT hpn hj hu
    have h4 : usedS (putA σ key v ch p).it u = usedS (takeS (putM σ key ch) (shardOf σ.sh.length key) key).it u := h3
    rw [h4]
    have := rT j u h2
    rwa [show share (takeS (putM σ key ch) (shardOf σ.sh.length key) key) = share σ by rw [share_same (takeS_same ..), share_same same]] at this

end Go.V.Yteojmnnobmpdiaa
