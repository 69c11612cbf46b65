/- This text proves a part of the laws of seat YtdeihieblljfcaaDoor, under no condition: S1b S1t. -/
import Derived.Test.YtdeihieblljfcaaDoorSC
import Derived.Eval
import Derived.Test.YtdeihieblljfcaaDoorChecked
import Derived.Test.YtdeihieblljfcaaDoorSE
set_option linter.unusedVariables false
set_option maxRecDepth 100000
namespace Go.V.YtdeihieblljfcaaDoor
open Go Go.V
/- 15: sediment.sedimentref30.Parse (text) · seq 10:  · seq 12:  · loop 6: out, i -/
def pl15 : Plan := {
  blk := fun _ => none
  seq := fun | 10 => some ⟨[], [], []⟩ | 12 => some ⟨[], [], []⟩ | _ => none
  loop := fun | 6 => some ⟨[(5, .one .slc), (7, .one (.int .i64))], [], []⟩ | _ => none
  live := fun | 0 => some [0] | 1 => some [0, 11] | 2 => some [2, 3, 4] | 3 => some [0, 5] | 4 => some [5, 6] | 5 => some [5, 6, 7] | 6 => some [5, 6, 7, 17] | 7 => some [5, 6, 7] | 8 => some [5, 6, 7, 8] | 9 => some [5, 6, 7, 8, 34] | 10 => some [5, 6, 7, 8, 42] | 11 => some [2, 3, 4] | 12 => some [5, 6, 7] | 13 => some [2, 3, 4] | _ => none
  track := fun | _ => false
  draw := fun | 12 => .still 0 (.still 1 (.still 2 (.still 3 (.still 4 (.still 5 (.still 6 (.still 7 (.still 8 (.mem 9 (.mem 10 (.still 11 (.done)))))))))))) | _ => .done
  iter := fun | _ => none }
def vc15 (a0 : ByteArray) (h : Heap) (R : Slc → Int → Int → Heap → Prop) : Prop :=
  Br (Decidable.decide ((↑(ByteArray.size a0) : Int) > (131072 : Int))) (R (Slc.mk Option.none 0 0) (0 : Int) (2 : Int) h)
    (Call Go.Proofs.Tryd.prog 21 [VV.lf (Lf.str a0)] h [VT.one LT.slc] fun (s0 : Slc) (h1 : Heap) =>
      ∃ (I2 : Slc → Int → Heap → Nat → Prop),
        (∃ (b3 : Nat), I2 (Slc.mk Option.none 0 0) (0 : Int) h1 b3) ∧
          ∀ (s4 : Slc) (i5 : Int) (h6 : Heap) (b7 : Nat),
            I2 s4 i5 h6 b7 →
              Br (Decidable.decide (i5 < (↑(Slc.len s0) : Int)))
                (IxC s0 i5 1 fun (b8 b9 : Nat) =>
                  ∃ (t10 : ByteArray),
                    cellsAt h6 b8 b9 [Lf.str t10] ∧
                      Call Go.Proofs.Tryd.prog 22 [VV.lf (Lf.str t10)] h6 [VT.one LT.slc] fun (s11 : Slc) (h12 : Heap) =>
                        ∃ (I13 : Heap → Prop),
                          Br ((↑(Slc.len s11) : Int) == (0 : Int)) (∃ (b14 : Nat), b14 < b7 ∧ I2 s4 (IntKind.wrap IntKind.i64 (i5 + (1 : Int))) h12 b14)
                              (IxC s11 (0 : Int) 1 fun (b15 b16 : Nat) =>
                                ∃ (t17 : ByteArray),
                                  cellsAt h12 b15 b16 [Lf.str t17] ∧
                                    (0 : Int) ≤ (0 : Int) ∧
                                      (0 : Int) < (↑(ByteArray.size t17) : Int) ∧
                                        Br (bt t17 (0 : Int) == (35 : Int)) (∃ (b18 : Nat), b18 < b7 ∧ I2 s4 (IntKind.wrap IntKind.i64 (i5 + (1 : Int))) h12 b18) (I13 h12)) ∧
                            ∀ (h19 : Heap),
                              I13 h19 →
                                ∃ (I20 : Heap → Prop),
                                  (Call Go.Proofs.Tryd.prog 23 [VV.lf (Lf.slc s11)] h19 [VT.one LT.bool] fun (c21 : Bool) (h22 : Heap) =>
                                      Br (!c21) (R (Slc.mk Option.none 0 0) (IntKind.wrap IntKind.i64 (i5 + (1 : Int))) (300 : Int) h22)
                                        (Br ((↑(Slc.len s4) : Int) == (300 : Int))
                                          (R (Slc.mk Option.none 0 0) (IntKind.wrap IntKind.i64 (i5 + (1 : Int))) (300 : Int) h22) (I20 h22))) ∧
                                    ∀ (h23 : Heap),
                                      I20 h23 →
                                        IxC s11 (0 : Int) 1 fun (b24 b25 : Nat) =>
                                          ∃ (t26 : ByteArray),
                                            cellsAt h23 b24 b25 [Lf.str t26] ∧
                                              (0 : Int) ≤ (1 : Int) ∧
                                                (1 : Int) ≤ (↑(Slc.len s11) : Int) ∧
                                                  New 33
                                                    [Lf.int IntKind.i64 (IntKind.wrap IntKind.i64 (i5 + (1 : Int))), Lf.str t26,
                                                      Lf.slc (Slc.sub s11 1 1 (Slc.len s11) (Slc.cap s11))]
                                                    h23 fun (b27 : Nat) (h28 : Heap) =>
                                                    AppC 33 [Lf.int IntKind.i64 (0 : Int), Lf.str (ByteArray.mk #[]), Lf.slc (Slc.mk Option.none 0 0)]
                                                      3 48 s4 (Slc.mk (Option.some (b27, 0)) 1 1) h28 fun (s29 : Slc) (h30 : Heap) =>
                                                      ∃ (b31 : Nat), b31 < b7 ∧ I2 s29 (IntKind.wrap IntKind.i64 (i5 + (1 : Int))) h30 b31)
                (R s4 (0 : Int) (0 : Int) h6))
theorem eq15 (a0 : ByteArray) (h : Heap) (R : Slc → Int → Int → Heap → Prop) : vc15 a0 h R = vcFn Go.Proofs.Tryd.prog pl15 Go.Proofs.Tryd.f15 [.lf (.str a0)] h [.one .slc, .one (.int .i64), .one (.int .i64)] R := by kernel_rfl
theorem ok15 {a0 : ByteArray} {h : Heap} {R : Slc → Int → Int → Heap → Prop} (hv : vc15 a0 h R) : Call Go.Proofs.Tryd.prog 15 [.lf (.str a0)] h [.one .slc, .one (.int .i64), .one (.int .i64)] R := call_eq hng hmix Go.Proofs.Tryd.func15 (eq15 a0 h R) hv
/- 21: sediment.sedimentref30.Lines (text) · loop 4: out, from, i -/
def pl21 : Plan := {
  blk := fun _ => none
  seq := fun _ => none
  loop := fun | 4 => some ⟨[(3, .one .slc), (4, .one (.int .i64)), (5, .one (.int .i64))], [], []⟩ | _ => none
  live := fun | 0 => some [0] | 1 => some [0, 3] | 2 => some [0, 3, 4] | 3 => some [0, 3, 4, 5] | 4 => some [0, 3, 4, 5, 9] | 5 => some [0, 3, 4, 5] | 6 => some [0, 3, 4, 5, 15] | 7 => some [0, 3, 5] | 8 => some [0, 3, 4, 5] | 9 => some [0, 3, 4, 28] | 10 => some [3] | 11 => some [2] | _ => none
  track := fun | _ => false
  draw := fun | _ => .done
  iter := fun | _ => none }
def vc21 (a0 : ByteArray) (h : Heap) (R : Slc → Heap → Prop) : Prop :=
  ∃ (I0 : Slc → Int → Int → Heap → Nat → Prop),
    (∃ (b1 : Nat), I0 (Slc.mk Option.none 0 0) (0 : Int) (0 : Int) h b1) ∧
      ∀ (s2 : Slc) (i3 i4 : Int) (h5 : Heap) (b6 : Nat),
        I0 s2 i3 i4 h5 b6 →
          Br (Decidable.decide (i4 < (↑(ByteArray.size a0) : Int)))
            ((0 : Int) ≤ i4 ∧
              i4 < (↑(ByteArray.size a0) : Int) ∧
                Br (bt a0 i4 == (10 : Int))
                  ((0 : Int) ≤ i4 ∧
                    i4 ≤ (↑(ByteArray.size a0) : Int) ∧
                      (0 : Int) ≤ i3 ∧
                        i3 ≤ (↑(Int.toNat i4) : Int) ∧
                          New 9 [Lf.str (ByteArray.extract a0 (Int.toNat i3) (Int.toNat i4))] h5 fun (b7 : Nat) (h8 : Heap) =>
                            AppC 9 [Lf.str (ByteArray.mk #[])] 1 16 s2 (Slc.mk (Option.some (b7, 0)) 1 1) h8
                              fun (s9 : Slc) (h10 : Heap) =>
                              ∃ (b11 : Nat), b11 < b6 ∧ I0 s9 (IntKind.wrap IntKind.i64 (i4 + (1 : Int))) (IntKind.wrap IntKind.i64 (i4 + (1 : Int))) h10 b11)
                  (∃ (b12 : Nat), b12 < b6 ∧ I0 s2 i3 (IntKind.wrap IntKind.i64 (i4 + (1 : Int))) h5 b12))
            (Br (Decidable.decide (i3 < (↑(ByteArray.size a0) : Int)))
              ((0 : Int) ≤ i3 ∧
                i3 ≤ (↑(ByteArray.size a0) : Int) ∧
                  New 9 [Lf.str (ByteArray.extract a0 (Int.toNat i3) (ByteArray.size a0))] h5 fun (b13 : Nat) (h14 : Heap) =>
                    AppC 9 [Lf.str (ByteArray.mk #[])] 1 16 s2 (Slc.mk (Option.some (b13, 0)) 1 1) h14
                      fun (s15 : Slc) (h16 : Heap) => R s15 h16)
              (R s2 h5))
theorem eq21 (a0 : ByteArray) (h : Heap) (R : Slc → Heap → Prop) : vc21 a0 h R = vcFn Go.Proofs.Tryd.prog pl21 Go.Proofs.Tryd.f21 [.lf (.str a0)] h [.one .slc] R := by kernel_rfl
theorem ok21 {a0 : ByteArray} {h : Heap} {R : Slc → Heap → Prop} (hv : vc21 a0 h R) : Call Go.Proofs.Tryd.prog 21 [.lf (.str a0)] h [.one .slc] R := call_eq hng hmix Go.Proofs.Tryd.func21 (eq21 a0 h R) hv
/- 22: sediment.sedimentref30.Words (line) · seq 7:  · loop 4: out, from, i -/
def pl22 : Plan := {
  blk := fun _ => none
  seq := fun | 7 => some ⟨[], [], []⟩ | _ => none
  loop := fun | 4 => some ⟨[(3, .one .slc), (4, .one (.int .i64)), (5, .one (.int .i64))], [], []⟩ | _ => none
  live := fun | 0 => some [0] | 1 => some [0, 3] | 2 => some [0, 3, 4] | 3 => some [0, 3, 4, 5] | 4 => some [0, 3, 4, 5, 9] | 5 => some [0, 3, 4, 5] | 6 => some [0, 3, 4, 5, 21] | 7 => some [0, 3, 4, 5, 24] | 8 => some [0, 3, 5] | 9 => some [0, 3, 4, 5] | 10 => some [2] | _ => none
  track := fun | _ => false
  draw := fun | _ => .done
  iter := fun | _ => none }
def vc22 (a0 : ByteArray) (h : Heap) (R : Slc → Heap → Prop) : Prop :=
  ∃ (I0 : Slc → Int → Int → Heap → Nat → Prop),
    (∃ (b1 : Nat), I0 (Slc.mk Option.none 0 0) (0 : Int) (0 : Int) h b1) ∧
      ∀ (s2 : Slc) (i3 i4 : Int) (h5 : Heap) (b6 : Nat),
        I0 s2 i3 i4 h5 b6 →
          Br (Decidable.decide (i4 ≤ (↑(ByteArray.size a0) : Int)))
            (∃ (I7 : Heap → Prop),
              Br (Decidable.decide (i4 < (↑(ByteArray.size a0) : Int)))
                  ((0 : Int) ≤ i4 ∧
                    i4 < (↑(ByteArray.size a0) : Int) ∧ Br (bt a0 i4 != (32 : Int)) (∃ (b8 : Nat), b8 < b6 ∧ I0 s2 i3 (IntKind.wrap IntKind.i64 (i4 + (1 : Int))) h5 b8) (I7 h5))
                  (I7 h5) ∧
                ∀ (h9 : Heap),
                  I7 h9 →
                    Br (Decidable.decide (i4 > i3))
                      ((0 : Int) ≤ i4 ∧
                        i4 ≤ (↑(ByteArray.size a0) : Int) ∧
                          (0 : Int) ≤ i3 ∧
                            i3 ≤ (↑(Int.toNat i4) : Int) ∧
                              New 9 [Lf.str (ByteArray.extract a0 (Int.toNat i3) (Int.toNat i4))] h9 fun (b10 : Nat) (h11 : Heap) =>
                                AppC 9 [Lf.str (ByteArray.mk #[])] 1 16 s2 (Slc.mk (Option.some (b10, 0)) 1 1) h11
                                  fun (s12 : Slc) (h13 : Heap) =>
                                  ∃ (b14 : Nat), b14 < b6 ∧ I0 s12 (IntKind.wrap IntKind.i64 (i4 + (1 : Int))) (IntKind.wrap IntKind.i64 (i4 + (1 : Int))) h13 b14)
                      (∃ (b15 : Nat), b15 < b6 ∧ I0 s2 (IntKind.wrap IntKind.i64 (i4 + (1 : Int))) (IntKind.wrap IntKind.i64 (i4 + (1 : Int))) h9 b15))
            (R s2 h5)
theorem eq22 (a0 : ByteArray) (h : Heap) (R : Slc → Heap → Prop) : vc22 a0 h R = vcFn Go.Proofs.Tryd.prog pl22 Go.Proofs.Tryd.f22 [.lf (.str a0)] h [.one .slc] R := by kernel_rfl
theorem ok22 {a0 : ByteArray} {h : Heap} {R : Slc → Heap → Prop} (hv : vc22 a0 h R) : Call Go.Proofs.Tryd.prog 22 [.lf (.str a0)] h [.one .slc] R := call_eq hng hmix Go.Proofs.Tryd.func22 (eq22 a0 h R) hv
/- 23: sediment.sedimentref30.can (l) · seq 3: #23 · loop 5: i -/
def pl23 : Plan := {
  blk := fun _ => none
  seq := fun | 3 => some ⟨[(23, .one .bool)], [], []⟩ | _ => none
  loop := fun | 5 => some ⟨[(5, .one (.int .i64))], [], []⟩ | _ => none
  live := fun | 0 => some [0] | 1 => some [0, 3, 4] | 2 => some [0, 3, 23] | 3 => some [2] | 4 => some [0, 3, 5] | 5 => some [0, 3, 5, 27] | 6 => some [0, 3, 5] | 7 => some [0, 3, 5, 6] | 8 => some [0, 3, 5, 54] | 9 => some [2] | 10 => some [2] | _ => none
  track := fun | _ => false
  draw := fun | _ => .done
  iter := fun | _ => none }
def vc23 (a0 : Slc) (h : Heap) (R : Bool → Heap → Prop) : Prop :=
  IxC a0 (0 : Int) 1 fun (b0 b1 : Nat) =>
    ∃ (t2 : ByteArray),
      cellsAt h b0 b1 [Lf.str t2] ∧
        Call Go.Proofs.Tryd.prog 31 [VV.lf (Lf.str t2)] h [VT.one LT.str, VT.one LT.bool] fun (t3 : ByteArray) (c4 : Bool) (h5 : Heap) =>
          ∃ (I6 : Bool → Heap → Prop),
            Br (!c4) (I6 Bool.true h5) (I6 (IntKind.wrap IntKind.i64 ((↑(Slc.len a0) : Int) - (1 : Int)) != (↑(ByteArray.size t3) : Int)) h5) ∧
              ∀ (c7 : Bool) (h8 : Heap),
                I6 c7 h8 →
                  Br c7 (R Bool.false h8)
                    (∃ (I9 : Int → Heap → Nat → Prop),
                      (∃ (b10 : Nat), I9 (0 : Int) h8 b10) ∧
                        ∀ (i11 : Int) (h12 : Heap) (b13 : Nat),
                          I9 i11 h12 b13 →
                            Br (Decidable.decide (i11 < (↑(ByteArray.size t3) : Int)))
                              (IxC a0 (IntKind.wrap IntKind.i64 (i11 + (1 : Int))) 1 fun (b14 b15 : Nat) =>
                                ∃ (t16 : ByteArray),
                                  cellsAt h12 b14 b15 [Lf.str t16] ∧
                                    (0 : Int) ≤ i11 ∧
                                      i11 < (↑(ByteArray.size t3) : Int) ∧
                                        Br (bt t3 i11 == (68 : Int))
                                          (Call Go.Proofs.Tryd.prog 32 [VV.lf (Lf.str t16)] h12 [VT.one (LT.int IntKind.i64)] fun (i17 : Int) (h18 : Heap) =>
                                            Br (Decidable.decide (i17 < (0 : Int))) (R Bool.false h18)
                                              ((0 : Int) ≤ i11 ∧
                                                i11 < (↑(ByteArray.size t3) : Int) ∧
                                                  Br (bt t3 i11 == (78 : Int))
                                                    (Br (Decidable.decide ((↑(ByteArray.size t16) : Int) > (20 : Int))) (R Bool.false h18)
                                                      (∃ (b19 : Nat), b19 < b13 ∧ I9 (IntKind.wrap IntKind.i64 (i11 + (1 : Int))) h18 b19))
                                                    (∃ (b20 : Nat), b20 < b13 ∧ I9 (IntKind.wrap IntKind.i64 (i11 + (1 : Int))) h18 b20)))
                                          ((0 : Int) ≤ i11 ∧
                                            i11 < (↑(ByteArray.size t3) : Int) ∧
                                              Br (bt t3 i11 == (78 : Int))
                                                (Br (Decidable.decide ((↑(ByteArray.size t16) : Int) > (20 : Int))) (R Bool.false h12)
                                                  (∃ (b21 : Nat), b21 < b13 ∧ I9 (IntKind.wrap IntKind.i64 (i11 + (1 : Int))) h12 b21))
                                                (∃ (b22 : Nat), b22 < b13 ∧ I9 (IntKind.wrap IntKind.i64 (i11 + (1 : Int))) h12 b22)))
                              (R Bool.true h12))
theorem eq23 (a0 : Slc) (h : Heap) (R : Bool → Heap → Prop) : vc23 a0 h R = vcFn Go.Proofs.Tryd.prog pl23 Go.Proofs.Tryd.f23 [.lf (.slc a0)] h [.one .bool] R := by kernel_rfl
theorem ok23 {a0 : Slc} {h : Heap} {R : Bool → Heap → Prop} (hv : vc23 a0 h R) : Call Go.Proofs.Tryd.prog 23 [.lf (.slc a0)] h [.one .bool] R := call_eq hng hmix Go.Proofs.Tryd.func23 (eq23 a0 h R) hv
/- 31: sediment.sedimentref30.Shape (word) · seq 14: #5 · seq 20: #18 · seq 23: #24 · seq 28: #29 · seq 34: #32 -/
def pl31 : Plan := {
  blk := fun _ => none
  seq := fun | 14 => some ⟨[(5, .one .bool)], [], []⟩ | 20 => some ⟨[(18, .one .bool)], [], []⟩ | 23 => some ⟨[(24, .one .bool)], [], []⟩ | 28 => some ⟨[(29, .one .bool)], [], []⟩ | 34 => some ⟨[(32, .one .bool)], [], []⟩ | _ => none
  loop := fun _ => none
  live := fun | 0 => some [0] | 1 => some [4] | 2 => some [4, 5] | 3 => some [4, 5] | 4 => some [4, 5] | 5 => some [4, 5] | 6 => some [4, 5] | 7 => some [4, 5] | 8 => some [4, 5] | 9 => some [4, 5] | 10 => some [4, 5] | 11 => some [4, 5] | 12 => some [4, 5] | 13 => some [4, 5] | 14 => some [2, 3] | 15 => some [4, 18] | 16 => some [4, 18] | 17 => some [4, 18] | 18 => some [4, 18] | 19 => some [4, 18] | 20 => some [2, 3] | 21 => some [4, 24] | 22 => some [4, 24] | 23 => some [2, 3] | 24 => some [4, 27] | 25 => some [2, 3] | 26 => some [4, 29] | 27 => some [4, 29] | 28 => some [2, 3] | 29 => some [4, 32] | 30 => some [4, 32] | 31 => some [4, 32] | 32 => some [4, 32] | 33 => some [4, 32] | 34 => some [2, 3] | 35 => some [4, 38] | 36 => some [4, 38] | 37 => some [4, 38] | 38 => some [4, 38] | 39 => some [4, 38] | 40 => some [4, 38] | 41 => some [2, 3] | 42 => some [4, 45] | 43 => some [2, 3] | 44 => some [47] | 45 => some [2, 3] | 46 => some [2, 3] | _ => none
  track := fun | _ => false
  draw := fun | _ => .done
  iter := fun | _ => none }
def vc31 (a0 : ByteArray) (h : Heap) (R : ByteArray → Bool → Heap → Prop) : Prop :=
  ∃ (I0 : Bool → Heap → Prop),
    Br (strEq a0 (ByteArray.mk #[(119 : UInt8), (114 : UInt8), (105 : UInt8), (116 : UInt8), (101 : UInt8)]))
        (I0 (strEq a0 (ByteArray.mk #[(119 : UInt8), (114 : UInt8), (105 : UInt8), (116 : UInt8), (101 : UInt8)])) h)
        (Br (strEq a0 (ByteArray.mk #[(102 : UInt8), (111 : UInt8), (114 : UInt8), (103 : UInt8), (101 : UInt8), (116 : UInt8)]))
          (I0 (strEq a0 (ByteArray.mk #[(102 : UInt8), (111 : UInt8), (114 : UInt8), (103 : UInt8), (101 : UInt8), (116 : UInt8)])) h)
          (Br (strEq a0 (ByteArray.mk #[(104 : UInt8), (111 : UInt8), (108 : UInt8), (100 : UInt8)]))
            (I0 (strEq a0 (ByteArray.mk #[(104 : UInt8), (111 : UInt8), (108 : UInt8), (100 : UInt8)])) h)
            (Br (strEq a0 (ByteArray.mk #[(115 : UInt8), (116 : UInt8), (101 : UInt8), (112 : UInt8)]))
              (I0 (strEq a0 (ByteArray.mk #[(115 : UInt8), (116 : UInt8), (101 : UInt8), (112 : UInt8)])) h)
              (Br (strEq a0 (ByteArray.mk #[(108 : UInt8), (97 : UInt8), (115 : UInt8), (116 : UInt8)]))
                (I0 (strEq a0 (ByteArray.mk #[(108 : UInt8), (97 : UInt8), (115 : UInt8), (116 : UInt8)])) h)
                (Br (strEq a0 (ByteArray.mk #[(102 : UInt8), (97 : UInt8), (109 : UInt8), (105 : UInt8), (108 : UInt8), (105 : UInt8), (101 : UInt8), (115 : UInt8)]))
                  (I0 (strEq a0 (ByteArray.mk #[(102 : UInt8), (97 : UInt8), (109 : UInt8), (105 : UInt8), (108 : UInt8), (105 : UInt8), (101 : UInt8), (115 : UInt8)])) h)
                  (Br (strEq a0 (ByteArray.mk #[(98 : UInt8), (101 : UInt8), (103 : UInt8), (105 : UInt8), (110 : UInt8)]))
                    (I0 (strEq a0 (ByteArray.mk #[(98 : UInt8), (101 : UInt8), (103 : UInt8), (105 : UInt8), (110 : UInt8)])) h)
                    (Br (strEq a0 (ByteArray.mk #[(99 : UInt8), (111 : UInt8), (109 : UInt8), (109 : UInt8), (105 : UInt8), (116 : UInt8)]))
                      (I0 (strEq a0 (ByteArray.mk #[(99 : UInt8), (111 : UInt8), (109 : UInt8), (109 : UInt8), (105 : UInt8), (116 : UInt8)])) h)
                      (Br (strEq a0 (ByteArray.mk #[(97 : UInt8), (98 : UInt8), (111 : UInt8), (114 : UInt8), (116 : UInt8)]))
                        (I0 (strEq a0 (ByteArray.mk #[(97 : UInt8), (98 : UInt8), (111 : UInt8), (114 : UInt8), (116 : UInt8)])) h)
                        (Br (strEq a0 (ByteArray.mk #[(115 : UInt8), (97 : UInt8), (118 : UInt8), (101 : UInt8)]))
                          (I0 (strEq a0 (ByteArray.mk #[(115 : UInt8), (97 : UInt8), (118 : UInt8), (101 : UInt8)])) h)
                          (Br (strEq a0 (ByteArray.mk #[(99 : UInt8), (114 : UInt8), (97 : UInt8), (115 : UInt8), (104 : UInt8)]))
                            (I0 (strEq a0 (ByteArray.mk #[(99 : UInt8), (114 : UInt8), (97 : UInt8), (115 : UInt8), (104 : UInt8)])) h)
                            (I0 (strEq a0 (ByteArray.mk #[(99 : UInt8), (104 : UInt8), (101 : UInt8), (99 : UInt8), (107 : UInt8)])) h))))))))))) ∧
      ∀ (c1 : Bool) (h2 : Heap),
        I0 c1 h2 →
          Br c1 (R (ByteArray.mk #[]) Bool.true h2)
            (∃ (I3 : Bool → Heap → Prop),
              Br (strEq a0 (ByteArray.mk #[(111 : UInt8), (112 : UInt8), (101 : UInt8), (110 : UInt8)]))
                  (I3 (strEq a0 (ByteArray.mk #[(111 : UInt8), (112 : UInt8), (101 : UInt8), (110 : UInt8)])) h2)
                  (Br (strEq a0 (ByteArray.mk #[(100 : UInt8), (114 : UInt8), (111 : UInt8), (112 : UInt8)]))
                    (I3 (strEq a0 (ByteArray.mk #[(100 : UInt8), (114 : UInt8), (111 : UInt8), (112 : UInt8)])) h2)
                    (Br (strEq a0 (ByteArray.mk #[(102 : UInt8), (114 : UInt8), (101 : UInt8), (101 : UInt8)]))
                      (I3 (strEq a0 (ByteArray.mk #[(102 : UInt8), (114 : UInt8), (101 : UInt8), (101 : UInt8)])) h2)
                      (Br (strEq a0 (ByteArray.mk #[(102 : UInt8), (108 : UInt8), (117 : UInt8), (115 : UInt8), (104 : UInt8)]))
                        (I3 (strEq a0 (ByteArray.mk #[(102 : UInt8), (108 : UInt8), (117 : UInt8), (115 : UInt8), (104 : UInt8)])) h2)
                        (I3 (strEq a0 (ByteArray.mk #[(108 : UInt8), (111 : UInt8), (115 : UInt8), (101 : UInt8)])) h2)))) ∧
                ∀ (c4 : Bool) (h5 : Heap),
                  I3 c4 h5 →
                    Br c4 (R (ByteArray.mk #[(68 : UInt8)]) Bool.true h5)
                      (∃ (I6 : Bool → Heap → Prop),
                        Br (strEq a0 (ByteArray.mk #[(109 : UInt8), (97 : UInt8), (114 : UInt8), (107 : UInt8)]))
                            (I6 (strEq a0 (ByteArray.mk #[(109 : UInt8), (97 : UInt8), (114 : UInt8), (107 : UInt8)])) h5)
                            (I6 (strEq a0 (ByteArray.mk #[(115 : UInt8), (101 : UInt8), (101 : UInt8)])) h5) ∧
                          ∀ (c7 : Bool) (h8 : Heap),
                            I6 c7 h8 →
                              Br c7 (R (ByteArray.mk #[(78 : UInt8)]) Bool.true h8)
                                (Br (strEq a0 (ByteArray.mk #[(109 : UInt8), (97 : UInt8), (107 : UInt8), (101 : UInt8)])) (R (ByteArray.mk #[(78 : UInt8), (68 : UInt8)]) Bool.true h8)
                                  (∃ (I9 : Bool → Heap → Prop),
                                    Br (strEq a0 (ByteArray.mk #[(115 : UInt8), (99 : UInt8), (97 : UInt8), (110 : UInt8)]))
                                        (I9 (strEq a0 (ByteArray.mk #[(115 : UInt8), (99 : UInt8), (97 : UInt8), (110 : UInt8)])) h8)
                                        (I9 (strEq a0 (ByteArray.mk #[(98 : UInt8), (97 : UInt8), (99 : UInt8), (107 : UInt8)])) h8) ∧
                                      ∀ (c10 : Bool) (h11 : Heap),
                                        I9 c10 h11 →
                                          Br c10 (R (ByteArray.mk #[(68 : UInt8), (68 : UInt8)]) Bool.true h11)
                                            (∃ (I12 : Bool → Heap → Prop),
                                              Br (strEq a0 (ByteArray.mk #[(100 : UInt8), (101 : UInt8), (108 : UInt8)]))
                                                  (I12 (strEq a0 (ByteArray.mk #[(100 : UInt8), (101 : UInt8), (108 : UInt8)])) h11)
                                                  (Br (strEq a0 (ByteArray.mk #[(99 : UInt8), (117 : UInt8), (116 : UInt8)]))
                                                    (I12 (strEq a0 (ByteArray.mk #[(99 : UInt8), (117 : UInt8), (116 : UInt8)])) h11)
                                                    (Br (strEq a0 (ByteArray.mk #[(114 : UInt8), (101 : UInt8), (97 : UInt8), (100 : UInt8)]))
                                                      (I12 (strEq a0 (ByteArray.mk #[(114 : UInt8), (101 : UInt8), (97 : UInt8), (100 : UInt8)])) h11)
                                                      (Br (strEq a0 (ByteArray.mk #[(117 : UInt8), (110 : UInt8), (115 : UInt8), (101 : UInt8), (116 : UInt8)]))
                                                        (I12 (strEq a0 (ByteArray.mk #[(117 : UInt8), (110 : UInt8), (115 : UInt8), (101 : UInt8), (116 : UInt8)])) h11)
                                                        (I12 (strEq a0 (ByteArray.mk #[(111 : UInt8), (108 : UInt8), (100 : UInt8)])) h11)))) ∧
                                                ∀ (c13 : Bool) (h14 : Heap),
                                                  I12 c13 h14 →
                                                    Br c13 (R (ByteArray.mk #[(68 : UInt8), (78 : UInt8)]) Bool.true h14)
                                                      (Br (strEq a0 (ByteArray.mk #[(112 : UInt8), (117 : UInt8), (116 : UInt8)]))
                                                        (Br (strEq a0 (ByteArray.mk #[(112 : UInt8), (117 : UInt8), (116 : UInt8)]))
                                                          (R (ByteArray.mk #[(68 : UInt8), (78 : UInt8), (78 : UInt8)]) Bool.true h14)
                                                          (Br (strEq a0 (ByteArray.mk #[(103 : UInt8), (101 : UInt8), (116 : UInt8)]))
                                                            (R (ByteArray.mk #[(68 : UInt8), (78 : UInt8), (68 : UInt8)]) Bool.true h14)
                                                            (Br (strEq a0 (ByteArray.mk #[(116 : UInt8), (97 : UInt8), (107 : UInt8), (101 : UInt8)]))
                                                              (R (ByteArray.mk #[(68 : UInt8), (78 : UInt8), (78 : UInt8), (78 : UInt8), (78 : UInt8)]) Bool.true h14)
                                                              (R (ByteArray.mk #[]) Bool.false h14))))
                                                        (Br (strEq a0 (ByteArray.mk #[(114 : UInt8), (97 : UInt8), (110 : UInt8), (103 : UInt8), (101 : UInt8)]))
                                                          (Br (strEq a0 (ByteArray.mk #[(114 : UInt8), (97 : UInt8), (110 : UInt8), (103 : UInt8), (101 : UInt8)]))
                                                            (R (ByteArray.mk #[(68 : UInt8), (78 : UInt8), (78 : UInt8)]) Bool.true h14)
                                                            (Br (strEq a0 (ByteArray.mk #[(103 : UInt8), (101 : UInt8), (116 : UInt8)]))
                                                              (R (ByteArray.mk #[(68 : UInt8), (78 : UInt8), (68 : UInt8)]) Bool.true h14)
                                                              (Br (strEq a0 (ByteArray.mk #[(116 : UInt8), (97 : UInt8), (107 : UInt8), (101 : UInt8)]))
                                                                (R (ByteArray.mk #[(68 : UInt8), (78 : UInt8), (78 : UInt8), (78 : UInt8), (78 : UInt8)]) Bool.true h14)
                                                                (R (ByteArray.mk #[]) Bool.false h14))))
                                                          (Br (strEq a0 (ByteArray.mk #[(97 : UInt8), (100 : UInt8), (100 : UInt8)]))
                                                            (Br (strEq a0 (ByteArray.mk #[(97 : UInt8), (100 : UInt8), (100 : UInt8)]))
                                                              (R (ByteArray.mk #[(68 : UInt8), (78 : UInt8), (78 : UInt8)]) Bool.true h14)
                                                              (Br (strEq a0 (ByteArray.mk #[(103 : UInt8), (101 : UInt8), (116 : UInt8)]))
                                                                (R (ByteArray.mk #[(68 : UInt8), (78 : UInt8), (68 : UInt8)]) Bool.true h14)
                                                                (Br (strEq a0 (ByteArray.mk #[(116 : UInt8), (97 : UInt8), (107 : UInt8), (101 : UInt8)]))
                                                                  (R (ByteArray.mk #[(68 : UInt8), (78 : UInt8), (78 : UInt8), (78 : UInt8), (78 : UInt8)]) Bool.true h14)
                                                                  (R (ByteArray.mk #[]) Bool.false h14))))
                                                            (Br (strEq a0 (ByteArray.mk #[(99 : UInt8), (108 : UInt8), (101 : UInt8), (97 : UInt8), (114 : UInt8)]))
                                                              (Br (strEq a0 (ByteArray.mk #[(99 : UInt8), (108 : UInt8), (101 : UInt8), (97 : UInt8), (114 : UInt8)]))
                                                                (R (ByteArray.mk #[(68 : UInt8), (78 : UInt8), (78 : UInt8)]) Bool.true h14)
                                                                (Br (strEq a0 (ByteArray.mk #[(103 : UInt8), (101 : UInt8), (116 : UInt8)]))
                                                                  (R (ByteArray.mk #[(68 : UInt8), (78 : UInt8), (68 : UInt8)]) Bool.true h14)
                                                                  (Br (strEq a0 (ByteArray.mk #[(116 : UInt8), (97 : UInt8), (107 : UInt8), (101 : UInt8)]))
                                                                    (R (ByteArray.mk #[(68 : UInt8), (78 : UInt8), (78 : UInt8), (78 : UInt8), (78 : UInt8)]) Bool.true h14)
                                                                    (R (ByteArray.mk #[]) Bool.false h14))))
                                                              (Br
                                                                (strEq a0 (ByteArray.mk #[(99 : UInt8), (111 : UInt8), (109 : UInt8), (112 : UInt8), (97 : UInt8), (99 : UInt8), (116 : UInt8)]))
                                                                (Br
                                                                  (strEq a0 (ByteArray.mk #[(99 : UInt8), (111 : UInt8), (109 : UInt8), (112 : UInt8), (97 : UInt8), (99 : UInt8), (116 : UInt8)]))
                                                                  (R (ByteArray.mk #[(68 : UInt8), (78 : UInt8), (78 : UInt8)]) Bool.true h14)
                                                                  (Br (strEq a0 (ByteArray.mk #[(103 : UInt8), (101 : UInt8), (116 : UInt8)]))
                                                                    (R (ByteArray.mk #[(68 : UInt8), (78 : UInt8), (68 : UInt8)]) Bool.true h14)
                                                                    (Br (strEq a0 (ByteArray.mk #[(116 : UInt8), (97 : UInt8), (107 : UInt8), (101 : UInt8)]))
                                                                      (R (ByteArray.mk #[(68 : UInt8), (78 : UInt8), (78 : UInt8), (78 : UInt8), (78 : UInt8)]) Bool.true h14)
                                                                      (R (ByteArray.mk #[]) Bool.false h14))))
                                                                (Br (strEq a0 (ByteArray.mk #[(115 : UInt8), (101 : UInt8), (116 : UInt8)]))
                                                                  (R (ByteArray.mk #[(68 : UInt8), (78 : UInt8), (78 : UInt8)]) Bool.true h14)
                                                                  (Br (strEq a0 (ByteArray.mk #[(103 : UInt8), (101 : UInt8), (116 : UInt8)]))
                                                                    (R (ByteArray.mk #[(68 : UInt8), (78 : UInt8), (68 : UInt8)]) Bool.true h14)
                                                                    (Br (strEq a0 (ByteArray.mk #[(116 : UInt8), (97 : UInt8), (107 : UInt8), (101 : UInt8)]))
                                                                      (R (ByteArray.mk #[(68 : UInt8), (78 : UInt8), (78 : UInt8), (78 : UInt8), (78 : UInt8)]) Bool.true h14)
                                                                      (R (ByteArray.mk #[]) Bool.false h14))))))))))))))
theorem eq31 (a0 : ByteArray) (h : Heap) (R : ByteArray → Bool → Heap → Prop) : vc31 a0 h R = vcFn Go.Proofs.Tryd.prog pl31 Go.Proofs.Tryd.f31 [.lf (.str a0)] h [.one .str, .one .bool] R := by kernel_rfl
theorem ok31 {a0 : ByteArray} {h : Heap} {R : ByteArray → Bool → Heap → Prop} (hv : vc31 a0 h R) : Call Go.Proofs.Tryd.prog 31 [.lf (.str a0)] h [.one .str, .one .bool] R := call_eq hng hmix Go.Proofs.Tryd.func31 (eq31 a0 h R) hv
/- 32: sediment.sedimentref30.number (s) · seq 3: #12 · seq 9:  · loop 5: n, i -/
def pl32 : Plan := {
  blk := fun _ => none
  seq := fun | 3 => some ⟨[(12, .one .bool)], [], []⟩ | 9 => some ⟨[], [], []⟩ | _ => none
  loop := fun | 5 => some ⟨[(3, .one (.int .i64)), (4, .one (.int .i64))], [], []⟩ | _ => none
  live := fun | 0 => some [0] | 1 => some [0, 3] | 2 => some [0, 3, 12] | 3 => some [2] | 4 => some [0, 3, 4] | 5 => some [0, 3, 4, 16] | 6 => some [0, 3, 4] | 7 => some [0, 3, 4, 28] | 8 => some [2] | 9 => some [0, 3, 4] | 10 => some [2] | _ => none
  track := fun | _ => false
  draw := fun | _ => .done
  iter := fun | _ => none }
def vc32 (a0 : ByteArray) (h : Heap) (R : Int → Heap → Prop) : Prop :=
  ∃ (I0 : Bool → Heap → Prop),
    Br (Decidable.decide ((↑(ByteArray.size a0) : Int) < (1 : Int))) (I0 Bool.true h) (I0 (Decidable.decide ((↑(ByteArray.size a0) : Int) > (4 : Int))) h) ∧
      ∀ (c1 : Bool) (h2 : Heap),
        I0 c1 h2 →
          Br c1 (R (-1 : Int) h2)
            (∃ (I3 : Int → Int → Heap → Nat → Prop),
              (∃ (b4 : Nat), I3 (0 : Int) (0 : Int) h2 b4) ∧
                ∀ (i5 i6 : Int) (h7 : Heap) (b8 : Nat),
                  I3 i5 i6 h7 b8 →
                    Br (Decidable.decide (i6 < (↑(ByteArray.size a0) : Int)))
                      (∃ (I9 : Heap → Prop),
                        ((0 : Int) ≤ i6 ∧
                            i6 < (↑(ByteArray.size a0) : Int) ∧
                              Br (Decidable.decide (bt a0 i6 < (48 : Int))) (R (-1 : Int) h7)
                                ((0 : Int) ≤ i6 ∧ i6 < (↑(ByteArray.size a0) : Int) ∧ Br (Decidable.decide (bt a0 i6 > (57 : Int))) (R (-1 : Int) h7) (I9 h7))) ∧
                          ∀ (h10 : Heap),
                            I9 h10 →
                              (0 : Int) ≤ i6 ∧
                                i6 < (↑(ByteArray.size a0) : Int) ∧
                                  ∃ (b11 : Nat),
                                    b11 < b8 ∧
                                      I3
                                        (IntKind.wrap IntKind.i64
                                          (IntKind.wrap IntKind.i64 ((10 : Int) * i5) + IntKind.wrap IntKind.i64 (IntKind.wrap IntKind.u8 (bt a0 i6 - (48 : Int)))))
                                        (IntKind.wrap IntKind.i64 (i6 + (1 : Int))) h10 b11)
                      (R i5 h7))
theorem eq32 (a0 : ByteArray) (h : Heap) (R : Int → Heap → Prop) : vc32 a0 h R = vcFn Go.Proofs.Tryd.prog pl32 Go.Proofs.Tryd.f32 [.lf (.str a0)] h [.one (.int .i64)] R := by kernel_rfl
theorem ok32 {a0 : ByteArray} {h : Heap} {R : Int → Heap → Prop} (hv : vc32 a0 h R) : Call Go.Proofs.Tryd.prog 32 [.lf (.str a0)] h [.one (.int .i64)] R := call_eq hng hmix Go.Proofs.Tryd.func32 (eq32 a0 h R) hv
end Go.V.YtdeihieblljfcaaDoor
set_option linter.unusedVariables false
set_option maxRecDepth 100000
namespace Go.V.YtdeihieblljfcaaDoor
open Go Go.V
/- 45: strings.FieldsFunc () · seq 14: #5 · loop 4: #5, #6 · loop 16: #49 -/
def pl45 : Plan := {
  blk := fun _ => none
  seq := fun | 14 => some ⟨[(5, .one .slc)], [], []⟩ | _ => none
  loop := fun | 4 => some ⟨[(5, .one .slc), (6, .one (.int .i64))], [], []⟩ | 16 => some ⟨[(49, .one (.int .i64))], [], []⟩ | _ => none
  live := fun | 0 => some [0, 1] | 1 => some [0, 1, 5] | 2 => some [0, 1, 5, 6] | 3 => some [0, 1, 5, 6, 14] | 4 => some [0, 1, 5, 6, 14, 15, 16] | 5 => some [0, 1, 5, 6, 7, 8, 14] | 6 => some [0, 1, 5, 6, 7, 14, 21] | 7 => some [0, 1, 5, 6, 7, 14, 23] | 8 => some [0, 1, 5, 6, 14] | 9 => some [0, 1, 5, 6, 14] | 10 => some [0, 1, 5, 6, 7, 14, 33] | 11 => some [0, 1, 5, 6, 14] | 12 => some [0, 5, 6, 36] | 13 => some [0, 5] | 14 => some [0, 5, 9] | 15 => some [0, 9, 47, 48, 49] | 16 => some [0, 9, 47, 48, 49, 50] | 17 => some [0, 9, 10, 11, 47, 48, 49] | 18 => some [0, 9, 47, 48, 49] | 19 => some [0, 9, 47, 48, 49] | 20 => some [4] | _ => none
  track := fun | 11 => true | _ => false
  draw := fun | _ => .done
  iter := fun | 14 => some 9 | _ => none }
def vc45 (a0 : ByteArray) (a1 : Value) (h : Heap) (R : Slc → Heap → Prop) : Prop :=
  MkC 88 [Lf.int IntKind.i64 (0 : Int), Lf.int IntKind.i64 (0 : Int)] 2 16 (0 : Int) (32 : Int) h fun (s0 : Slc) (h1 : Heap) =>
    RngS h1 a0 fun (b2 : Nat) (h3 : Heap) =>
      ∃ (I4 : Slc → Int → Heap → Nat → Prop),
        (∃ (b5 : Nat), I4 s0 (-1 : Int) h3 b5) ∧
          ∀ (s6 : Slc) (i7 : Int) (h8 : Heap) (b9 : Nat),
            I4 s6 i7 h8 b9 →
              NextS h8 b2
                (fun (h10 : Heap) =>
                  ∃ (I11 : Slc → Heap → Prop),
                    Br (Decidable.decide (i7 ≥ (0 : Int)))
                        (New 88 [Lf.int IntKind.i64 i7, Lf.int IntKind.i64 (↑(ByteArray.size a0) : Int)] h10 fun (b12 : Nat) (h13 : Heap) =>
                          AppC 88 [Lf.int IntKind.i64 (0 : Int), Lf.int IntKind.i64 (0 : Int)] 2 16 s6
                            (Slc.mk (Option.some (b12, 0)) 1 1) h13 fun (s14 : Slc) (h15 : Heap) => I11 s14 h15)
                        (I11 s6 h10) ∧
                      ∀ (s16 : Slc) (h17 : Heap),
                        I11 s16 h17 →
                          MkC 9 [Lf.str (ByteArray.mk #[])] 1 16 (↑(Slc.len s16) : Int) (↑(Slc.len s16) : Int) h17
                            fun (s18 : Slc) (h19 : Heap) =>
                            ∃ (I20 : Int → Heap → Nat → Prop),
                              (∃ (b21 : Nat), I20 (0 : Int) h19 b21) ∧
                                ∀ (i22 : Int) (h23 : Heap) (b24 : Nat),
                                  I20 i22 h23 b24 →
                                    Br (Decidable.decide (i22 < (↑(Slc.len s16) : Int)))
                                      (IxC s16 i22 2 fun (b25 b26 : Nat) =>
                                        ∃ (i27 : Int),
                                          ∃ (i28 : Int),
                                            cellsAt h23 b25 b26 [Lf.int IntKind.i64 i27, Lf.int IntKind.i64 i28] ∧
                                              New 88 [Lf.int IntKind.i64 (0 : Int), Lf.int IntKind.i64 (0 : Int)] h23 fun (b29 : Nat) (h30 : Heap) =>
                                                Set b29 88 [Lf.int IntKind.i64 i27, Lf.int IntKind.i64 i28] h30 fun (h31 : Heap) =>
                                                  (0 : Int) ≤ i28 ∧
                                                    i28 ≤ (↑(ByteArray.size a0) : Int) ∧
                                                      (0 : Int) ≤ i27 ∧
                                                        i27 ≤ (↑(Int.toNat i28) : Int) ∧
                                                          IxC s18 i22 1 fun (b32 b33 : Nat) =>
                                                            StC h31 b32 b33 [Lf.str (ByteArray.extract a0 (Int.toNat i27) (Int.toNat i28))] fun (h34 : Heap) =>
                                                              keepB h31 h34 [b29] ∧ ∃ (b35 : Nat), b35 < b24 ∧ I20 (IntKind.wrap IntKind.i64 (i22 + (1 : Int))) h34 b35)
                                      (R s18 h23))
                fun (i36 i37 : Int) (h38 : Heap) =>
                CallV Go.Proofs.Tryd.prog a1 [VV.lf (Lf.int IntKind.i32 i37)] h38 [VT.one LT.bool] fun (c39 : Bool) (h40 : Heap) =>
                  Br c39
                    (Br (Decidable.decide (i7 ≥ (0 : Int)))
                      (New 88 [Lf.int IntKind.i64 i7, Lf.int IntKind.i64 i36] h40 fun (b41 : Nat) (h42 : Heap) =>
                        AppC 88 [Lf.int IntKind.i64 (0 : Int), Lf.int IntKind.i64 (0 : Int)] 2 16 s6
                          (Slc.mk (Option.some (b41, 0)) 1 1) h42 fun (s43 : Slc) (h44 : Heap) =>
                          ∃ (b45 : Nat), b45 < b9 ∧ I4 s43 (bitop IntKind.i64 BinOp.xor (if Bool.true = Bool.true then (-1 : Int) else IntKind.max IntKind.i64) i7) h44 b45)
                      (∃ (b46 : Nat), b46 < b9 ∧ I4 s6 i7 h40 b46))
                    (Br (Decidable.decide (i7 < (0 : Int))) (∃ (b47 : Nat), b47 < b9 ∧ I4 s6 i36 h40 b47) (∃ (b48 : Nat), b48 < b9 ∧ I4 s6 i7 h40 b48))
theorem eq45 (a0 : ByteArray) (a1 : Value) (h : Heap) (R : Slc → Heap → Prop) : vc45 a0 a1 h R = vcFn Go.Proofs.Tryd.prog pl45 Go.Proofs.Tryd.f45 [.lf (.str a0), .lf (.raw a1)] h [.one .slc] R := by kernel_rfl
theorem ok45 {a0 : ByteArray} {a1 : Value} {h : Heap} {R : Slc → Heap → Prop} (hv : vc45 a0 a1 h R) : Call Go.Proofs.Tryd.prog 45 [.lf (.str a0), .lf (.raw a1)] h [.one .slc] R := call_eq hng hmix Go.Proofs.Tryd.func45 (eq45 a0 a1 h R) hv
end Go.V.YtdeihieblljfcaaDoor
