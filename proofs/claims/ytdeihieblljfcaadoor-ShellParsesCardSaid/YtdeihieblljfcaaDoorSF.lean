/- This text proves a part of the laws of seat YtdeihieblljfcaaDoor, under no condition: E1c. -/
import Derived.Test.YtdeihieblljfcaaDoorSC
import Derived.Eval
import Derived.Test.YtdeihieblljfcaaDoorChecked
import Derived.Test.YtdeihieblljfcaaDoorSE
set_option linter.unusedVariables false
set_option maxRecDepth 100000
namespace Go.V.YtdeihieblljfcaaDoor
open Go Go.V
/- 27: strings.Repeat () · blk 1:  · seq 8:  · seq 10: #34 · seq 11:  · seq 20: #43 · seq 21: #49 · seq 23: #58 · seq 25: #67 · seq 27: #76 · seq 29: #85 · seq 35: #8 · loop 38:  -/
def pl27 : Plan := {
  blk := fun | 1 => some ⟨[], [], []⟩ | _ => none
  seq := fun | 8 => some ⟨[], [], []⟩ | 10 => some ⟨[(34, .one .bool)], [], []⟩ | 11 => some ⟨[], [], []⟩ | 20 => some ⟨[(43, .one .bool)], [], []⟩ | 21 => some ⟨[(49, .one .bool)], [], []⟩ | 23 => some ⟨[(58, .one .bool)], [], []⟩ | 25 => some ⟨[(67, .one .bool)], [], []⟩ | 27 => some ⟨[(76, .one .bool)], [], []⟩ | 29 => some ⟨[(85, .one .bool)], [], []⟩ | 35 => some ⟨[(8, .one (.int .i64))], [], []⟩ | _ => none
  loop := fun | 38 => some ⟨[], [], []⟩ | _ => none
  live := fun | 0 => some [0, 1] | 1 => some [0, 1, 11] | 2 => some [0, 1, 11, 12] | 3 => some [4] | 4 => some [0, 1, 14] | 5 => some [4] | 6 => some [0, 1, 18] | 7 => some [0, 1] | 8 => some [0, 5, 6] | 9 => some [0, 6, 34] | 10 => some [0, 6] | 11 => some [0, 7] | 12 => some [0, 7, 40] | 13 => some [4] | 14 => some [0, 7, 42] | 15 => some [0, 7, 42, 43] | 16 => some [0, 7, 42, 43] | 17 => some [0, 7, 42, 43] | 18 => some [0, 7, 42, 43] | 19 => some [0, 7, 43] | 20 => some [0, 7, 49] | 21 => some [4] | 22 => some [0, 7, 58] | 23 => some [4] | 24 => some [0, 7, 67] | 25 => some [4] | 26 => some [0, 7, 76] | 27 => some [4] | 28 => some [0, 7, 85] | 29 => some [4] | 30 => some [0, 7, 8] | 31 => some [0, 7, 8, 96] | 32 => some [0, 7, 8] | 33 => some [0, 7, 8, 104] | 34 => some [0, 7, 8] | 35 => some [0, 7, 8, 9] | 36 => some [0, 7, 8, 9] | 37 => some [7, 8, 9] | 38 => some [7, 8, 9, 113] | 39 => some [7, 8, 9, 10] | 40 => some [7, 8, 9] | 41 => some [4] | _ => none
  track := fun | _ => false
  draw := fun | _ => .done
  iter := fun | _ => none }
def vc27 (a0 : ByteArray) (a1 : Int) (h : Heap) (R : ByteArray → Heap → Prop) : Prop :=
  Br (a1 == (0 : Int)) (R (ByteArray.mk #[]) h)
    (Br (a1 == (1 : Int)) (R a0 h)
      (∃ (I0 : Heap → Prop),
        Br (Decidable.decide (a1 < (0 : Int))) False (I0 h) ∧
          ∀ (h1 : Heap),
            I0 h1 →
              Call Go.Proofs.Tryd.prog 37
                [VV.lf (Lf.int IntKind.u64 (IntKind.wrap IntKind.u64 (↑(ByteArray.size a0) : Int))), VV.lf (Lf.int IntKind.u64 (IntKind.wrap IntKind.u64 a1))] h1
                [VT.one (LT.int IntKind.u64), VT.one (LT.int IntKind.u64)] fun (i2 i3 : Int) (h4 : Heap) =>
                ∃ (I5 : Heap → Prop),
                  (∃ (I6 : Bool → Heap → Prop),
                      Br (Decidable.decide (i2 > (0 : Int))) (I6 Bool.true h4) (I6 (Decidable.decide (i3 > (9223372036854775807 : Int))) h4) ∧
                        ∀ (c7 : Bool) (h8 : Heap), I6 c7 h8 → Br c7 False (I5 h8)) ∧
                    ∀ (h9 : Heap),
                      I5 h9 →
                        Br ((↑(ByteArray.size a0) : Int) == (0 : Int)) (R (ByteArray.mk #[]) h9)
                          ((0 : Int) ≤ (0 : Int) ∧
                            (0 : Int) < (↑(ByteArray.size a0) : Int) ∧
                              ∃ (I10 : Heap → Prop),
                                (∃ (I11 : Bool → Heap → Prop),
                                    Br (bt a0 (0 : Int) == (32 : Int)) (I11 (bt a0 (0 : Int) == (32 : Int)) h9)
                                        (Br (bt a0 (0 : Int) == (45 : Int)) (I11 (bt a0 (0 : Int) == (45 : Int)) h9)
                                          (Br (bt a0 (0 : Int) == (48 : Int)) (I11 (bt a0 (0 : Int) == (48 : Int)) h9)
                                            (Br (bt a0 (0 : Int) == (61 : Int)) (I11 (bt a0 (0 : Int) == (61 : Int)) h9) (I11 (bt a0 (0 : Int) == (9 : Int)) h9)))) ∧
                                      ∀ (c12 : Bool) (h13 : Heap),
                                        I11 c12 h13 →
                                          Br c12
                                            (∃ (I14 : Bool → Heap → Prop),
                                              Br (Decidable.decide (IntKind.wrap IntKind.i64 i3 ≤ (128 : Int)))
                                                  (Call Go.Proofs.Tryd.prog 38
                                                    [VV.lf
                                                        (Lf.str
                                                          (ByteArray.mk
                                                            #[(32 : UInt8), (32 : UInt8), (32 : UInt8), (32 : UInt8), (32 : UInt8), (32 : UInt8), (32 : UInt8), (32 : UInt8), (32 : UInt8), (32 : UInt8),
                                                              (32 : UInt8), (32 : UInt8), (32 : UInt8), (32 : UInt8), (32 : UInt8), (32 : UInt8), (32 : UInt8), (32 : UInt8), (32 : UInt8), (32 : UInt8),
                                                              (32 : UInt8), (32 : UInt8), (32 : UInt8), (32 : UInt8), (32 : UInt8), (32 : UInt8), (32 : UInt8), (32 : UInt8), (32 : UInt8), (32 : UInt8),
                                                              (32 : UInt8), (32 : UInt8), (32 : UInt8), (32 : UInt8), (32 : UInt8), (32 : UInt8), (32 : UInt8), (32 : UInt8), (32 : UInt8), (32 : UInt8),
                                                              (32 : UInt8), (32 : UInt8), (32 : UInt8), (32 : UInt8), (32 : UInt8), (32 : UInt8), (32 : UInt8), (32 : UInt8), (32 : UInt8), (32 : UInt8),
                                                              (32 : UInt8), (32 : UInt8), (32 : UInt8), (32 : UInt8), (32 : UInt8), (32 : UInt8), (32 : UInt8), (32 : UInt8), (32 : UInt8), (32 : UInt8),
                                                              (32 : UInt8), (32 : UInt8), (32 : UInt8), (32 : UInt8), (32 : UInt8), (32 : UInt8), (32 : UInt8), (32 : UInt8), (32 : UInt8), (32 : UInt8),
                                                              (32 : UInt8), (32 : UInt8), (32 : UInt8), (32 : UInt8), (32 : UInt8), (32 : UInt8), (32 : UInt8), (32 : UInt8), (32 : UInt8), (32 : UInt8),
                                                              (32 : UInt8), (32 : UInt8), (32 : UInt8), (32 : UInt8), (32 : UInt8), (32 : UInt8), (32 : UInt8), (32 : UInt8), (32 : UInt8), (32 : UInt8),
                                                              (32 : UInt8), (32 : UInt8), (32 : UInt8), (32 : UInt8), (32 : UInt8), (32 : UInt8), (32 : UInt8), (32 : UInt8), (32 : UInt8), (32 : UInt8),
                                                              (32 : UInt8), (32 : UInt8), (32 : UInt8), (32 : UInt8), (32 : UInt8), (32 : UInt8), (32 : UInt8), (32 : UInt8), (32 : UInt8), (32 : UInt8),
                                                              (32 : UInt8), (32 : UInt8), (32 : UInt8), (32 : UInt8), (32 : UInt8), (32 : UInt8), (32 : UInt8), (32 : UInt8), (32 : UInt8), (32 : UInt8),
                                                              (32 : UInt8), (32 : UInt8), (32 : UInt8), (32 : UInt8), (32 : UInt8), (32 : UInt8), (32 : UInt8), (32 : UInt8)])),
                                                      VV.lf (Lf.str a0)]
                                                    h13 [VT.one LT.bool] fun (c15 : Bool) (h16 : Heap) => I14 c15 h16)
                                                  (I14 Bool.false h13) ∧
                                                ∀ (c17 : Bool) (h18 : Heap),
                                                  I14 c17 h18 →
                                                    Br c17
                                                      ((0 : Int) ≤ IntKind.wrap IntKind.i64 i3 ∧
                                                        IntKind.wrap IntKind.i64 i3 ≤ (↑128 : Int) ∧
                                                          R
                                                            (ByteArray.extract
                                                              (ByteArray.mk
                                                                #[(32 : UInt8), (32 : UInt8), (32 : UInt8), (32 : UInt8), (32 : UInt8), (32 : UInt8), (32 : UInt8), (32 : UInt8), (32 : UInt8),
                                                                  (32 : UInt8), (32 : UInt8), (32 : UInt8), (32 : UInt8), (32 : UInt8), (32 : UInt8), (32 : UInt8), (32 : UInt8), (32 : UInt8),
                                                                  (32 : UInt8), (32 : UInt8), (32 : UInt8), (32 : UInt8), (32 : UInt8), (32 : UInt8), (32 : UInt8), (32 : UInt8), (32 : UInt8),
                                                                  (32 : UInt8), (32 : UInt8), (32 : UInt8), (32 : UInt8), (32 : UInt8), (32 : UInt8), (32 : UInt8), (32 : UInt8), (32 : UInt8),
                                                                  (32 : UInt8), (32 : UInt8), (32 : UInt8), (32 : UInt8), (32 : UInt8), (32 : UInt8), (32 : UInt8), (32 : UInt8), (32 : UInt8),
                                                                  (32 : UInt8), (32 : UInt8), (32 : UInt8), (32 : UInt8), (32 : UInt8), (32 : UInt8), (32 : UInt8), (32 : UInt8), (32 : UInt8),
                                                                  (32 : UInt8), (32 : UInt8), (32 : UInt8), (32 : UInt8), (32 : UInt8), (32 : UInt8), (32 : UInt8), (32 : UInt8), (32 : UInt8),
                                                                  (32 : UInt8), (32 : UInt8), (32 : UInt8), (32 : UInt8), (32 : UInt8), (32 : UInt8), (32 : UInt8), (32 : UInt8), (32 : UInt8),
                                                                  (32 : UInt8), (32 : UInt8), (32 : UInt8), (32 : UInt8), (32 : UInt8), (32 : UInt8), (32 : UInt8), (32 : UInt8), (32 : UInt8),
                                                                  (32 : UInt8), (32 : UInt8), (32 : UInt8), (32 : UInt8), (32 : UInt8), (32 : UInt8), (32 : UInt8), (32 : UInt8), (32 : UInt8),
                                                                  (32 : UInt8), (32 : UInt8), (32 : UInt8), (32 : UInt8), (32 : UInt8), (32 : UInt8), (32 : UInt8), (32 : UInt8), (32 : UInt8),
                                                                  (32 : UInt8), (32 : UInt8), (32 : UInt8), (32 : UInt8), (32 : UInt8), (32 : UInt8), (32 : UInt8), (32 : UInt8), (32 : UInt8),
                                                                  (32 : UInt8), (32 : UInt8), (32 : UInt8), (32 : UInt8), (32 : UInt8), (32 : UInt8), (32 : UInt8), (32 : UInt8), (32 : UInt8),
                                                                  (32 : UInt8), (32 : UInt8), (32 : UInt8), (32 : UInt8), (32 : UInt8), (32 : UInt8), (32 : UInt8), (32 : UInt8), (32 : UInt8),
                                                                  (32 : UInt8), (32 : UInt8)])
                                                              0 (Int.toNat (IntKind.wrap IntKind.i64 i3)))
                                                            h18)
                                                      (∃ (I19 : Bool → Heap → Prop),
                                                        Br (Decidable.decide (IntKind.wrap IntKind.i64 i3 ≤ (128 : Int)))
                                                            (Call Go.Proofs.Tryd.prog 38
                                                              [VV.lf
                                                                  (Lf.str
                                                                    (ByteArray.mk
                                                                      #[(45 : UInt8), (45 : UInt8), (45 : UInt8), (45 : UInt8), (45 : UInt8), (45 : UInt8), (45 : UInt8), (45 : UInt8), (45 : UInt8),
                                                                        (45 : UInt8), (45 : UInt8), (45 : UInt8), (45 : UInt8), (45 : UInt8), (45 : UInt8), (45 : UInt8), (45 : UInt8), (45 : UInt8),
                                                                        (45 : UInt8), (45 : UInt8), (45 : UInt8), (45 : UInt8), (45 : UInt8), (45 : UInt8), (45 : UInt8), (45 : UInt8), (45 : UInt8),
                                                                        (45 : UInt8), (45 : UInt8), (45 : UInt8), (45 : UInt8), (45 : UInt8), (45 : UInt8), (45 : UInt8), (45 : UInt8), (45 : UInt8),
                                                                        (45 : UInt8), (45 : UInt8), (45 : UInt8), (45 : UInt8), (45 : UInt8), (45 : UInt8), (45 : UInt8), (45 : UInt8), (45 : UInt8),
                                                                        (45 : UInt8), (45 : UInt8), (45 : UInt8), (45 : UInt8), (45 : UInt8), (45 : UInt8), (45 : UInt8), (45 : UInt8), (45 : UInt8),
                                                                        (45 : UInt8), (45 : UInt8), (45 : UInt8), (45 : UInt8), (45 : UInt8), (45 : UInt8), (45 : UInt8), (45 : UInt8), (45 : UInt8),
                                                                        (45 : UInt8), (45 : UInt8), (45 : UInt8), (45 : UInt8), (45 : UInt8), (45 : UInt8), (45 : UInt8), (45 : UInt8), (45 : UInt8),
                                                                        (45 : UInt8), (45 : UInt8), (45 : UInt8), (45 : UInt8), (45 : UInt8), (45 : UInt8), (45 : UInt8), (45 : UInt8), (45 : UInt8),
                                                                        (45 : UInt8), (45 : UInt8), (45 : UInt8), (45 : UInt8), (45 : UInt8), (45 : UInt8), (45 : UInt8), (45 : UInt8), (45 : UInt8),
                                                                        (45 : UInt8), (45 : UInt8), (45 : UInt8), (45 : UInt8), (45 : UInt8), (45 : UInt8), (45 : UInt8), (45 : UInt8), (45 : UInt8),
                                                                        (45 : UInt8), (45 : UInt8), (45 : UInt8), (45 : UInt8), (45 : UInt8), (45 : UInt8), (45 : UInt8), (45 : UInt8), (45 : UInt8),
                                                                        (45 : UInt8), (45 : UInt8), (45 : UInt8), (45 : UInt8), (45 : UInt8), (45 : UInt8), (45 : UInt8), (45 : UInt8), (45 : UInt8),
                                                                        (45 : UInt8), (45 : UInt8), (45 : UInt8), (45 : UInt8), (45 : UInt8), (45 : UInt8), (45 : UInt8), (45 : UInt8), (45 : UInt8),
                                                                        (45 : UInt8), (45 : UInt8)])),
                                                                VV.lf (Lf.str a0)]
                                                              h18 [VT.one LT.bool] fun (c20 : Bool) (h21 : Heap) => I19 c20 h21)
                                                            (I19 Bool.false h18) ∧
                                                          ∀ (c22 : Bool) (h23 : Heap),
                                                            I19 c22 h23 →
                                                              Br c22
                                                                ((0 : Int) ≤ IntKind.wrap IntKind.i64 i3 ∧
                                                                  IntKind.wrap IntKind.i64 i3 ≤ (↑128 : Int) ∧
                                                                    R
                                                                      (ByteArray.extract
                                                                        (ByteArray.mk
                                                                          #[(45 : UInt8), (45 : UInt8), (45 : UInt8), (45 : UInt8), (45 : UInt8), (45 : UInt8), (45 : UInt8), (45 : UInt8), (45 : UInt8),
                                                                            (45 : UInt8), (45 : UInt8), (45 : UInt8), (45 : UInt8), (45 : UInt8), (45 : UInt8), (45 : UInt8), (45 : UInt8), (45 : UInt8),
                                                                            (45 : UInt8), (45 : UInt8), (45 : UInt8), (45 : UInt8), (45 : UInt8), (45 : UInt8), (45 : UInt8), (45 : UInt8), (45 : UInt8),
                                                                            (45 : UInt8), (45 : UInt8), (45 : UInt8), (45 : UInt8), (45 : UInt8), (45 : UInt8), (45 : UInt8), (45 : UInt8), (45 : UInt8),
                                                                            (45 : UInt8), (45 : UInt8), (45 : UInt8), (45 : UInt8), (45 : UInt8), (45 : UInt8), (45 : UInt8), (45 : UInt8), (45 : UInt8),
                                                                            (45 : UInt8), (45 : UInt8), (45 : UInt8), (45 : UInt8), (45 : UInt8), (45 : UInt8), (45 : UInt8), (45 : UInt8), (45 : UInt8),
                                                                            (45 : UInt8), (45 : UInt8), (45 : UInt8), (45 : UInt8), (45 : UInt8), (45 : UInt8), (45 : UInt8), (45 : UInt8), (45 : UInt8),
                                                                            (45 : UInt8), (45 : UInt8), (45 : UInt8), (45 : UInt8), (45 : UInt8), (45 : UInt8), (45 : UInt8), (45 : UInt8), (45 : UInt8),
                                                                            (45 : UInt8), (45 : UInt8), (45 : UInt8), (45 : UInt8), (45 : UInt8), (45 : UInt8), (45 : UInt8), (45 : UInt8), (45 : UInt8),
                                                                            (45 : UInt8), (45 : UInt8), (45 : UInt8), (45 : UInt8), (45 : UInt8), (45 : UInt8), (45 : UInt8), (45 : UInt8), (45 : UInt8),
                                                                            (45 : UInt8), (45 : UInt8), (45 : UInt8), (45 : UInt8), (45 : UInt8), (45 : UInt8), (45 : UInt8), (45 : UInt8), (45 : UInt8),
                                                                            (45 : UInt8), (45 : UInt8), (45 : UInt8), (45 : UInt8), (45 : UInt8), (45 : UInt8), (45 : UInt8), (45 : UInt8), (45 : UInt8),
                                                                            (45 : UInt8), (45 : UInt8), (45 : UInt8), (45 : UInt8), (45 : UInt8), (45 : UInt8), (45 : UInt8), (45 : UInt8), (45 : UInt8),
                                                                            (45 : UInt8), (45 : UInt8), (45 : UInt8), (45 : UInt8), (45 : UInt8), (45 : UInt8), (45 : UInt8), (45 : UInt8), (45 : UInt8),
                                                                            (45 : UInt8), (45 : UInt8)])
                                                                        0 (Int.toNat (IntKind.wrap IntKind.i64 i3)))
                                                                      h23)
                                                                (∃ (I24 : Bool → Heap → Prop),
                                                                  Br (Decidable.decide (IntKind.wrap IntKind.i64 i3 ≤ (64 : Int)))
                                                                      (Call Go.Proofs.Tryd.prog 38
                                                                        [VV.lf
                                                                            (Lf.str
                                                                              (ByteArray.mk
                                                                                #[(48 : UInt8), (48 : UInt8), (48 : UInt8), (48 : UInt8), (48 : UInt8), (48 : UInt8), (48 : UInt8), (48 : UInt8),
                                                                                  (48 : UInt8), (48 : UInt8), (48 : UInt8), (48 : UInt8), (48 : UInt8), (48 : UInt8), (48 : UInt8), (48 : UInt8),
                                                                                  (48 : UInt8), (48 : UInt8), (48 : UInt8), (48 : UInt8), (48 : UInt8), (48 : UInt8), (48 : UInt8), (48 : UInt8),
                                                                                  (48 : UInt8), (48 : UInt8), (48 : UInt8), (48 : UInt8), (48 : UInt8), (48 : UInt8), (48 : UInt8), (48 : UInt8),
                                                                                  (48 : UInt8), (48 : UInt8), (48 : UInt8), (48 : UInt8), (48 : UInt8), (48 : UInt8), (48 : UInt8), (48 : UInt8),
                                                                                  (48 : UInt8), (48 : UInt8), (48 : UInt8), (48 : UInt8), (48 : UInt8), (48 : UInt8), (48 : UInt8), (48 : UInt8),
                                                                                  (48 : UInt8), (48 : UInt8), (48 : UInt8), (48 : UInt8), (48 : UInt8), (48 : UInt8), (48 : UInt8), (48 : UInt8),
                                                                                  (48 : UInt8), (48 : UInt8), (48 : UInt8), (48 : UInt8), (48 : UInt8), (48 : UInt8), (48 : UInt8), (48 : UInt8)])),
                                                                          VV.lf (Lf.str a0)]
                                                                        h23 [VT.one LT.bool] fun (c25 : Bool) (h26 : Heap) => I24 c25 h26)
                                                                      (I24 Bool.false h23) ∧
                                                                    ∀ (c27 : Bool) (h28 : Heap),
                                                                      I24 c27 h28 →
                                                                        Br c27
                                                                          ((0 : Int) ≤ IntKind.wrap IntKind.i64 i3 ∧
                                                                            IntKind.wrap IntKind.i64 i3 ≤ (↑64 : Int) ∧
                                                                              R
                                                                                (ByteArray.extract
                                                                                  (ByteArray.mk
                                                                                    #[(48 : UInt8), (48 : UInt8), (48 : UInt8), (48 : UInt8), (48 : UInt8), (48 : UInt8), (48 : UInt8), (48 : UInt8),
                                                                                      (48 : UInt8), (48 : UInt8), (48 : UInt8), (48 : UInt8), (48 : UInt8), (48 : UInt8), (48 : UInt8), (48 : UInt8),
                                                                                      (48 : UInt8), (48 : UInt8), (48 : UInt8), (48 : UInt8), (48 : UInt8), (48 : UInt8), (48 : UInt8), (48 : UInt8),
                                                                                      (48 : UInt8), (48 : UInt8), (48 : UInt8), (48 : UInt8), (48 : UInt8), (48 : UInt8), (48 : UInt8), (48 : UInt8),
                                                                                      (48 : UInt8), (48 : UInt8), (48 : UInt8), (48 : UInt8), (48 : UInt8), (48 : UInt8), (48 : UInt8), (48 : UInt8),
                                                                                      (48 : UInt8), (48 : UInt8), (48 : UInt8), (48 : UInt8), (48 : UInt8), (48 : UInt8), (48 : UInt8), (48 : UInt8),
                                                                                      (48 : UInt8), (48 : UInt8), (48 : UInt8), (48 : UInt8), (48 : UInt8), (48 : UInt8), (48 : UInt8), (48 : UInt8),
                                                                                      (48 : UInt8), (48 : UInt8), (48 : UInt8), (48 : UInt8), (48 : UInt8), (48 : UInt8), (48 : UInt8), (48 : UInt8)])
                                                                                  0 (Int.toNat (IntKind.wrap IntKind.i64 i3)))
                                                                                h28)
                                                                          (∃ (I29 : Bool → Heap → Prop),
                                                                            Br (Decidable.decide (IntKind.wrap IntKind.i64 i3 ≤ (128 : Int)))
                                                                                (Call Go.Proofs.Tryd.prog 38
                                                                                  [VV.lf
                                                                                      (Lf.str
                                                                                        (ByteArray.mk
                                                                                          #[(61 : UInt8), (61 : UInt8), (61 : UInt8), (61 : UInt8), (61 : UInt8), (61 : UInt8), (61 : UInt8),
                                                                                            (61 : UInt8), (61 : UInt8), (61 : UInt8), (61 : UInt8), (61 : UInt8), (61 : UInt8), (61 : UInt8),
                                                                                            (61 : UInt8), (61 : UInt8), (61 : UInt8), (61 : UInt8), (61 : UInt8), (61 : UInt8), (61 : UInt8),
                                                                                            (61 : UInt8), (61 : UInt8), (61 : UInt8), (61 : UInt8), (61 : UInt8), (61 : UInt8), (61 : UInt8),
                                                                                            (61 : UInt8), (61 : UInt8), (61 : UInt8), (61 : UInt8), (61 : UInt8), (61 : UInt8), (61 : UInt8),
                                                                                            (61 : UInt8), (61 : UInt8), (61 : UInt8), (61 : UInt8), (61 : UInt8), (61 : UInt8), (61 : UInt8),
                                                                                            (61 : UInt8), (61 : UInt8), (61 : UInt8), (61 : UInt8), (61 : UInt8), (61 : UInt8), (61 : UInt8),
                                                                                            (61 : UInt8), (61 : UInt8), (61 : UInt8), (61 : UInt8), (61 : UInt8), (61 : UInt8), (61 : UInt8),
                                                                                            (61 : UInt8), (61 : UInt8), (61 : UInt8), (61 : UInt8), (61 : UInt8), (61 : UInt8), (61 : UInt8),
                                                                                            (61 : UInt8), (61 : UInt8), (61 : UInt8), (61 : UInt8), (61 : UInt8), (61 : UInt8), (61 : UInt8),
                                                                                            (61 : UInt8), (61 : UInt8), (61 : UInt8), (61 : UInt8), (61 : UInt8), (61 : UInt8), (61 : UInt8),
                                                                                            (61 : UInt8), (61 : UInt8), (61 : UInt8), (61 : UInt8), (61 : UInt8), (61 : UInt8), (61 : UInt8),
                                                                                            (61 : UInt8), (61 : UInt8), (61 : UInt8), (61 : UInt8), (61 : UInt8), (61 : UInt8), (61 : UInt8),
                                                                                            (61 : UInt8), (61 : UInt8), (61 : UInt8), (61 : UInt8), (61 : UInt8), (61 : UInt8), (61 : UInt8),
                                                                                            (61 : UInt8), (61 : UInt8), (61 : UInt8), (61 : UInt8), (61 : UInt8), (61 : UInt8), (61 : UInt8),
                                                                                            (61 : UInt8), (61 : UInt8), (61 : UInt8), (61 : UInt8), (61 : UInt8), (61 : UInt8), (61 : UInt8),
                                                                                            (61 : UInt8), (61 : UInt8), (61 : UInt8), (61 : UInt8), (61 : UInt8), (61 : UInt8), (61 : UInt8),
                                                                                            (61 : UInt8), (61 : UInt8), (61 : UInt8), (61 : UInt8), (61 : UInt8), (61 : UInt8), (61 : UInt8),
                                                                                            (61 : UInt8), (61 : UInt8)])),
                                                                                    VV.lf (Lf.str a0)]
                                                                                  h28 [VT.one LT.bool] fun (c30 : Bool) (h31 : Heap) => I29 c30 h31)
                                                                                (I29 Bool.false h28) ∧
                                                                              ∀ (c32 : Bool) (h33 : Heap),
                                                                                I29 c32 h33 →
                                                                                  Br c32
                                                                                    ((0 : Int) ≤ IntKind.wrap IntKind.i64 i3 ∧
                                                                                      IntKind.wrap IntKind.i64 i3 ≤ (↑128 : Int) ∧
                                                                                        R
                                                                                          (ByteArray.extract
                                                                                            (ByteArray.mk
                                                                                              #[(61 : UInt8), (61 : UInt8), (61 : UInt8), (61 : UInt8), (61 : UInt8), (61 : UInt8), (61 : UInt8),
                                                                                                (61 : UInt8), (61 : UInt8), (61 : UInt8), (61 : UInt8), (61 : UInt8), (61 : UInt8), (61 : UInt8),
                                                                                                (61 : UInt8), (61 : UInt8), (61 : UInt8), (61 : UInt8), (61 : UInt8), (61 : UInt8), (61 : UInt8),
                                                                                                (61 : UInt8), (61 : UInt8), (61 : UInt8), (61 : UInt8), (61 : UInt8), (61 : UInt8), (61 : UInt8),
                                                                                                (61 : UInt8), (61 : UInt8), (61 : UInt8), (61 : UInt8), (61 : UInt8), (61 : UInt8), (61 : UInt8),
                                                                                                (61 : UInt8), (61 : UInt8), (61 : UInt8), (61 : UInt8), (61 : UInt8), (61 : UInt8), (61 : UInt8),
                                                                                                (61 : UInt8), (61 : UInt8), (61 : UInt8), (61 : UInt8), (61 : UInt8), (61 : UInt8), (61 : UInt8),
                                                                                                (61 : UInt8), (61 : UInt8), (61 : UInt8), (61 : UInt8), (61 : UInt8), (61 : UInt8), (61 : UInt8),
                                                                                                (61 : UInt8), (61 : UInt8), (61 : UInt8), (61 : UInt8), (61 : UInt8), (61 : UInt8), (61 : UInt8),
                                                                                                (61 : UInt8), (61 : UInt8), (61 : UInt8), (61 : UInt8), (61 : UInt8), (61 : UInt8), (61 : UInt8),
                                                                                                (61 : UInt8), (61 : UInt8), (61 : UInt8), (61 : UInt8), (61 : UInt8), (61 : UInt8), (61 : UInt8),
                                                                                                (61 : UInt8), (61 : UInt8), (61 : UInt8), (61 : UInt8), (61 : UInt8), (61 : UInt8), (61 : UInt8),
                                                                                                (61 : UInt8), (61 : UInt8), (61 : UInt8), (61 : UInt8), (61 : UInt8), (61 : UInt8), (61 : UInt8),
                                                                                                (61 : UInt8), (61 : UInt8), (61 : UInt8), (61 : UInt8), (61 : UInt8), (61 : UInt8), (61 : UInt8),
                                                                                                (61 : UInt8), (61 : UInt8), (61 : UInt8), (61 : UInt8), (61 : UInt8), (61 : UInt8), (61 : UInt8),
                                                                                                (61 : UInt8), (61 : UInt8), (61 : UInt8), (61 : UInt8), (61 : UInt8), (61 : UInt8), (61 : UInt8),
                                                                                                (61 : UInt8), (61 : UInt8), (61 : UInt8), (61 : UInt8), (61 : UInt8), (61 : UInt8), (61 : UInt8),
                                                                                                (61 : UInt8), (61 : UInt8), (61 : UInt8), (61 : UInt8), (61 : UInt8), (61 : UInt8), (61 : UInt8),
                                                                                                (61 : UInt8), (61 : UInt8)])
                                                                                            0 (Int.toNat (IntKind.wrap IntKind.i64 i3)))
                                                                                          h33)
                                                                                    (∃ (I34 : Bool → Heap → Prop),
                                                                                      Br (Decidable.decide (IntKind.wrap IntKind.i64 i3 ≤ (64 : Int)))
                                                                                          (Call Go.Proofs.Tryd.prog 38
                                                                                            [VV.lf
                                                                                                (Lf.str
                                                                                                  (ByteArray.mk
                                                                                                    #[(9 : UInt8), (9 : UInt8), (9 : UInt8), (9 : UInt8), (9 : UInt8), (9 : UInt8), (9 : UInt8),
                                                                                                      (9 : UInt8), (9 : UInt8), (9 : UInt8), (9 : UInt8), (9 : UInt8), (9 : UInt8), (9 : UInt8),
                                                                                                      (9 : UInt8), (9 : UInt8), (9 : UInt8), (9 : UInt8), (9 : UInt8), (9 : UInt8), (9 : UInt8),
                                                                                                      (9 : UInt8), (9 : UInt8), (9 : UInt8), (9 : UInt8), (9 : UInt8), (9 : UInt8), (9 : UInt8),
                                                                                                      (9 : UInt8), (9 : UInt8), (9 : UInt8), (9 : UInt8), (9 : UInt8), (9 : UInt8), (9 : UInt8),
                                                                                                      (9 : UInt8), (9 : UInt8), (9 : UInt8), (9 : UInt8), (9 : UInt8), (9 : UInt8), (9 : UInt8),
                                                                                                      (9 : UInt8), (9 : UInt8), (9 : UInt8), (9 : UInt8), (9 : UInt8), (9 : UInt8), (9 : UInt8),
                                                                                                      (9 : UInt8), (9 : UInt8), (9 : UInt8), (9 : UInt8), (9 : UInt8), (9 : UInt8), (9 : UInt8),
                                                                                                      (9 : UInt8), (9 : UInt8), (9 : UInt8), (9 : UInt8), (9 : UInt8), (9 : UInt8), (9 : UInt8),
                                                                                                      (9 : UInt8)])),
                                                                                              VV.lf (Lf.str a0)]
                                                                                            h33 [VT.one LT.bool] fun (c35 : Bool) (h36 : Heap) => I34 c35 h36)
                                                                                          (I34 Bool.false h33) ∧
                                                                                        ∀ (c37 : Bool) (h38 : Heap),
                                                                                          I34 c37 h38 →
                                                                                            Br c37
                                                                                              ((0 : Int) ≤ IntKind.wrap IntKind.i64 i3 ∧
                                                                                                IntKind.wrap IntKind.i64 i3 ≤ (↑64 : Int) ∧
                                                                                                  R
                                                                                                    (ByteArray.extract
                                                                                                      (ByteArray.mk
                                                                                                        #[(9 : UInt8), (9 : UInt8), (9 : UInt8), (9 : UInt8), (9 : UInt8), (9 : UInt8), (9 : UInt8),
                                                                                                          (9 : UInt8), (9 : UInt8), (9 : UInt8), (9 : UInt8), (9 : UInt8), (9 : UInt8), (9 : UInt8),
                                                                                                          (9 : UInt8), (9 : UInt8), (9 : UInt8), (9 : UInt8), (9 : UInt8), (9 : UInt8), (9 : UInt8),
                                                                                                          (9 : UInt8), (9 : UInt8), (9 : UInt8), (9 : UInt8), (9 : UInt8), (9 : UInt8), (9 : UInt8),
                                                                                                          (9 : UInt8), (9 : UInt8), (9 : UInt8), (9 : UInt8), (9 : UInt8), (9 : UInt8), (9 : UInt8),
                                                                                                          (9 : UInt8), (9 : UInt8), (9 : UInt8), (9 : UInt8), (9 : UInt8), (9 : UInt8), (9 : UInt8),
                                                                                                          (9 : UInt8), (9 : UInt8), (9 : UInt8), (9 : UInt8), (9 : UInt8), (9 : UInt8), (9 : UInt8),
                                                                                                          (9 : UInt8), (9 : UInt8), (9 : UInt8), (9 : UInt8), (9 : UInt8), (9 : UInt8), (9 : UInt8),
                                                                                                          (9 : UInt8), (9 : UInt8), (9 : UInt8), (9 : UInt8), (9 : UInt8), (9 : UInt8), (9 : UInt8),
                                                                                                          (9 : UInt8)])
                                                                                                      0 (Int.toNat (IntKind.wrap IntKind.i64 i3)))
                                                                                                    h38)
                                                                                              (I10 h38))))))
                                            (I10 h13)) ∧
                                  ∀ (h39 : Heap),
                                    I10 h39 →
                                      ∃ (I40 : Int → Heap → Prop),
                                        Br (Decidable.decide (IntKind.wrap IntKind.i64 i3 > (8192 : Int)))
                                            (((↑(ByteArray.size a0) : Int) = (0 : Int) → False) ∧
                                              Br
                                                (IntKind.wrap IntKind.i64 (IntKind.wrap IntKind.i64 (Int.tdiv (8192 : Int) (↑(ByteArray.size a0) : Int)) * (↑(ByteArray.size a0) : Int)) ==
                                                  (0 : Int))
                                                (I40 (↑(ByteArray.size a0) : Int) h39)
                                                (I40 (IntKind.wrap IntKind.i64 (IntKind.wrap IntKind.i64 (Int.tdiv (8192 : Int) (↑(ByteArray.size a0) : Int)) * (↑(ByteArray.size a0) : Int)))
                                                  h39))
                                            (I40 (IntKind.wrap IntKind.i64 i3) h39) ∧
                                          ∀ (i41 : Int) (h42 : Heap),
                                            I40 i41 h42 →
                                              New 59 [Lf.ptr Option.none, Lf.slc (Slc.mk Option.none 0 0)] h42 fun (b43 : Nat) (h44 : Heap) =>
                                                Call Go.Proofs.Tryd.prog 39
                                                  [VV.lf (Lf.ptr (Option.some (b43, 0))), VV.lf (Lf.int IntKind.i64 (IntKind.wrap IntKind.i64 i3))] h44 []
                                                  fun (h45 : Heap) =>
                                                  Call Go.Proofs.Tryd.prog 40 [VV.lf (Lf.ptr (Option.some (b43, 0))), VV.lf (Lf.str a0)] h45
                                                    [VT.one (LT.int IntKind.i64), VT.one LT.raw] fun (i46 : Int) (x47 : Value) (h48 : Heap) =>
                                                    ∃ (I49 : Heap → Nat → Prop),
                                                      (∃ (b50 : Nat), I49 h48 b50) ∧
                                                        ∀ (h51 : Heap) (b52 : Nat),
                                                          I49 h51 b52 →
                                                            Call Go.Proofs.Tryd.prog 41 [VV.lf (Lf.ptr (Option.some (b43, 0)))] h51
                                                              [VT.one (LT.int IntKind.i64)] fun (i53 : Int) (h54 : Heap) =>
                                                              Br (Decidable.decide (i53 < IntKind.wrap IntKind.i64 i3))
                                                                (Call Go.Proofs.Tryd.prog 41 [VV.lf (Lf.ptr (Option.some (b43, 0)))] h54
                                                                  [VT.one (LT.int IntKind.i64)] fun (i55 : Int) (h56 : Heap) =>
                                                                  Call Go.Proofs.Tryd.prog 41 [VV.lf (Lf.ptr (Option.some (b43, 0)))] h56
                                                                    [VT.one (LT.int IntKind.i64)] fun (i57 : Int) (h58 : Heap) => False)
                                                                (Call Go.Proofs.Tryd.prog 42 [VV.lf (Lf.ptr (Option.some (b43, 0)))] h54 [VT.one LT.str]
                                                                  fun (t59 : ByteArray) (h60 : Heap) => R t59 h60))))
theorem eq27 (a0 : ByteArray) (a1 : Int) (h : Heap) (R : ByteArray → Heap → Prop) : vc27 a0 a1 h R = vcFn Go.Proofs.Tryd.prog pl27 Go.Proofs.Tryd.f27 [.lf (.str a0), .lf (.int .i64 a1)] h [.one .str] R := by kernel_rfl
theorem ok27 {a0 : ByteArray} {a1 : Int} {h : Heap} {R : ByteArray → Heap → Prop} (hv : vc27 a0 a1 h R) : Call Go.Proofs.Tryd.prog 27 [.lf (.str a0), .lf (.int .i64 a1)] h [.one .str] R := call_eq hng hmix Go.Proofs.Tryd.func27 (eq27 a0 a1 h R) hv
/- 37: math.bits.Mul (x, y) -/
def pl37 : Plan := {
  blk := fun _ => none
  seq := fun _ => none
  loop := fun _ => none
  live := fun | 0 => some [0, 1] | 1 => some [6, 7] | 2 => some [4, 5] | 3 => some [8, 9] | 4 => some [4, 5] | _ => none
  track := fun | _ => false
  draw := fun | _ => .done
  iter := fun | _ => none }
def vc37 (a0 : Int) (a1 : Int) (h : Heap) (R : Int → Int → Heap → Prop) : Prop :=
  Call Go.Proofs.Tryd.prog 61 [VV.lf (Lf.int IntKind.u64 a0), VV.lf (Lf.int IntKind.u64 a1)] h
    [VT.one (LT.int IntKind.u64), VT.one (LT.int IntKind.u64)] fun (i0 i1 : Int) (h2 : Heap) => R i0 i1 h2
theorem eq37 (a0 : Int) (a1 : Int) (h : Heap) (R : Int → Int → Heap → Prop) : vc37 a0 a1 h R = vcFn Go.Proofs.Tryd.prog pl37 Go.Proofs.Tryd.f37 [.lf (.int .u64 a0), .lf (.int .u64 a1)] h [.one (.int .u64), .one (.int .u64)] R := by kernel_rfl
theorem ok37 {a0 : Int} {a1 : Int} {h : Heap} {R : Int → Int → Heap → Prop} (hv : vc37 a0 a1 h R) : Call Go.Proofs.Tryd.prog 37 [.lf (.int .u64 a0), .lf (.int .u64 a1)] h [.one (.int .u64), .one (.int .u64)] R := call_eq hng hmix Go.Proofs.Tryd.func37 (eq37 a0 a1 h R) hv
/- 61: math.bits.Mul64 (x, y) -/
def pl61 : Plan := {
  blk := fun _ => none
  seq := fun _ => none
  loop := fun _ => none
  live := fun | 0 => some [0, 1] | 1 => some [0, 1, 6] | 2 => some [0, 1, 6, 7] | 3 => some [0, 1, 6, 7, 8] | 4 => some [0, 1, 6, 7, 8, 9] | 5 => some [0, 1, 6, 7, 8, 9, 10] | 6 => some [0, 1, 6, 7, 9, 11] | 7 => some [0, 1, 6, 7, 9, 11, 12] | 8 => some [0, 1, 6, 7, 9, 12, 13] | 9 => some [0, 1, 7, 9, 12, 13] | 10 => some [0, 1, 4] | 11 => some [4, 5] | _ => none
  track := fun | _ => false
  draw := fun | _ => .done
  iter := fun | _ => none }
def vc61 (a0 : Int) (a1 : Int) (h : Heap) (R : Int → Int → Heap → Prop) : Prop :=
  (0 : Int) ≤ (32 : Int) ∧
    (0 : Int) ≤ (32 : Int) ∧
      (0 : Int) ≤ (32 : Int) ∧
        (0 : Int) ≤ (32 : Int) ∧
          (0 : Int) ≤ (32 : Int) ∧
            R
              (IntKind.wrap IntKind.u64
                (IntKind.wrap IntKind.u64
                    (IntKind.wrap IntKind.u64 (shiftR IntKind.u64 a0 (32 : Int) * shiftR IntKind.u64 a1 (32 : Int)) +
                      shiftR IntKind.u64
                        (IntKind.wrap IntKind.u64
                          (IntKind.wrap IntKind.u64 (shiftR IntKind.u64 a0 (32 : Int) * bitop IntKind.u64 BinOp.and a1 (4294967295 : Int)) +
                            shiftR IntKind.u64
                              (IntKind.wrap IntKind.u64 (bitop IntKind.u64 BinOp.and a0 (4294967295 : Int) * bitop IntKind.u64 BinOp.and a1 (4294967295 : Int))) (32 : Int)))
                        (32 : Int)) +
                  shiftR IntKind.u64
                    (IntKind.wrap IntKind.u64
                      (bitop IntKind.u64 BinOp.and
                          (IntKind.wrap IntKind.u64
                            (IntKind.wrap IntKind.u64 (shiftR IntKind.u64 a0 (32 : Int) * bitop IntKind.u64 BinOp.and a1 (4294967295 : Int)) +
                              shiftR IntKind.u64
                                (IntKind.wrap IntKind.u64 (bitop IntKind.u64 BinOp.and a0 (4294967295 : Int) * bitop IntKind.u64 BinOp.and a1 (4294967295 : Int)))
                                (32 : Int)))
                          (4294967295 : Int) +
                        IntKind.wrap IntKind.u64 (bitop IntKind.u64 BinOp.and a0 (4294967295 : Int) * shiftR IntKind.u64 a1 (32 : Int))))
                    (32 : Int)))
              (IntKind.wrap IntKind.u64 (a0 * a1)) h
theorem eq61 (a0 : Int) (a1 : Int) (h : Heap) (R : Int → Int → Heap → Prop) : vc61 a0 a1 h R = vcFn Go.Proofs.Tryd.prog pl61 Go.Proofs.Tryd.f61 [.lf (.int .u64 a0), .lf (.int .u64 a1)] h [.one (.int .u64), .one (.int .u64)] R := by kernel_rfl
theorem ok61 {a0 : Int} {a1 : Int} {h : Heap} {R : Int → Int → Heap → Prop} (hv : vc61 a0 a1 h R) : Call Go.Proofs.Tryd.prog 61 [.lf (.int .u64 a0), .lf (.int .u64 a1)] h [.one (.int .u64), .one (.int .u64)] R := call_eq hng hmix Go.Proofs.Tryd.func61 (eq61 a0 a1 h R) hv
end Go.V.YtdeihieblljfcaaDoor
