/- This text proves a part of the laws of seat Ytdeihieblljfcaa, under no condition: D1e. -/
import Derived.Test.YtdeihieblljfcaaDC
import Derived.Eval
import Derived.Test.YtdeihieblljfcaaChecked
import Derived.Test.YtdeihieblljfcaaDE
set_option linter.unusedVariables false
set_option maxRecDepth 100000
namespace Go.V.Ytdeihieblljfcaa
open Go Go.V
/- 3: sediment.sedimentlaw02.DiskWhole () · seq 4: #25 · seq 7: #61 · seq 10: #13 · seq 14:  -/
def pl3 : Plan := {
  blk := fun _ => none
  seq := fun | 4 => some ⟨[(25, .one .bool)], [], []⟩ | 7 => some ⟨[(61, .one .bool)], [], []⟩ | 10 => some ⟨[(13, .one .bool)], [], []⟩ | 14 => some ⟨[], [], []⟩ | _ => none
  loop := fun _ => none
  live := fun | 0 => some [0, 1, 2, 3, 4] | 1 => some [0, 1, 2, 3, 4, 17] | 2 => some [10] | 3 => some [0, 1, 2, 3, 4, 25] | 4 => some [10] | 5 => some [0, 1, 2, 3, 4, 11, 12] | 6 => some [0, 1, 2, 3, 4, 11, 61] | 7 => some [10] | 8 => some [0, 1, 3, 4, 11] | 9 => some [0, 1, 3, 4, 11, 13] | 10 => some [0, 1, 11, 13] | 11 => some [0, 1, 13, 14, 15] | 12 => some [0, 1, 14, 109] | 13 => some [10] | 14 => some [10] | _ => none
  track := fun | _ => false
  draw := fun | _ => .done
  iter := fun | _ => none }
def vc3 (a0 : Slc) (a1 : Slc) (a2 : Int) (a3 : Slc) (a4 : Slc) (h : Heap) (R : Bool → Heap → Prop) : Prop :=
  Call Go.Proofs.Try.prog 6 [] h [VT.one LT.bool] fun (c0 : Bool) (h1 : Heap) =>
    Br (!c0) (R Bool.false h1)
      (∃ (I2 : Bool → Heap → Prop),
        Br (Decidable.decide ((↑(Slc.len a0) : Int) > (4194304 : Int))) (I2 Bool.true h1) (I2 (Decidable.decide ((↑(Slc.len a1) : Int) > (4194304 : Int))) h1) ∧
          ∀ (c3 : Bool) (h4 : Heap),
            I2 c3 h4 →
              Br c3 (R Bool.true h4)
                (Call Go.Proofs.Try.prog 7 [VV.lf (Lf.int IntKind.i64 (268435456 : Int))] h4 [VT.one LT.ptr, VT.one (LT.int IntKind.i64)]
                  fun (p5 : Option (Nat × Nat)) (i6 : Int) (h7 : Heap) =>
                  ∃ (I8 : Bool → Heap → Prop),
                    Br (i6 != (0 : Int)) (I8 Bool.true h7)
                        (Br (Option.isNone p5) (I8 Bool.true h7)
                          (Call Go.Proofs.Try.prog 8 [VV.lf (Lf.ptr p5), VV.lf (Lf.str (ByteArray.mk #[(100 : UInt8)]))] h7 [VT.one (LT.int IntKind.i64)]
                            fun (i9 : Int) (h10 : Heap) =>
                            Br (i9 != (0 : Int)) (I8 Bool.true h10)
                              (Call Go.Proofs.Try.prog 9 [VV.lf (Lf.ptr p5), VV.lf (Lf.str (ByteArray.mk #[(100 : UInt8), (47 : UInt8), (105 : UInt8), (116 : UInt8)]))]
                                h10 [VT.one (LT.int IntKind.i64)] fun (i11 : Int) (h12 : Heap) =>
                                Br (i11 != (0 : Int)) (I8 Bool.true h12)
                                  (Call Go.Proofs.Try.prog 10
                                    [VV.lf (Lf.ptr p5), VV.lf (Lf.str (ByteArray.mk #[(100 : UInt8), (47 : UInt8), (105 : UInt8), (116 : UInt8)])), VV.lf (Lf.slc a0)] h12
                                    [VT.one (LT.int IntKind.i64)] fun (i13 : Int) (h14 : Heap) =>
                                    Br (i13 != (0 : Int)) (I8 Bool.true h14)
                                      (Call Go.Proofs.Try.prog 11
                                        [VV.lf (Lf.ptr p5), VV.lf (Lf.str (ByteArray.mk #[(100 : UInt8), (47 : UInt8), (105 : UInt8), (116 : UInt8)]))] h14
                                        [VT.one (LT.int IntKind.i64)] fun (i15 : Int) (h16 : Heap) =>
                                        Br (i15 != (0 : Int)) (I8 Bool.true h16)
                                          (Call Go.Proofs.Try.prog 12 [VV.lf (Lf.ptr p5), VV.lf (Lf.str (ByteArray.mk #[(100 : UInt8)]))] h16
                                            [VT.one (LT.int IntKind.i64)] fun (i17 : Int) (h18 : Heap) => I8 (i17 != (0 : Int)) h18)))))) ∧
                      ∀ (c19 : Bool) (h20 : Heap),
                        I8 c19 h20 →
                          Br c19 (R Bool.false h20)
                            (Call Go.Proofs.Try.prog 13 [VV.lf (Lf.ptr p5), VV.lf (Lf.int IntKind.i64 a2)] h20 [] fun (h21 : Heap) =>
                              ∃ (I22 : Bool → Heap → Prop),
                                (Call Go.Proofs.Try.prog 9
                                    [VV.lf (Lf.ptr p5),
                                      VV.lf (Lf.str (ByteArray.mk #[(100 : UInt8), (47 : UInt8), (105 : UInt8), (116 : UInt8), (46 : UInt8), (110 : UInt8), (101 : UInt8), (119 : UInt8)]))]
                                    h21 [VT.one (LT.int IntKind.i64)] fun (i23 : Int) (h24 : Heap) =>
                                    Br (i23 == (0 : Int))
                                      (Call Go.Proofs.Try.prog 10
                                        [VV.lf (Lf.ptr p5),
                                          VV.lf (Lf.str (ByteArray.mk #[(100 : UInt8), (47 : UInt8), (105 : UInt8), (116 : UInt8), (46 : UInt8), (110 : UInt8), (101 : UInt8), (119 : UInt8)])),
                                          VV.lf (Lf.slc a1)]
                                        h24 [VT.one (LT.int IntKind.i64)] fun (i25 : Int) (h26 : Heap) =>
                                        Br (i25 == (0 : Int))
                                          (Call Go.Proofs.Try.prog 11
                                            [VV.lf (Lf.ptr p5),
                                              VV.lf
                                                (Lf.str (ByteArray.mk #[(100 : UInt8), (47 : UInt8), (105 : UInt8), (116 : UInt8), (46 : UInt8), (110 : UInt8), (101 : UInt8), (119 : UInt8)]))]
                                            h26 [VT.one (LT.int IntKind.i64)] fun (i27 : Int) (h28 : Heap) =>
                                            Br (i27 == (0 : Int))
                                              (Call Go.Proofs.Try.prog 14
                                                [VV.lf (Lf.ptr p5),
                                                  VV.lf
                                                    (Lf.str (ByteArray.mk #[(100 : UInt8), (47 : UInt8), (105 : UInt8), (116 : UInt8), (46 : UInt8), (110 : UInt8), (101 : UInt8), (119 : UInt8)])),
                                                  VV.lf (Lf.str (ByteArray.mk #[(100 : UInt8), (47 : UInt8), (105 : UInt8), (116 : UInt8)]))]
                                                h28 [VT.one (LT.int IntKind.i64)] fun (i29 : Int) (h30 : Heap) =>
                                                Br (i29 == (0 : Int))
                                                  (Call Go.Proofs.Try.prog 12 [VV.lf (Lf.ptr p5), VV.lf (Lf.str (ByteArray.mk #[(100 : UInt8)]))] h30
                                                    [VT.one (LT.int IntKind.i64)] fun (i31 : Int) (h32 : Heap) => I22 (i31 == (0 : Int)) h32)
                                                  (I22 Bool.false h30))
                                              (I22 Bool.false h28))
                                          (I22 Bool.false h26))
                                      (I22 Bool.false h24)) ∧
                                  ∀ (c33 : Bool) (h34 : Heap),
                                    I22 c33 h34 →
                                      Call Go.Proofs.Try.prog 15 [VV.lf (Lf.ptr p5), VV.lf (Lf.slc a3), VV.lf (Lf.slc a4)] h34 [] fun (h35 : Heap) =>
                                        Call Go.Proofs.Try.prog 16
                                          [VV.lf (Lf.ptr p5), VV.lf (Lf.str (ByteArray.mk #[(100 : UInt8), (47 : UInt8), (105 : UInt8), (116 : UInt8)]))] h35
                                          [VT.one LT.slc, VT.one (LT.int IntKind.i64)] fun (s36 : Slc) (i37 : Int) (h38 : Heap) =>
                                          ∃ (I39 : Heap → Prop),
                                            Br (i37 != (0 : Int)) (R Bool.false h38)
                                                (Br c33
                                                  (∃ (t40 : ByteArray),
                                                    bytesAt h38 s36 t40 ∧ ∃ (t41 : ByteArray), bytesAt h38 a1 t41 ∧ Br (!strEq t40 t41) (R Bool.false h38) (I39 h38))
                                                  (I39 h38)) ∧
                                              ∀ (h42 : Heap),
                                                I39 h42 →
                                                  ∃ (t43 : ByteArray),
                                                    bytesAt h42 s36 t43 ∧
                                                      ∃ (t44 : ByteArray),
                                                        bytesAt h42 a0 t44 ∧
                                                          Br (strEq t43 t44) (R Bool.true h42)
                                                            (∃ (t45 : ByteArray), bytesAt h42 s36 t45 ∧ ∃ (t46 : ByteArray), bytesAt h42 a1 t46 ∧ R (strEq t45 t46) h42))))
theorem eq3 (a0 : Slc) (a1 : Slc) (a2 : Int) (a3 : Slc) (a4 : Slc) (h : Heap) (R : Bool → Heap → Prop) : vc3 a0 a1 a2 a3 a4 h R = vcFn Go.Proofs.Try.prog pl3 Go.Proofs.Try.f3 [.lf (.slc a0), .lf (.slc a1), .lf (.int .i64 a2), .lf (.slc a3), .lf (.slc a4)] h [.one .bool] R := by kernel_rfl
theorem ok3 {a0 : Slc} {a1 : Slc} {a2 : Int} {a3 : Slc} {a4 : Slc} {h : Heap} {R : Bool → Heap → Prop} (hv : vc3 a0 a1 a2 a3 a4 h R) : Call Go.Proofs.Try.prog 3 [.lf (.slc a0), .lf (.slc a1), .lf (.int .i64 a2), .lf (.slc a3), .lf (.slc a4)] h [.one .bool] R := call_eq hng hmix Go.Proofs.Try.func3 (eq3 a0 a1 a2 a3 a4 h R) hv
/- 4: sediment.sedimentlaw02.DiskLinks () · seq 4: #25 · seq 7: #61 · seq 10: #89 · seq 14: #136 · seq 16: #143 -/
def pl4 : Plan := {
  blk := fun _ => none
  seq := fun | 4 => some ⟨[(25, .one .bool)], [], []⟩ | 7 => some ⟨[(61, .one .bool)], [], []⟩ | 10 => some ⟨[(89, .one .bool)], [], []⟩ | 14 => some ⟨[(136, .one .bool)], [], []⟩ | 16 => some ⟨[(143, .one .bool)], [], []⟩ | _ => none
  loop := fun _ => none
  live := fun | 0 => some [0, 1, 2] | 1 => some [0, 1, 2, 17] | 2 => some [6] | 3 => some [0, 1, 2, 25] | 4 => some [6] | 5 => some [0, 1, 2, 7, 8] | 6 => some [0, 1, 2, 7, 61] | 7 => some [6] | 8 => some [0, 1, 7, 9] | 9 => some [0, 1, 7, 9, 89] | 10 => some [6] | 11 => some [0, 1, 7, 9, 10, 11] | 12 => some [0, 1, 7, 9, 10, 11, 12, 13] | 13 => some [7, 10, 136] | 14 => some [6] | 15 => some [7, 10, 143] | 16 => some [6] | 17 => some [7, 10, 14, 15] | 18 => some [6] | _ => none
  track := fun | _ => false
  draw := fun | 13 => .still 0 (.still 1 (.still 2 (.still 3 (.still 4 (.still 5 (.still 6 (.still 7 (.still 8 (.still 9 (.still 10 (.still 11 (.still 12 (.still 13 (.still 14 (.still 15 (.still 16 (.still 17 (.still 18 (.still 19 (.still 20 (.still 21 (.still 22 (.still 23 (.still 24 (.still 25 (.still 26 (.still 27 (.still 28 (.still 29 (.still 30 (.still 31 (.still 32 (.still 33 (.still 34 (.still 35 (.still 36 (.done))))))))))))))))))))))))))))))))))))) | _ => .done
  iter := fun | _ => none }
def vc4 (a0 : Slc) (a1 : Slc) (a2 : Int) (h : Heap) (R : Bool → Heap → Prop) : Prop :=
  Call Go.Proofs.Try.prog 6 [] h [VT.one LT.bool] fun (c0 : Bool) (h1 : Heap) =>
    Br (!c0) (R Bool.false h1)
      (∃ (I2 : Bool → Heap → Prop),
        Br (Decidable.decide ((↑(Slc.len a0) : Int) > (4194304 : Int))) (I2 Bool.true h1) (I2 (Decidable.decide ((↑(Slc.len a1) : Int) > (4194304 : Int))) h1) ∧
          ∀ (c3 : Bool) (h4 : Heap),
            I2 c3 h4 →
              Br c3 (R Bool.true h4)
                (Call Go.Proofs.Try.prog 7 [VV.lf (Lf.int IntKind.i64 (268435456 : Int))] h4 [VT.one LT.ptr, VT.one (LT.int IntKind.i64)]
                  fun (p5 : Option (Nat × Nat)) (i6 : Int) (h7 : Heap) =>
                  ∃ (I8 : Bool → Heap → Prop),
                    Br (i6 != (0 : Int)) (I8 Bool.true h7)
                        (Br (Option.isNone p5) (I8 Bool.true h7)
                          (Call Go.Proofs.Try.prog 8 [VV.lf (Lf.ptr p5), VV.lf (Lf.str (ByteArray.mk #[(100 : UInt8)]))] h7 [VT.one (LT.int IntKind.i64)]
                            fun (i9 : Int) (h10 : Heap) =>
                            Br (i9 != (0 : Int)) (I8 Bool.true h10)
                              (Call Go.Proofs.Try.prog 8 [VV.lf (Lf.ptr p5), VV.lf (Lf.str (ByteArray.mk #[(101 : UInt8)]))] h10
                                [VT.one (LT.int IntKind.i64)] fun (i11 : Int) (h12 : Heap) =>
                                Br (i11 != (0 : Int)) (I8 Bool.true h12)
                                  (Call Go.Proofs.Try.prog 9 [VV.lf (Lf.ptr p5), VV.lf (Lf.str (ByteArray.mk #[(100 : UInt8), (47 : UInt8), (97 : UInt8)]))] h12
                                    [VT.one (LT.int IntKind.i64)] fun (i13 : Int) (h14 : Heap) =>
                                    Br (i13 != (0 : Int)) (I8 Bool.true h14)
                                      (Call Go.Proofs.Try.prog 17
                                        [VV.lf (Lf.ptr p5), VV.lf (Lf.str (ByteArray.mk #[(100 : UInt8), (47 : UInt8), (97 : UInt8)])),
                                          VV.lf (Lf.str (ByteArray.mk #[(101 : UInt8), (47 : UInt8), (98 : UInt8)]))]
                                        h14 [VT.one (LT.int IntKind.i64)] fun (i15 : Int) (h16 : Heap) =>
                                        Br (i15 != (0 : Int)) (I8 Bool.true h16)
                                          (Call Go.Proofs.Try.prog 10
                                            [VV.lf (Lf.ptr p5), VV.lf (Lf.str (ByteArray.mk #[(101 : UInt8), (47 : UInt8), (98 : UInt8)])), VV.lf (Lf.slc a0)] h16
                                            [VT.one (LT.int IntKind.i64)] fun (i17 : Int) (h18 : Heap) => I8 (i17 != (0 : Int)) h18)))))) ∧
                      ∀ (c19 : Bool) (h20 : Heap),
                        I8 c19 h20 →
                          Br c19 (R Bool.false h20)
                            ((IntKind.wrap IntKind.i64 ((↑(Slc.len a0) : Int) + (1 : Int)) = (0 : Int) → False) ∧
                              ∃ (I21 : Bool → Heap → Prop),
                                (Call Go.Proofs.Try.prog 18
                                    [VV.lf (Lf.ptr p5), VV.lf (Lf.str (ByteArray.mk #[(100 : UInt8), (47 : UInt8), (97 : UInt8)])),
                                      VV.lf (Lf.int IntKind.i64 (Int.tmod (IntKind.wrap IntKind.i64 a2) (IntKind.wrap IntKind.i64 ((↑(Slc.len a0) : Int) + (1 : Int))))),
                                      VV.lf (Lf.slc a1)]
                                    h20 [VT.one (LT.int IntKind.i64)] fun (i22 : Int) (h23 : Heap) =>
                                    Br (i22 != (0 : Int)) (I21 Bool.true h23)
                                      (Call Go.Proofs.Try.prog 19
                                        [VV.lf (Lf.ptr p5), VV.lf (Lf.str (ByteArray.mk #[(100 : UInt8), (47 : UInt8), (97 : UInt8)])),
                                          VV.lf (Lf.str (ByteArray.mk #[(101 : UInt8), (47 : UInt8), (98 : UInt8)]))]
                                        h23 [VT.one LT.bool] fun (c24 : Bool) (h25 : Heap) =>
                                        Br (!c24) (I21 Bool.true h25)
                                          (Call Go.Proofs.Try.prog 20 [VV.lf (Lf.ptr p5)] h25 [VT.one (LT.int IntKind.i64)] fun (i26 : Int) (h27 : Heap) =>
                                            I21
                                              (i26 !=
                                                if
                                                    IntKind.wrap IntKind.i64
                                                        (Int.tmod (IntKind.wrap IntKind.i64 a2) (IntKind.wrap IntKind.i64 ((↑(Slc.len a0) : Int) + (1 : Int))) +
                                                          (↑(Slc.len a1) : Int)) >
                                                      (↑(Slc.len a0) : Int) then
                                                  IntKind.wrap IntKind.i64
                                                    (Int.tmod (IntKind.wrap IntKind.i64 a2) (IntKind.wrap IntKind.i64 ((↑(Slc.len a0) : Int) + (1 : Int))) + (↑(Slc.len a1) : Int))
                                                else (↑(Slc.len a0) : Int))
                                              h27))) ∧
                                  ∀ (c28 : Bool) (h29 : Heap),
                                    I21 c28 h29 →
                                      Br c28 (R Bool.false h29)
                                        (Call Go.Proofs.Try.prog 16 [VV.lf (Lf.ptr p5), VV.lf (Lf.str (ByteArray.mk #[(100 : UInt8), (47 : UInt8), (97 : UInt8)]))] h29
                                          [VT.one LT.slc, VT.one (LT.int IntKind.i64)] fun (s30 : Slc) (i31 : Int) (h32 : Heap) =>
                                          Call Go.Proofs.Try.prog 16 [VV.lf (Lf.ptr p5), VV.lf (Lf.str (ByteArray.mk #[(101 : UInt8), (47 : UInt8), (98 : UInt8)]))] h32
                                            [VT.one LT.slc, VT.one (LT.int IntKind.i64)] fun (s33 : Slc) (i34 : Int) (h35 : Heap) =>
                                            ∃ (I36 : Bool → Heap → Prop),
                                              Br (i31 != (0 : Int)) (I36 Bool.true h35)
                                                  (Br (i34 != (0 : Int)) (I36 Bool.true h35)
                                                    (∃ (t37 : ByteArray),
                                                      bytesAt h35 s30 t37 ∧
                                                        ∃ (t38 : ByteArray),
                                                          bytesAt h35 s33 t38 ∧
                                                            Br (!strEq t37 t38) (I36 Bool.true h35)
                                                              ((0 : Int) ≤
                                                                  IntKind.wrap IntKind.i64
                                                                    (Int.tmod (IntKind.wrap IntKind.i64 a2) (IntKind.wrap IntKind.i64 ((↑(Slc.len a0) : Int) + (1 : Int))) +
                                                                      (↑(Slc.len a1) : Int)) ∧
                                                                IntKind.wrap IntKind.i64
                                                                      (Int.tmod (IntKind.wrap IntKind.i64 a2) (IntKind.wrap IntKind.i64 ((↑(Slc.len a0) : Int) + (1 : Int))) +
                                                                        (↑(Slc.len a1) : Int)) ≤
                                                                    (↑(Slc.cap s30) : Int) ∧
                                                                  (0 : Int) ≤ Int.tmod (IntKind.wrap IntKind.i64 a2) (IntKind.wrap IntKind.i64 ((↑(Slc.len a0) : Int) + (1 : Int))) ∧
                                                                    Int.tmod (IntKind.wrap IntKind.i64 a2) (IntKind.wrap IntKind.i64 ((↑(Slc.len a0) : Int) + (1 : Int))) ≤
                                                                        (↑(Int.toNat
                                                                              (IntKind.wrap IntKind.i64
                                                                                (Int.tmod (IntKind.wrap IntKind.i64 a2) (IntKind.wrap IntKind.i64 ((↑(Slc.len a0) : Int) + (1 : Int))) +
                                                                                  (↑(Slc.len a1) : Int)))) :
                                                                          Int) ∧
                                                                      ∃ (t39 : ByteArray),
                                                                        bytesAt h35
                                                                            (Slc.sub s30 1
                                                                              (Int.toNat
                                                                                (Int.tmod (IntKind.wrap IntKind.i64 a2) (IntKind.wrap IntKind.i64 ((↑(Slc.len a0) : Int) + (1 : Int)))))
                                                                              (Int.toNat
                                                                                (IntKind.wrap IntKind.i64
                                                                                  (Int.tmod (IntKind.wrap IntKind.i64 a2)
                                                                                      (IntKind.wrap IntKind.i64 ((↑(Slc.len a0) : Int) + (1 : Int))) +
                                                                                    (↑(Slc.len a1) : Int))))
                                                                              (Slc.cap s30))
                                                                            t39 ∧
                                                                          ∃ (t40 : ByteArray),
                                                                            bytesAt h35 a1 t40 ∧
                                                                              Br (!strEq t39 t40) (I36 Bool.true h35)
                                                                                ((0 : Int) ≤
                                                                                    Int.tmod (IntKind.wrap IntKind.i64 a2)
                                                                                      (IntKind.wrap IntKind.i64 ((↑(Slc.len a0) : Int) + (1 : Int))) ∧
                                                                                  Int.tmod (IntKind.wrap IntKind.i64 a2) (IntKind.wrap IntKind.i64 ((↑(Slc.len a0) : Int) + (1 : Int))) ≤
                                                                                      (↑(Slc.cap s30) : Int) ∧
                                                                                    ∃ (t41 : ByteArray),
                                                                                      bytesAt h35
                                                                                          (Slc.sub s30 1 0
                                                                                            (Int.toNat
                                                                                              (Int.tmod (IntKind.wrap IntKind.i64 a2)
                                                                                                (IntKind.wrap IntKind.i64 ((↑(Slc.len a0) : Int) + (1 : Int)))))
                                                                                            (Slc.cap s30))
                                                                                          t41 ∧
                                                                                        (0 : Int) ≤
                                                                                            Int.tmod (IntKind.wrap IntKind.i64 a2)
                                                                                              (IntKind.wrap IntKind.i64 ((↑(Slc.len a0) : Int) + (1 : Int))) ∧
                                                                                          Int.tmod (IntKind.wrap IntKind.i64 a2)
                                                                                                (IntKind.wrap IntKind.i64 ((↑(Slc.len a0) : Int) + (1 : Int))) ≤
                                                                                              (↑(Slc.cap a0) : Int) ∧
                                                                                            ∃ (t42 : ByteArray),
                                                                                              bytesAt h35
                                                                                                  (Slc.sub a0 1 0
                                                                                                    (Int.toNat
                                                                                                      (Int.tmod (IntKind.wrap IntKind.i64 a2)
                                                                                                        (IntKind.wrap IntKind.i64 ((↑(Slc.len a0) : Int) + (1 : Int)))))
                                                                                                    (Slc.cap a0))
                                                                                                  t42 ∧
                                                                                                I36 (!strEq t41 t42) h35)))) ∧
                                                ∀ (c43 : Bool) (h44 : Heap),
                                                  I36 c43 h44 →
                                                    Br c43 (R Bool.false h44)
                                                      (∃ (I45 : Bool → Heap → Prop),
                                                        (Call Go.Proofs.Try.prog 21
                                                            [VV.lf (Lf.ptr p5), VV.lf (Lf.str (ByteArray.mk #[(100 : UInt8), (47 : UInt8), (97 : UInt8)]))] h44
                                                            [VT.one (LT.int IntKind.i64)] fun (i46 : Int) (h47 : Heap) =>
                                                            Br (i46 != (0 : Int)) (I45 Bool.true h47)
                                                              (Call Go.Proofs.Try.prog 19
                                                                [VV.lf (Lf.ptr p5), VV.lf (Lf.str (ByteArray.mk #[(100 : UInt8), (47 : UInt8), (97 : UInt8)])),
                                                                  VV.lf (Lf.str (ByteArray.mk #[(101 : UInt8), (47 : UInt8), (98 : UInt8)]))]
                                                                h47 [VT.one LT.bool] fun (c48 : Bool) (h49 : Heap) => I45 c48 h49)) ∧
                                                          ∀ (c50 : Bool) (h51 : Heap),
                                                            I45 c50 h51 →
                                                              Br c50 (R Bool.false h51)
                                                                (Call Go.Proofs.Try.prog 16
                                                                  [VV.lf (Lf.ptr p5), VV.lf (Lf.str (ByteArray.mk #[(101 : UInt8), (47 : UInt8), (98 : UInt8)]))] h51
                                                                  [VT.one LT.slc, VT.one (LT.int IntKind.i64)] fun (s52 : Slc) (i53 : Int) (h54 : Heap) =>
                                                                  Br (i53 == (0 : Int))
                                                                    (∃ (t55 : ByteArray),
                                                                      bytesAt h54 s52 t55 ∧
                                                                        ∃ (t56 : ByteArray),
                                                                          bytesAt h54 s30 t56 ∧
                                                                            Br (strEq t55 t56)
                                                                              (Call Go.Proofs.Try.prog 21
                                                                                [VV.lf (Lf.ptr p5), VV.lf (Lf.str (ByteArray.mk #[(101 : UInt8), (47 : UInt8), (98 : UInt8)]))] h54
                                                                                [VT.one (LT.int IntKind.i64)] fun (i57 : Int) (h58 : Heap) =>
                                                                                Br (i57 == (0 : Int))
                                                                                  (Call Go.Proofs.Try.prog 20 [VV.lf (Lf.ptr p5)] h58 [VT.one (LT.int IntKind.i64)]
                                                                                    fun (i59 : Int) (h60 : Heap) => R (i59 == (0 : Int)) h60)
                                                                                  (R Bool.false h58))
                                                                              (R Bool.false h54))
                                                                    (R Bool.false h54)))))))
theorem eq4 (a0 : Slc) (a1 : Slc) (a2 : Int) (h : Heap) (R : Bool → Heap → Prop) : vc4 a0 a1 a2 h R = vcFn Go.Proofs.Try.prog pl4 Go.Proofs.Try.f4 [.lf (.slc a0), .lf (.slc a1), .lf (.int .u16 a2)] h [.one .bool] R := by kernel_rfl
theorem ok4 {a0 : Slc} {a1 : Slc} {a2 : Int} {h : Heap} {R : Bool → Heap → Prop} (hv : vc4 a0 a1 a2 h R) : Call Go.Proofs.Try.prog 4 [.lf (.slc a0), .lf (.slc a1), .lf (.int .u16 a2)] h [.one .bool] R := call_eq hng hmix Go.Proofs.Try.func4 (eq4 a0 a1 a2 h R) hv
/- 6: sediment.sedimentlaw02.lives () · seq 3: #48 -/
def pl6 : Plan := {
  blk := fun _ => none
  seq := fun | 3 => some ⟨[(48, .one .bool)], [], []⟩ | _ => none
  loop := fun _ => none
  live := fun | 0 => some [] | 1 => some [1, 2] | 2 => some [1, 48] | 3 => some [0] | 4 => some [1] | 5 => some [3, 4] | 6 => some [0] | _ => none
  track := fun | _ => false
  draw := fun | _ => .done
  iter := fun | _ => none }
def vc6  (h : Heap) (R : Bool → Heap → Prop) : Prop :=
  Call Go.Proofs.Try.prog 7 [VV.lf (Lf.int IntKind.i64 (100 : Int))] h [VT.one LT.ptr, VT.one (LT.int IntKind.i64)]
    fun (p0 : Option (Nat × Nat)) (i1 : Int) (h2 : Heap) =>
    ∃ (I3 : Bool → Heap → Prop),
      Br (i1 != (0 : Int)) (I3 Bool.true h2)
          (Br (Option.isNone p0) (I3 Bool.true h2)
            (Call Go.Proofs.Try.prog 8 [VV.lf (Lf.ptr p0), VV.lf (Lf.str (ByteArray.mk #[(100 : UInt8)]))] h2 [VT.one (LT.int IntKind.i64)]
              fun (i4 : Int) (h5 : Heap) =>
              Br (i4 != (0 : Int)) (I3 Bool.true h5)
                (Call Go.Proofs.Try.prog 9 [VV.lf (Lf.ptr p0), VV.lf (Lf.str (ByteArray.mk #[(100 : UInt8), (47 : UInt8), (97 : UInt8)]))] h5
                  [VT.one (LT.int IntKind.i64)] fun (i6 : Int) (h7 : Heap) =>
                  Br (i6 != (0 : Int)) (I3 Bool.true h7)
                    (New 5 [Lf.int IntKind.u8 (120 : Int), Lf.int IntKind.u8 (121 : Int), Lf.int IntKind.u8 (122 : Int)] h7 fun (b8 : Nat) (h9 : Heap) =>
                      MarkC h9 (Option.some (b8, 0)) fun (h10 : Heap) =>
                        Call Go.Proofs.Try.prog 10
                          [VV.lf (Lf.ptr p0), VV.lf (Lf.str (ByteArray.mk #[(100 : UInt8), (47 : UInt8), (97 : UInt8)])),
                            VV.lf (Lf.slc (Slc.mk (Option.some (b8, 0)) 3 3))]
                          h10 [VT.one (LT.int IntKind.i64)] fun (i11 : Int) (h12 : Heap) =>
                          Br (i11 != (0 : Int)) (I3 Bool.true h12)
                            (Call Go.Proofs.Try.prog 11 [VV.lf (Lf.ptr p0), VV.lf (Lf.str (ByteArray.mk #[(100 : UInt8), (47 : UInt8), (97 : UInt8)]))] h12
                              [VT.one (LT.int IntKind.i64)] fun (i13 : Int) (h14 : Heap) =>
                              Br (i13 != (0 : Int)) (I3 Bool.true h14)
                                (New 5 [Lf.int IntKind.u8 (85 : Int), Lf.int IntKind.u8 (86 : Int)] h14 fun (b15 : Nat) (h16 : Heap) =>
                                  MarkC h16 (Option.some (b15, 0)) fun (h17 : Heap) =>
                                    Call Go.Proofs.Try.prog 18
                                      [VV.lf (Lf.ptr p0), VV.lf (Lf.str (ByteArray.mk #[(100 : UInt8), (47 : UInt8), (97 : UInt8)])),
                                        VV.lf (Lf.int IntKind.i64 (1 : Int)), VV.lf (Lf.slc (Slc.mk (Option.some (b15, 0)) 2 2))]
                                      h17 [VT.one (LT.int IntKind.i64)] fun (i18 : Int) (h19 : Heap) =>
                                      Br (i18 != (0 : Int)) (I3 Bool.true h19)
                                        (Call Go.Proofs.Try.prog 12 [VV.lf (Lf.ptr p0), VV.lf (Lf.str (ByteArray.mk #[(100 : UInt8)]))] h19
                                          [VT.one (LT.int IntKind.i64)] fun (i20 : Int) (h21 : Heap) => I3 (i20 != (0 : Int)) h21))))))) ∧
        ∀ (c22 : Bool) (h23 : Heap),
          I3 c22 h23 →
            Br c22 (R Bool.false h23)
              (New 3 [Lf.int IntKind.i64 (1 : Int)] h23 fun (b24 : Nat) (h25 : Heap) =>
                Call Go.Proofs.Try.prog 15
                  [VV.lf (Lf.ptr p0), VV.lf (Lf.slc (Slc.mk (Option.some (b24, 0)) 1 1)),
                    VV.lf (Lf.slc (Slc.mk Option.none 0 0))]
                  h25 [] fun (h26 : Heap) =>
                  Call Go.Proofs.Try.prog 16 [VV.lf (Lf.ptr p0), VV.lf (Lf.str (ByteArray.mk #[(100 : UInt8), (47 : UInt8), (97 : UInt8)]))] h26
                    [VT.one LT.slc, VT.one (LT.int IntKind.i64)] fun (s27 : Slc) (i28 : Int) (h29 : Heap) =>
                    Br (i28 == (0 : Int)) (∃ (t30 : ByteArray), bytesAt h29 s27 t30 ∧ R (strEq t30 (ByteArray.mk #[(120 : UInt8), (85 : UInt8), (122 : UInt8)])) h29) (R Bool.false h29))
theorem eq6  (h : Heap) (R : Bool → Heap → Prop) : vc6  h R = vcFn Go.Proofs.Try.prog pl6 Go.Proofs.Try.f6 [] h [.one .bool] R := by kernel_rfl
theorem ok6  {h : Heap} {R : Bool → Heap → Prop} (hv : vc6  h R) : Call Go.Proofs.Try.prog 6 [] h [.one .bool] R := call_eq hng hmix Go.Proofs.Try.func6 (eq6  h R) hv
end Go.V.Ytdeihieblljfcaa
