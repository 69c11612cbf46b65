/- This text proves a part of the laws of seat Ytclffphegfhocaa, under no condition: B4c B4d. -/
import Derived.Test.YtclffphegfhocaaEC
import Derived.Eval
import Derived.Test.YtclffphegfhocaaChecked
import Derived.Test.YtclffphegfhocaaEF
set_option linter.unusedVariables false
set_option maxRecDepth 100000
namespace Go.V.Ytclffphegfhocaa
open Go Go.V
/- 71: slices.pdqsortOrdered[uint32] () · seq 10: #3 · seq 15: #11, #12 · seq 16: #68 · seq 17:  · seq 18: #87 · loop 2: #1, #2, #3, #8, #9 -/
def pl71 : Plan := {
  blk := fun _ => none
  seq := fun | 10 => some ⟨[(3, .one (.int .i64))], [], []⟩ | 15 => some ⟨[(11, .one (.int .i64)), (12, .one (.int .i64))], [], []⟩ | 16 => some ⟨[(68, .one .bool)], [], []⟩ | 17 => some ⟨[], [], []⟩ | 18 => some ⟨[(87, .one .bool)], [], []⟩ | _ => none
  loop := fun | 2 => some ⟨[(1, .one (.int .i64)), (2, .one (.int .i64)), (3, .one (.int .i64)), (8, .one .bool), (9, .one .bool)], [], []⟩ | _ => none
  live := fun | 0 => some [0, 1, 2, 3, 8] | 1 => some [0, 1, 2, 3, 8, 9] | 2 => some [0, 1, 2, 3, 8, 9, 10] | 3 => some [0, 1, 2, 3, 8, 9, 10, 23] | 4 => some [] | 5 => some [0, 1, 2, 3, 8, 9, 10, 29] | 6 => some [] | 7 => some [0, 1, 2, 3, 8, 9, 10, 35] | 8 => some [0, 1, 2, 3, 8, 9, 10] | 9 => some [0, 1, 2, 3, 8, 9, 10] | 10 => some [0, 1, 2, 3, 8, 9, 10, 11, 12] | 11 => some [0, 1, 2, 3, 8, 9, 10, 11, 12, 50] | 12 => some [0, 1, 2, 3, 8, 9, 10, 11] | 13 => some [0, 1, 2, 3, 8, 9, 10, 11] | 14 => some [0, 1, 2, 3, 8, 9, 10, 11, 12] | 15 => some [0, 1, 2, 3, 8, 9, 10, 11, 68] | 16 => some [0, 1, 2, 3, 8, 9, 10, 11, 72] | 17 => some [0, 1, 2, 3, 8, 9, 10, 11, 87] | 18 => some [0, 2, 3, 8, 9, 13] | 19 => some [0, 1, 2, 3, 8, 9] | 20 => some [0, 1, 2, 3, 10, 14, 15] | 21 => some [0, 1, 2, 3, 9, 10, 14] | 22 => some [0, 1, 2, 3, 9, 10, 14, 16, 17] | 23 => some [0, 1, 2, 3, 9, 14, 16, 17, 18] | 24 => some [0, 1, 2, 3, 9, 14, 16, 17, 18, 113] | 25 => some [0, 1, 2, 3, 8, 9, 14] | 26 => some [0, 2, 3, 8, 9, 14] | 27 => some [0, 1, 2, 3, 8, 9] | 28 => some [0, 1, 2, 3, 8, 9, 14] | 29 => some [0, 1, 3, 8, 9, 14] | 30 => some [0, 1, 2, 3, 8, 9] | _ => none
  track := fun | _ => false
  draw := fun | 17 => .still 0 (.still 1 (.still 2 (.still 3 (.still 4 (.still 5 (.still 6 (.still 7 (.still 8 (.still 9 (.still 10 (.still 11 (.mem 12 (.still 13 (.still 14 (.done))))))))))))))) | _ => .done
  iter := fun | _ => none }
def vc71 (a0 : Slc) (a1 : Int) (a2 : Int) (a3 : Int) (h : Heap) (R : Heap → Prop) : Prop :=
  ∃ (I0 : Int → Int → Int → Bool → Bool → Heap → Nat → Prop),
    (∃ (b1 : Nat), I0 a1 a2 a3 Bool.true Bool.true h b1) ∧
      ∀ (i2 i3 i4 : Int) (c5 c6 : Bool) (h7 : Heap) (b8 : Nat),
        I0 i2 i3 i4 c5 c6 h7 b8 →
          Br (Decidable.decide (IntKind.wrap IntKind.i64 (i3 - i2) ≤ (12 : Int)))
            (Call Go.Proofs.Try.prog 74 [VV.lf (Lf.slc a0), VV.lf (Lf.int IntKind.i64 i2), VV.lf (Lf.int IntKind.i64 i3)] h7 []
              fun (h9 : Heap) => R h9)
            (Br (i4 == (0 : Int))
              (Call Go.Proofs.Try.prog 75 [VV.lf (Lf.slc a0), VV.lf (Lf.int IntKind.i64 i2), VV.lf (Lf.int IntKind.i64 i3)] h7 []
                fun (h10 : Heap) => R h10)
              (∃ (I11 : Int → Heap → Prop),
                Br (!c5)
                    (Call Go.Proofs.Try.prog 76 [VV.lf (Lf.slc a0), VV.lf (Lf.int IntKind.i64 i2), VV.lf (Lf.int IntKind.i64 i3)] h7 []
                      fun (h12 : Heap) => I11 (IntKind.wrap IntKind.i64 (i4 - (1 : Int))) h12)
                    (I11 i4 h7) ∧
                  ∀ (i13 : Int) (h14 : Heap),
                    I11 i13 h14 →
                      Call Go.Proofs.Try.prog 77 [VV.lf (Lf.slc a0), VV.lf (Lf.int IntKind.i64 i2), VV.lf (Lf.int IntKind.i64 i3)] h14
                        [VT.one (LT.int IntKind.i64), VT.one (LT.int IntKind.i64)] fun (i15 i16 : Int) (h17 : Heap) =>
                        ∃ (I18 : Int → Int → Heap → Prop),
                          Br (i16 == (2 : Int))
                              (Call Go.Proofs.Try.prog 78 [VV.lf (Lf.slc a0), VV.lf (Lf.int IntKind.i64 i2), VV.lf (Lf.int IntKind.i64 i3)] h17 []
                                fun (h19 : Heap) =>
                                I18 (IntKind.wrap IntKind.i64 (IntKind.wrap IntKind.i64 (i3 - (1 : Int)) - IntKind.wrap IntKind.i64 (i15 - i2))) (1 : Int) h19)
                              (I18 i15 i16 h17) ∧
                            ∀ (i20 i21 : Int) (h22 : Heap),
                              I18 i20 i21 h22 →
                                ∃ (I23 : Heap → Prop),
                                  (∃ (I24 : Bool → Heap → Prop),
                                      Br c5 (Br c6 (I24 (i21 == (1 : Int)) h22) (I24 Bool.false h22)) (I24 Bool.false h22) ∧
                                        ∀ (c25 : Bool) (h26 : Heap),
                                          I24 c25 h26 →
                                            Br c25
                                              (Call Go.Proofs.Try.prog 79
                                                [VV.lf (Lf.slc a0), VV.lf (Lf.int IntKind.i64 i2), VV.lf (Lf.int IntKind.i64 i3)] h26 [VT.one LT.bool]
                                                fun (c27 : Bool) (h28 : Heap) => Br c27 (R h28) (I23 h28))
                                              (I23 h26)) ∧
                                    ∀ (h29 : Heap),
                                      I23 h29 →
                                        ∃ (I30 : Bool → Heap → Prop),
                                          Br (Decidable.decide (i2 > (0 : Int)))
                                              (IxC a0 (IntKind.wrap IntKind.i64 (i2 - (1 : Int))) 1 fun (b31 b32 : Nat) =>
                                                ∃ (i33 : Int),
                                                  cellsAt h29 b31 b32 [Lf.int IntKind.u32 i33] ∧
                                                    IxC a0 i20 1 fun (b34 b35 : Nat) =>
                                                      ∃ (i36 : Int),
                                                        cellsAt h29 b34 b35 [Lf.int IntKind.u32 i36] ∧
                                                          Call Go.Proofs.Try.prog 80 [VV.lf (Lf.int IntKind.u32 i33), VV.lf (Lf.int IntKind.u32 i36)] h29
                                                            [VT.one LT.bool] fun (c37 : Bool) (h38 : Heap) => I30 (!c37) h38)
                                              (I30 Bool.false h29) ∧
                                            ∀ (c39 : Bool) (h40 : Heap),
                                              I30 c39 h40 →
                                                Br c39
                                                  (Call Go.Proofs.Try.prog 81
                                                    [VV.lf (Lf.slc a0), VV.lf (Lf.int IntKind.i64 i2), VV.lf (Lf.int IntKind.i64 i3),
                                                      VV.lf (Lf.int IntKind.i64 i20)]
                                                    h40 [VT.one (LT.int IntKind.i64)] fun (i41 : Int) (h42 : Heap) => ∃ (b43 : Nat), b43 < b8 ∧ I0 i41 i3 i13 c5 c6 h42 b43)
                                                  (Call Go.Proofs.Try.prog 82
                                                    [VV.lf (Lf.slc a0), VV.lf (Lf.int IntKind.i64 i2), VV.lf (Lf.int IntKind.i64 i3),
                                                      VV.lf (Lf.int IntKind.i64 i20)]
                                                    h40 [VT.one (LT.int IntKind.i64), VT.one LT.bool] fun (i44 : Int) (c45 : Bool) (h46 : Heap) =>
                                                    ((8 : Int) = (0 : Int) → False) ∧
                                                      Br (Decidable.decide (IntKind.wrap IntKind.i64 (i44 - i2) < IntKind.wrap IntKind.i64 (i3 - i44)))
                                                        (Call Go.Proofs.Try.prog 71
                                                          [VV.lf (Lf.slc a0), VV.lf (Lf.int IntKind.i64 i2), VV.lf (Lf.int IntKind.i64 i44),
                                                            VV.lf (Lf.int IntKind.i64 i13)]
                                                          h46 [] fun (h47 : Heap) =>
                                                          ∃ (b48 : Nat),
                                                            b48 < b8 ∧
                                                              I0 (IntKind.wrap IntKind.i64 (i44 + (1 : Int))) i3 i13
                                                                (Decidable.decide
                                                                  (IntKind.wrap IntKind.i64 (i44 - i2) ≥
                                                                    IntKind.wrap IntKind.i64 (Int.tdiv (IntKind.wrap IntKind.i64 (i3 - i2)) (8 : Int))))
                                                                c45 h47 b48)
                                                        (Call Go.Proofs.Try.prog 71
                                                          [VV.lf (Lf.slc a0), VV.lf (Lf.int IntKind.i64 (IntKind.wrap IntKind.i64 (i44 + (1 : Int)))),
                                                            VV.lf (Lf.int IntKind.i64 i3), VV.lf (Lf.int IntKind.i64 i13)]
                                                          h46 [] fun (h49 : Heap) =>
                                                          ∃ (b50 : Nat),
                                                            b50 < b8 ∧
                                                              I0 i2 i44 i13
                                                                (Decidable.decide
                                                                  (IntKind.wrap IntKind.i64 (i3 - i44) ≥
                                                                    IntKind.wrap IntKind.i64 (Int.tdiv (IntKind.wrap IntKind.i64 (i3 - i2)) (8 : Int))))
                                                                c45 h49 b50))))
theorem eq71 (a0 : Slc) (a1 : Int) (a2 : Int) (a3 : Int) (h : Heap) (R : Heap → Prop) : vc71 a0 a1 a2 a3 h R = vcFn Go.Proofs.Try.prog pl71 Go.Proofs.Try.f71 [.lf (.slc a0), .lf (.int .i64 a1), .lf (.int .i64 a2), .lf (.int .i64 a3)] h [] R := by kernel_rfl
theorem ok71 {a0 : Slc} {a1 : Int} {a2 : Int} {a3 : Int} {h : Heap} {R : Heap → Prop} (hv : vc71 a0 a1 a2 a3 h R) : Call Go.Proofs.Try.prog 71 [.lf (.slc a0), .lf (.int .i64 a1), .lf (.int .i64 a2), .lf (.int .i64 a3)] h [] R := call_eq hng hmix Go.Proofs.Try.func71 (eq71 a0 a1 a2 a3 h R) hv
/- 66: slices.Sort[[]uint32,uint32] (x) -/
def pl66 : Plan := {
  blk := fun _ => none
  seq := fun _ => none
  loop := fun _ => none
  live := fun | 0 => some [0, 2] | 1 => some [] | _ => none
  track := fun | _ => false
  draw := fun | _ => .done
  iter := fun | _ => none }
def vc66 (a0 : Slc) (h : Heap) (R : Heap → Prop) : Prop :=
  Call Go.Proofs.Try.prog 72 [VV.lf (Lf.int IntKind.u64 (IntKind.wrap IntKind.u64 (↑(Slc.len a0) : Int)))] h [VT.one (LT.int IntKind.i64)]
    fun (i0 : Int) (h1 : Heap) =>
    Call Go.Proofs.Try.prog 71
      [VV.lf (Lf.slc a0), VV.lf (Lf.int IntKind.i64 (0 : Int)), VV.lf (Lf.int IntKind.i64 (↑(Slc.len a0) : Int)), VV.lf (Lf.int IntKind.i64 i0)] h1
      [] fun (h2 : Heap) => R h2
theorem eq66 (a0 : Slc) (h : Heap) (R : Heap → Prop) : vc66 a0 h R = vcFn Go.Proofs.Try.prog pl66 Go.Proofs.Try.f66 [.lf (.slc a0)] h [] R := by kernel_rfl
theorem ok66 {a0 : Slc} {h : Heap} {R : Heap → Prop} (hv : vc66 a0 h R) : Call Go.Proofs.Try.prog 66 [.lf (.slc a0)] h [] R := call_eq hng hmix Go.Proofs.Try.func66 (eq66 a0 h R) hv
end Go.V.Ytclffphegfhocaa
set_option linter.unusedVariables false
set_option maxRecDepth 100000
namespace Go.V.Ytclffphegfhocaa
open Go Go.V
/- 81: slices.partitionEqualOrdered[uint32] () · blk 2: #9 · blk 4: #10 · loop 3: #9, #10 · loop 5: #10 -/
def pl81 : Plan := {
  blk := fun | 2 => some ⟨[(9, .one (.int .i64))], [], []⟩ | 4 => some ⟨[(10, .one (.int .i64))], [], []⟩ | _ => none
  seq := fun _ => none
  loop := fun | 3 => some ⟨[(9, .one (.int .i64)), (10, .one (.int .i64))], [], []⟩ | 5 => some ⟨[(10, .one (.int .i64))], [], []⟩ | _ => none
  live := fun | 0 => some [0, 1, 2, 3] | 1 => some [0, 1, 2] | 2 => some [0, 1, 9, 10] | 3 => some [0, 1, 9, 10, 43] | 4 => some [0, 1, 9, 10] | 5 => some [0, 1, 9, 10, 59] | 6 => some [0, 1, 9, 10] | 7 => some [0, 1, 9, 10, 64] | 8 => some [0, 1, 9, 10] | 9 => some [0, 1, 9, 10] | 10 => some [0, 1, 9, 10] | 11 => some [8] | _ => none
  track := fun | _ => false
  draw := fun | 1 => .still 0 (.still 1 (.still 2 (.still 3 (.still 4 (.still 5 (.still 6 (.still 7 (.still 8 (.still 9 (.still 10 (.still 11 (.still 12 (.mem 13 (.still 14 (.mem 15 (.done)))))))))))))))) | 3 => .still 0 (.still 1 (.still 2 (.still 3 (.still 4 (.still 5 (.still 6 (.still 7 (.still 8 (.still 9 (.still 10 (.still 11 (.mem 12 (.still 13 (.still 14 (.done))))))))))))))) | 5 => .still 0 (.still 1 (.still 2 (.still 3 (.still 4 (.still 5 (.still 6 (.still 7 (.still 8 (.still 9 (.still 10 (.still 11 (.mem 12 (.still 13 (.done)))))))))))))) | 8 => .still 0 (.still 1 (.still 2 (.still 3 (.still 4 (.still 5 (.still 6 (.still 7 (.still 8 (.still 9 (.still 10 (.still 11 (.still 12 (.mem 13 (.still 14 (.mem 15 (.done)))))))))))))))) | _ => .done
  iter := fun | _ => none }
def vc81 (a0 : Slc) (a1 : Int) (a2 : Int) (a3 : Int) (h : Heap) (R : Int → Heap → Prop) : Prop :=
  IxC a0 a3 1 fun (b0 b1 : Nat) =>
    ∃ (i2 : Int),
      cellsAt h b0 b1 [Lf.int IntKind.u32 i2] ∧
        IxC a0 a1 1 fun (b3 b4 : Nat) =>
          ∃ (i5 : Int),
            cellsAt h b3 b4 [Lf.int IntKind.u32 i5] ∧
              IxC a0 a1 1 fun (b6 b7 : Nat) =>
                StC h b6 b7 [Lf.int IntKind.u32 i2] fun (h8 : Heap) =>
                  IxC a0 a3 1 fun (b9 b10 : Nat) =>
                    StC h8 b9 b10 [Lf.int IntKind.u32 i5] fun (h11 : Heap) =>
                      ∃ (I12 : Int → Int → Heap → Nat → Prop),
                        (∃ (b13 : Nat), I12 (IntKind.wrap IntKind.i64 (a1 + (1 : Int))) (IntKind.wrap IntKind.i64 (a2 - (1 : Int))) h11 b13) ∧
                          ∀ (i14 i15 : Int) (h16 : Heap) (b17 : Nat),
                            I12 i14 i15 h16 b17 →
                              ∃ (I18 : Int → Heap → Prop),
                                (∃ (I19 : Int → Int → Heap → Nat → Prop),
                                    (∃ (b20 : Nat), I19 i14 i15 h16 b20) ∧
                                      ∀ (i21 i22 : Int) (h23 : Heap) (b24 : Nat),
                                        I19 i21 i22 h23 b24 →
                                          Br (Decidable.decide (i21 ≤ i22))
                                            (IxC a0 a1 1 fun (b25 b26 : Nat) =>
                                              ∃ (i27 : Int),
                                                cellsAt h23 b25 b26 [Lf.int IntKind.u32 i27] ∧
                                                  IxC a0 i21 1 fun (b28 b29 : Nat) =>
                                                    ∃ (i30 : Int),
                                                      cellsAt h23 b28 b29 [Lf.int IntKind.u32 i30] ∧
                                                        Call Go.Proofs.Try.prog 80 [VV.lf (Lf.int IntKind.u32 i27), VV.lf (Lf.int IntKind.u32 i30)] h23
                                                          [VT.one LT.bool] fun (c31 : Bool) (h32 : Heap) =>
                                                          Br (!c31) (∃ (b33 : Nat), b33 < b24 ∧ I19 (IntKind.wrap IntKind.i64 (i21 + (1 : Int))) i22 h32 b33) (I18 i21 h32))
                                            (I18 i21 h23)) ∧
                                  ∀ (i34 : Int) (h35 : Heap),
                                    I18 i34 h35 →
                                      ∃ (I36 : Int → Heap → Prop),
                                        (∃ (I37 : Int → Heap → Nat → Prop),
                                            (∃ (b38 : Nat), I37 i15 h35 b38) ∧
                                              ∀ (i39 : Int) (h40 : Heap) (b41 : Nat),
                                                I37 i39 h40 b41 →
                                                  Br (Decidable.decide (i34 ≤ i39))
                                                    (IxC a0 a1 1 fun (b42 b43 : Nat) =>
                                                      ∃ (i44 : Int),
                                                        cellsAt h40 b42 b43 [Lf.int IntKind.u32 i44] ∧
                                                          IxC a0 i39 1 fun (b45 b46 : Nat) =>
                                                            ∃ (i47 : Int),
                                                              cellsAt h40 b45 b46 [Lf.int IntKind.u32 i47] ∧
                                                                Call Go.Proofs.Try.prog 80 [VV.lf (Lf.int IntKind.u32 i44), VV.lf (Lf.int IntKind.u32 i47)] h40
                                                                  [VT.one LT.bool] fun (c48 : Bool) (h49 : Heap) =>
                                                                  Br c48 (∃ (b50 : Nat), b50 < b41 ∧ I37 (IntKind.wrap IntKind.i64 (i39 - (1 : Int))) h49 b50) (I36 i39 h49))
                                                    (I36 i39 h40)) ∧
                                          ∀ (i51 : Int) (h52 : Heap),
                                            I36 i51 h52 →
                                              Br (Decidable.decide (i34 > i51)) (R i34 h52)
                                                (IxC a0 i51 1 fun (b53 b54 : Nat) =>
                                                  ∃ (i55 : Int),
                                                    cellsAt h52 b53 b54 [Lf.int IntKind.u32 i55] ∧
                                                      IxC a0 i34 1 fun (b56 b57 : Nat) =>
                                                        ∃ (i58 : Int),
                                                          cellsAt h52 b56 b57 [Lf.int IntKind.u32 i58] ∧
                                                            IxC a0 i34 1 fun (b59 b60 : Nat) =>
                                                              StC h52 b59 b60 [Lf.int IntKind.u32 i55] fun (h61 : Heap) =>
                                                                IxC a0 i51 1 fun (b62 b63 : Nat) =>
                                                                  StC h61 b62 b63 [Lf.int IntKind.u32 i58] fun (h64 : Heap) =>
                                                                    ∃ (b65 : Nat),
                                                                      b65 < b17 ∧ I12 (IntKind.wrap IntKind.i64 (i34 + (1 : Int))) (IntKind.wrap IntKind.i64 (i51 - (1 : Int))) h64 b65)
theorem eq81 (a0 : Slc) (a1 : Int) (a2 : Int) (a3 : Int) (h : Heap) (R : Int → Heap → Prop) : vc81 a0 a1 a2 a3 h R = vcFn Go.Proofs.Try.prog pl81 Go.Proofs.Try.f81 [.lf (.slc a0), .lf (.int .i64 a1), .lf (.int .i64 a2), .lf (.int .i64 a3)] h [.one (.int .i64)] R := by kernel_rfl
theorem ok81 {a0 : Slc} {a1 : Int} {a2 : Int} {a3 : Int} {h : Heap} {R : Int → Heap → Prop} (hv : vc81 a0 a1 a2 a3 h R) : Call Go.Proofs.Try.prog 81 [.lf (.slc a0), .lf (.int .i64 a1), .lf (.int .i64 a2), .lf (.int .i64 a3)] h [.one (.int .i64)] R := call_eq hng hmix Go.Proofs.Try.func81 (eq81 a0 a1 a2 a3 h R) hv
end Go.V.Ytclffphegfhocaa
