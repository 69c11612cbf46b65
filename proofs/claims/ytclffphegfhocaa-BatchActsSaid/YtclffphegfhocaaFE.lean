/- This text proves a part of the laws of seat Ytclffphegfhocaa, under no condition: B4e. -/
import Derived.Test.YtclffphegfhocaaEC
import Derived.Eval
import Derived.Test.YtclffphegfhocaaChecked
import Derived.Test.YtclffphegfhocaaEF
set_option linter.unusedVariables false
set_option maxRecDepth 100000
namespace Go.V.Ytclffphegfhocaa
open Go Go.V
/- 82: slices.partitionOrdered[uint32] () · blk 0: #10 · blk 2: #11 · blk 6: #10 · blk 8: #11 · loop 3: #10 · loop 5: #11 · loop 13: #10, #11 · loop 15: #11 -/
def pl82 : Plan := {
  blk := fun | 0 => some ⟨[(10, .one (.int .i64))], [], []⟩ | 2 => some ⟨[(11, .one (.int .i64))], [], []⟩ | 6 => some ⟨[(10, .one (.int .i64))], [], []⟩ | 8 => some ⟨[(11, .one (.int .i64))], [], []⟩ | _ => none
  seq := fun _ => none
  loop := fun | 3 => some ⟨[(10, .one (.int .i64))], [], []⟩ | 5 => some ⟨[(11, .one (.int .i64))], [], []⟩ | 13 => some ⟨[(10, .one (.int .i64)), (11, .one (.int .i64))], [], []⟩ | 15 => some ⟨[(11, .one (.int .i64))], [], []⟩ | _ => none
  live := fun | 0 => some [0, 1, 2, 3] | 1 => some [0, 1, 2] | 2 => some [0, 1, 10, 11] | 3 => some [0, 1, 10, 11, 43] | 4 => some [0, 1, 10, 11] | 5 => some [0, 1, 10, 11, 60] | 6 => some [0, 1, 10, 11] | 7 => some [0, 1, 10, 11, 65] | 8 => some [11] | 9 => some [8, 9] | 10 => some [0, 1, 10, 11] | 11 => some [0, 1, 10, 11] | 12 => some [0, 1, 10, 11] | 13 => some [0, 1, 10, 11, 112] | 14 => some [0, 1, 10, 11] | 15 => some [0, 1, 10, 11, 129] | 16 => some [0, 1, 10, 11] | 17 => some [0, 1, 10, 11, 134] | 18 => some [0, 1, 10, 11] | 19 => some [0, 1, 10, 11] | 20 => some [0, 1, 10, 11] | 21 => some [11] | 22 => some [8, 9] | _ => none
  track := fun | _ => false
  draw := fun | 1 => .still 0 (.still 1 (.still 2 (.still 3 (.still 4 (.still 5 (.still 6 (.still 7 (.still 8 (.still 9 (.still 10 (.still 11 (.still 12 (.mem 13 (.still 14 (.mem 15 (.done)))))))))))))))) | 3 => .still 0 (.still 1 (.still 2 (.still 3 (.still 4 (.still 5 (.still 6 (.still 7 (.still 8 (.still 9 (.still 10 (.still 11 (.mem 12 (.still 13 (.done)))))))))))))) | 5 => .still 0 (.still 1 (.still 2 (.still 3 (.still 4 (.still 5 (.still 6 (.still 7 (.still 8 (.still 9 (.still 10 (.still 11 (.mem 12 (.still 13 (.still 14 (.done))))))))))))))) | 8 => .still 0 (.still 1 (.still 2 (.still 3 (.still 4 (.still 5 (.still 6 (.still 7 (.still 8 (.still 9 (.still 10 (.still 11 (.still 12 (.mem 13 (.still 14 (.mem 15 (.done)))))))))))))))) | 10 => .still 0 (.still 1 (.still 2 (.still 3 (.still 4 (.still 5 (.still 6 (.still 7 (.still 8 (.still 9 (.still 10 (.still 11 (.still 12 (.mem 13 (.still 14 (.mem 15 (.done)))))))))))))))) | 13 => .still 0 (.still 1 (.still 2 (.still 3 (.still 4 (.still 5 (.still 6 (.still 7 (.still 8 (.still 9 (.still 10 (.still 11 (.mem 12 (.still 13 (.done)))))))))))))) | 15 => .still 0 (.still 1 (.still 2 (.still 3 (.still 4 (.still 5 (.still 6 (.still 7 (.still 8 (.still 9 (.still 10 (.still 11 (.mem 12 (.still 13 (.still 14 (.done))))))))))))))) | 18 => .still 0 (.still 1 (.still 2 (.still 3 (.still 4 (.still 5 (.still 6 (.still 7 (.still 8 (.still 9 (.still 10 (.still 11 (.still 12 (.mem 13 (.still 14 (.mem 15 (.done)))))))))))))))) | 21 => .still 0 (.still 1 (.still 2 (.still 3 (.still 4 (.still 5 (.still 6 (.still 7 (.still 8 (.still 9 (.still 10 (.still 11 (.still 12 (.mem 13 (.still 14 (.mem 15 (.done)))))))))))))))) | _ => .done
  iter := fun | _ => none }
def vc82 (a0 : Slc) (a1 : Int) (a2 : Int) (a3 : Int) (h : Heap) (R : Int → Bool → Heap → Prop) : Prop :=
  IxC a0 a3 1 fun (b0 b1 : Nat) =>
    ∃ (i2 : Int),
      cellsAt h b0 b1 [Lf.int IntKind.u32 i2] ∧
        IxC a0 a1 1 fun (b3 b4 : Nat) =>
          ∃ (i5 : Int),
            cellsAt h b3 b4 [Lf.int IntKind.u32 i5] ∧
              IxC a0 a1 1 fun (b6 b7 : Nat) =>
                StC h b6 b7 [Lf.int IntKind.u32 i2] fun (h8 : Heap) =>
                  IxC a0 a3 1 fun (b9 b10 : Nat) =>
                    StC h8 b9 b10 [Lf.int IntKind.u32 i5] fun (h11 : Heap) =>
                      ∃ (I12 : Int → Heap → Prop),
                        (∃ (I13 : Int → Heap → Nat → Prop),
                            (∃ (b14 : Nat), I13 (IntKind.wrap IntKind.i64 (a1 + (1 : Int))) h11 b14) ∧
                              ∀ (i15 : Int) (h16 : Heap) (b17 : Nat),
                                I13 i15 h16 b17 →
                                  Br (Decidable.decide (i15 ≤ IntKind.wrap IntKind.i64 (a2 - (1 : Int))))
                                    (IxC a0 i15 1 fun (b18 b19 : Nat) =>
                                      ∃ (i20 : Int),
                                        cellsAt h16 b18 b19 [Lf.int IntKind.u32 i20] ∧
                                          IxC a0 a1 1 fun (b21 b22 : Nat) =>
                                            ∃ (i23 : Int),
                                              cellsAt h16 b21 b22 [Lf.int IntKind.u32 i23] ∧
                                                Call Go.Proofs.Try.prog 80 [VV.lf (Lf.int IntKind.u32 i20), VV.lf (Lf.int IntKind.u32 i23)] h16
                                                  [VT.one LT.bool] fun (c24 : Bool) (h25 : Heap) =>
                                                  Br c24 (∃ (b26 : Nat), b26 < b17 ∧ I13 (IntKind.wrap IntKind.i64 (i15 + (1 : Int))) h25 b26) (I12 i15 h25))
                                    (I12 i15 h16)) ∧
                          ∀ (i27 : Int) (h28 : Heap),
                            I12 i27 h28 →
                              ∃ (I29 : Int → Heap → Prop),
                                (∃ (I30 : Int → Heap → Nat → Prop),
                                    (∃ (b31 : Nat), I30 (IntKind.wrap IntKind.i64 (a2 - (1 : Int))) h28 b31) ∧
                                      ∀ (i32 : Int) (h33 : Heap) (b34 : Nat),
                                        I30 i32 h33 b34 →
                                          Br (Decidable.decide (i27 ≤ i32))
                                            (IxC a0 i32 1 fun (b35 b36 : Nat) =>
                                              ∃ (i37 : Int),
                                                cellsAt h33 b35 b36 [Lf.int IntKind.u32 i37] ∧
                                                  IxC a0 a1 1 fun (b38 b39 : Nat) =>
                                                    ∃ (i40 : Int),
                                                      cellsAt h33 b38 b39 [Lf.int IntKind.u32 i40] ∧
                                                        Call Go.Proofs.Try.prog 80 [VV.lf (Lf.int IntKind.u32 i37), VV.lf (Lf.int IntKind.u32 i40)] h33
                                                          [VT.one LT.bool] fun (c41 : Bool) (h42 : Heap) =>
                                                          Br (!c41) (∃ (b43 : Nat), b43 < b34 ∧ I30 (IntKind.wrap IntKind.i64 (i32 - (1 : Int))) h42 b43) (I29 i32 h42))
                                            (I29 i32 h33)) ∧
                                  ∀ (i44 : Int) (h45 : Heap),
                                    I29 i44 h45 →
                                      Br (Decidable.decide (i27 > i44))
                                        (IxC a0 a1 1 fun (b46 b47 : Nat) =>
                                          ∃ (i48 : Int),
                                            cellsAt h45 b46 b47 [Lf.int IntKind.u32 i48] ∧
                                              IxC a0 i44 1 fun (b49 b50 : Nat) =>
                                                ∃ (i51 : Int),
                                                  cellsAt h45 b49 b50 [Lf.int IntKind.u32 i51] ∧
                                                    IxC a0 i44 1 fun (b52 b53 : Nat) =>
                                                      StC h45 b52 b53 [Lf.int IntKind.u32 i48] fun (h54 : Heap) =>
                                                        IxC a0 a1 1 fun (b55 b56 : Nat) =>
                                                          StC h54 b55 b56 [Lf.int IntKind.u32 i51] fun (h57 : Heap) => R i44 Bool.true h57)
                                        (IxC a0 i44 1 fun (b58 b59 : Nat) =>
                                          ∃ (i60 : Int),
                                            cellsAt h45 b58 b59 [Lf.int IntKind.u32 i60] ∧
                                              IxC a0 i27 1 fun (b61 b62 : Nat) =>
                                                ∃ (i63 : Int),
                                                  cellsAt h45 b61 b62 [Lf.int IntKind.u32 i63] ∧
                                                    IxC a0 i27 1 fun (b64 b65 : Nat) =>
                                                      StC h45 b64 b65 [Lf.int IntKind.u32 i60] fun (h66 : Heap) =>
                                                        IxC a0 i44 1 fun (b67 b68 : Nat) =>
                                                          StC h66 b67 b68 [Lf.int IntKind.u32 i63] fun (h69 : Heap) =>
                                                            ∃ (I70 : Int → Int → Heap → Nat → Prop),
                                                              (∃ (b71 : Nat), I70 (IntKind.wrap IntKind.i64 (i27 + (1 : Int))) (IntKind.wrap IntKind.i64 (i44 - (1 : Int))) h69 b71) ∧
                                                                ∀ (i72 i73 : Int) (h74 : Heap) (b75 : Nat),
                                                                  I70 i72 i73 h74 b75 →
                                                                    ∃ (I76 : Int → Heap → Prop),
                                                                      (∃ (I77 : Int → Int → Heap → Nat → Prop),
                                                                          (∃ (b78 : Nat), I77 i72 i73 h74 b78) ∧
                                                                            ∀ (i79 i80 : Int) (h81 : Heap) (b82 : Nat),
                                                                              I77 i79 i80 h81 b82 →
                                                                                Br (Decidable.decide (i79 ≤ i80))
                                                                                  (IxC a0 i79 1 fun (b83 b84 : Nat) =>
                                                                                    ∃ (i85 : Int),
                                                                                      cellsAt h81 b83 b84 [Lf.int IntKind.u32 i85] ∧
                                                                                        IxC a0 a1 1 fun (b86 b87 : Nat) =>
                                                                                          ∃ (i88 : Int),
                                                                                            cellsAt h81 b86 b87 [Lf.int IntKind.u32 i88] ∧
                                                                                              Call Go.Proofs.Try.prog 80
                                                                                                [VV.lf (Lf.int IntKind.u32 i85), VV.lf (Lf.int IntKind.u32 i88)] h81
                                                                                                [VT.one LT.bool] fun (c89 : Bool) (h90 : Heap) =>
                                                                                                Br c89
                                                                                                  (∃ (b91 : Nat), b91 < b82 ∧ I77 (IntKind.wrap IntKind.i64 (i79 + (1 : Int))) i80 h90 b91)
                                                                                                  (I76 i79 h90))
                                                                                  (I76 i79 h81)) ∧
                                                                        ∀ (i92 : Int) (h93 : Heap),
                                                                          I76 i92 h93 →
                                                                            ∃ (I94 : Int → Heap → Prop),
                                                                              (∃ (I95 : Int → Heap → Nat → Prop),
                                                                                  (∃ (b96 : Nat), I95 i73 h93 b96) ∧
                                                                                    ∀ (i97 : Int) (h98 : Heap) (b99 : Nat),
                                                                                      I95 i97 h98 b99 →
                                                                                        Br (Decidable.decide (i92 ≤ i97))
                                                                                          (IxC a0 i97 1 fun (b100 b101 : Nat) =>
                                                                                            ∃ (i102 : Int),
                                                                                              cellsAt h98 b100 b101 [Lf.int IntKind.u32 i102] ∧
                                                                                                IxC a0 a1 1 fun (b103 b104 : Nat) =>
                                                                                                  ∃ (i105 : Int),
                                                                                                    cellsAt h98 b103 b104 [Lf.int IntKind.u32 i105] ∧
                                                                                                      Call Go.Proofs.Try.prog 80
                                                                                                        [VV.lf (Lf.int IntKind.u32 i102), VV.lf (Lf.int IntKind.u32 i105)] h98
                                                                                                        [VT.one LT.bool] fun (c106 : Bool) (h107 : Heap) =>
                                                                                                        Br (!c106)
                                                                                                          (∃ (b108 : Nat), b108 < b99 ∧ I95 (IntKind.wrap IntKind.i64 (i97 - (1 : Int))) h107 b108)
                                                                                                          (I94 i97 h107))
                                                                                          (I94 i97 h98)) ∧
                                                                                ∀ (i109 : Int) (h110 : Heap),
                                                                                  I94 i109 h110 →
                                                                                    Br (Decidable.decide (i92 > i109))
                                                                                      (IxC a0 a1 1 fun (b111 b112 : Nat) =>
                                                                                        ∃ (i113 : Int),
                                                                                          cellsAt h110 b111 b112 [Lf.int IntKind.u32 i113] ∧
                                                                                            IxC a0 i109 1 fun (b114 b115 : Nat) =>
                                                                                              ∃ (i116 : Int),
                                                                                                cellsAt h110 b114 b115 [Lf.int IntKind.u32 i116] ∧
                                                                                                  IxC a0 i109 1 fun (b117 b118 : Nat) =>
                                                                                                    StC h110 b117 b118 [Lf.int IntKind.u32 i113] fun (h119 : Heap) =>
                                                                                                      IxC a0 a1 1 fun (b120 b121 : Nat) =>
                                                                                                        StC h119 b120 b121 [Lf.int IntKind.u32 i116] fun (h122 : Heap) =>
                                                                                                          R i109 Bool.false h122)
                                                                                      (IxC a0 i109 1 fun (b123 b124 : Nat) =>
                                                                                        ∃ (i125 : Int),
                                                                                          cellsAt h110 b123 b124 [Lf.int IntKind.u32 i125] ∧
                                                                                            IxC a0 i92 1 fun (b126 b127 : Nat) =>
                                                                                              ∃ (i128 : Int),
                                                                                                cellsAt h110 b126 b127 [Lf.int IntKind.u32 i128] ∧
                                                                                                  IxC a0 i92 1 fun (b129 b130 : Nat) =>
                                                                                                    StC h110 b129 b130 [Lf.int IntKind.u32 i125] fun (h131 : Heap) =>
                                                                                                      IxC a0 i109 1 fun (b132 b133 : Nat) =>
                                                                                                        StC h131 b132 b133 [Lf.int IntKind.u32 i128] fun (h134 : Heap) =>
                                                                                                          ∃ (b135 : Nat),
                                                                                                            b135 < b75 ∧
                                                                                                              I70 (IntKind.wrap IntKind.i64 (i92 + (1 : Int)))
                                                                                                                (IntKind.wrap IntKind.i64 (i109 - (1 : Int))) h134 b135))
theorem eq82 (a0 : Slc) (a1 : Int) (a2 : Int) (a3 : Int) (h : Heap) (R : Int → Bool → Heap → Prop) : vc82 a0 a1 a2 a3 h R = vcFn Go.Proofs.Try.prog pl82 Go.Proofs.Try.f82 [.lf (.slc a0), .lf (.int .i64 a1), .lf (.int .i64 a2), .lf (.int .i64 a3)] h [.one (.int .i64), .one .bool] R := by kernel_rfl
theorem ok82 {a0 : Slc} {a1 : Int} {a2 : Int} {a3 : Int} {h : Heap} {R : Int → Bool → Heap → Prop} (hv : vc82 a0 a1 a2 a3 h R) : Call Go.Proofs.Try.prog 82 [.lf (.slc a0), .lf (.int .i64 a1), .lf (.int .i64 a2), .lf (.int .i64 a3)] h [.one (.int .i64), .one .bool] R := call_eq hng hmix Go.Proofs.Try.func82 (eq82 a0 a1 a2 a3 h R) hv
end Go.V.Ytclffphegfhocaa
