/- This text proves a part of the laws of seat Ytclffphegfhocaa, under no condition: B4a. -/
import Derived.Test.YtclffphegfhocaaEC
import Derived.Eval
import Derived.Test.YtclffphegfhocaaChecked
import Derived.Test.YtclffphegfhocaaEF
set_option linter.unusedVariables false
set_option maxRecDepth 100000
namespace Go.V.Ytclffphegfhocaa
open Go Go.V
/- 80: cmp.Less[uint32] (x, y) -/
def pl80 : Plan := {
  blk := fun _ => none
  seq := fun _ => none
  loop := fun _ => none
  live := fun | 0 => some [0, 1] | 1 => some [4] | _ => none
  track := fun | _ => false
  draw := fun | _ => .done
  iter := fun | _ => none }
def vc80 (a0 : Int) (a1 : Int) (h : Heap) (R : Bool → Heap → Prop) : Prop :=
  Call Go.Proofs.Try.prog 90 [VV.lf (Lf.int IntKind.u32 a0)] h [VT.one LT.bool] fun (c0 : Bool) (h1 : Heap) =>
    Br c0
      (Call Go.Proofs.Try.prog 90 [VV.lf (Lf.int IntKind.u32 a1)] h1 [VT.one LT.bool] fun (c2 : Bool) (h3 : Heap) =>
        Br (!c2) (R Bool.true h3) (R (Decidable.decide (a0 < a1)) h3))
      (R (Decidable.decide (a0 < a1)) h1)
theorem eq80 (a0 : Int) (a1 : Int) (h : Heap) (R : Bool → Heap → Prop) : vc80 a0 a1 h R = vcFn Go.Proofs.Try.prog pl80 Go.Proofs.Try.f80 [.lf (.int .u32 a0), .lf (.int .u32 a1)] h [.one .bool] R := by kernel_rfl
theorem ok80 {a0 : Int} {a1 : Int} {h : Heap} {R : Bool → Heap → Prop} (hv : vc80 a0 a1 h R) : Call Go.Proofs.Try.prog 80 [.lf (.int .u32 a0), .lf (.int .u32 a1)] h [.one .bool] R := call_eq hng hmix Go.Proofs.Try.func80 (eq80 a0 a1 h R) hv
/- 90: cmp.isNaN[uint32] (x) -/
def pl90 : Plan := {
  blk := fun _ => none
  seq := fun _ => none
  loop := fun _ => none
  live := fun | 0 => some [0] | 1 => some [2] | _ => none
  track := fun | _ => false
  draw := fun | _ => .done
  iter := fun | _ => none }
def vc90 (a0 : Int) (h : Heap) (R : Bool → Heap → Prop) : Prop :=
  R (a0 != a0) h
theorem eq90 (a0 : Int) (h : Heap) (R : Bool → Heap → Prop) : vc90 a0 h R = vcFn Go.Proofs.Try.prog pl90 Go.Proofs.Try.f90 [.lf (.int .u32 a0)] h [.one .bool] R := by kernel_rfl
theorem ok90 {a0 : Int} {h : Heap} {R : Bool → Heap → Prop} (hv : vc90 a0 h R) : Call Go.Proofs.Try.prog 90 [.lf (.int .u32 a0)] h [.one .bool] R := call_eq hng hmix Go.Proofs.Try.func90 (eq90 a0 h R) hv
/- 74: slices.insertionSortOrdered[uint32] (data, a, b) · seq 6:  · loop 1: i · loop 4: j -/
def pl74 : Plan := {
  blk := fun _ => none
  seq := fun | 6 => some ⟨[], [], []⟩ | _ => none
  loop := fun | 1 => some ⟨[(6, .one (.int .i64))], [], []⟩ | 4 => some ⟨[(7, .one (.int .i64))], [], []⟩ | _ => none
  live := fun | 0 => some [0, 1, 2, 6] | 1 => some [0, 1, 2, 6, 12] | 2 => some [0, 1, 2, 6] | 3 => some [0, 1, 2, 6, 7] | 4 => some [0, 1, 2, 6, 7, 30] | 5 => some [0, 1, 2, 6, 7] | 6 => some [0, 1, 2, 6, 7] | _ => none
  track := fun | _ => false
  draw := fun | 4 => .still 0 (.still 1 (.still 2 (.still 3 (.still 4 (.still 5 (.still 6 (.still 7 (.still 8 (.still 9 (.still 10 (.still 11 (.still 12 (.mem 13 (.still 14 (.done))))))))))))))) | 6 => .still 0 (.still 1 (.still 2 (.still 3 (.still 4 (.still 5 (.still 6 (.still 7 (.still 8 (.still 9 (.still 10 (.still 11 (.still 12 (.still 13 (.still 14 (.mem 15 (.still 16 (.mem 17 (.done)))))))))))))))))) | _ => .done
  iter := fun | _ => none }
def vc74 (a0 : Slc) (a1 : Int) (a2 : Int) (h : Heap) (R : Heap → Prop) : Prop :=
  ∃ (I0 : Int → Heap → Nat → Prop),
    (∃ (b1 : Nat), I0 (IntKind.wrap IntKind.i64 (a1 + (1 : Int))) h b1) ∧
      ∀ (i2 : Int) (h3 : Heap) (b4 : Nat),
        I0 i2 h3 b4 →
          Br (Decidable.decide (i2 < a2))
            (∃ (I5 : Int → Heap → Nat → Prop),
              (∃ (b6 : Nat), I5 i2 h3 b6) ∧
                ∀ (i7 : Int) (h8 : Heap) (b9 : Nat),
                  I5 i7 h8 b9 →
                    ∃ (I10 : Heap → Prop),
                      Br (Decidable.decide (i7 > a1))
                          (IxC a0 i7 1 fun (b11 b12 : Nat) =>
                            ∃ (i13 : Int),
                              cellsAt h8 b11 b12 [Lf.int IntKind.u32 i13] ∧
                                IxC a0 (IntKind.wrap IntKind.i64 (i7 - (1 : Int))) 1 fun (b14 b15 : Nat) =>
                                  ∃ (i16 : Int),
                                    cellsAt h8 b14 b15 [Lf.int IntKind.u32 i16] ∧
                                      Call Go.Proofs.Try.prog 80 [VV.lf (Lf.int IntKind.u32 i13), VV.lf (Lf.int IntKind.u32 i16)] h8 [VT.one LT.bool]
                                        fun (c17 : Bool) (h18 : Heap) => Br c17 (I10 h18) (∃ (b19 : Nat), b19 < b4 ∧ I0 (IntKind.wrap IntKind.i64 (i2 + (1 : Int))) h18 b19))
                          (∃ (b20 : Nat), b20 < b4 ∧ I0 (IntKind.wrap IntKind.i64 (i2 + (1 : Int))) h8 b20) ∧
                        ∀ (h21 : Heap),
                          I10 h21 →
                            IxC a0 (IntKind.wrap IntKind.i64 (i7 - (1 : Int))) 1 fun (b22 b23 : Nat) =>
                              ∃ (i24 : Int),
                                cellsAt h21 b22 b23 [Lf.int IntKind.u32 i24] ∧
                                  IxC a0 i7 1 fun (b25 b26 : Nat) =>
                                    ∃ (i27 : Int),
                                      cellsAt h21 b25 b26 [Lf.int IntKind.u32 i27] ∧
                                        IxC a0 i7 1 fun (b28 b29 : Nat) =>
                                          StC h21 b28 b29 [Lf.int IntKind.u32 i24] fun (h30 : Heap) =>
                                            IxC a0 (IntKind.wrap IntKind.i64 (i7 - (1 : Int))) 1 fun (b31 b32 : Nat) =>
                                              StC h30 b31 b32 [Lf.int IntKind.u32 i27] fun (h33 : Heap) =>
                                                ∃ (b34 : Nat), b34 < b9 ∧ I5 (IntKind.wrap IntKind.i64 (i7 - (1 : Int))) h33 b34)
            (R h3)
theorem eq74 (a0 : Slc) (a1 : Int) (a2 : Int) (h : Heap) (R : Heap → Prop) : vc74 a0 a1 a2 h R = vcFn Go.Proofs.Try.prog pl74 Go.Proofs.Try.f74 [.lf (.slc a0), .lf (.int .i64 a1), .lf (.int .i64 a2)] h [] R := by kernel_rfl
theorem ok74 {a0 : Slc} {a1 : Int} {a2 : Int} {h : Heap} {R : Heap → Prop} (hv : vc74 a0 a1 a2 h R) : Call Go.Proofs.Try.prog 74 [.lf (.slc a0), .lf (.int .i64 a1), .lf (.int .i64 a2)] h [] R := call_eq hng hmix Go.Proofs.Try.func74 (eq74 a0 a1 a2 h R) hv
/- 85: slices.siftDownOrdered[uint32] () · seq 4: #36 · seq 5: #9 · loop 1: #8 -/
def pl85 : Plan := {
  blk := fun _ => none
  seq := fun | 4 => some ⟨[(36, .one .bool)], [], []⟩ | 5 => some ⟨[(9, .one (.int .i64))], [], []⟩ | _ => none
  loop := fun | 1 => some ⟨[(8, .one (.int .i64))], [], []⟩ | _ => none
  live := fun | 0 => some [0, 2, 3, 8] | 1 => some [0, 2, 3, 8, 9] | 2 => some [0, 2, 3, 8, 9, 16] | 3 => some [0, 2, 3, 8, 9, 36] | 4 => some [0, 2, 3, 8, 9] | 5 => some [0, 2, 3, 8, 9, 52] | 6 => some [0, 2, 3, 9] | 7 => some [0, 2, 3, 8] | _ => none
  track := fun | _ => false
  draw := fun | 3 => .still 0 (.still 1 (.still 2 (.still 3 (.still 4 (.still 5 (.still 6 (.still 7 (.still 8 (.still 9 (.still 10 (.still 11 (.still 12 (.still 13 (.still 14 (.still 15 (.still 16 (.still 17 (.mem 18 (.still 19 (.done)))))))))))))))))))) | 5 => .still 0 (.still 1 (.still 2 (.still 3 (.still 4 (.still 5 (.still 6 (.still 7 (.still 8 (.still 9 (.still 10 (.still 11 (.mem 12 (.still 13 (.done)))))))))))))) | 6 => .still 0 (.still 1 (.still 2 (.still 3 (.still 4 (.still 5 (.still 6 (.still 7 (.still 8 (.still 9 (.still 10 (.still 11 (.still 12 (.still 13 (.still 14 (.still 15 (.still 16 (.still 17 (.still 18 (.still 19 (.still 20 (.mem 21 (.still 22 (.mem 23 (.done)))))))))))))))))))))))) | _ => .done
  iter := fun | _ => none }
def vc85 (a0 : Slc) (a1 : Int) (a2 : Int) (a3 : Int) (h : Heap) (R : Heap → Prop) : Prop :=
  ∃ (I0 : Int → Heap → Nat → Prop),
    (∃ (b1 : Nat), I0 a1 h b1) ∧
      ∀ (i2 : Int) (h3 : Heap) (b4 : Nat),
        I0 i2 h3 b4 →
          Br (Decidable.decide (IntKind.wrap IntKind.i64 (IntKind.wrap IntKind.i64 ((2 : Int) * i2) + (1 : Int)) ≥ a2)) (R h3)
            (∃ (I5 : Int → Heap → Prop),
              (∃ (I6 : Bool → Heap → Prop),
                  Br (Decidable.decide (IntKind.wrap IntKind.i64 (IntKind.wrap IntKind.i64 (IntKind.wrap IntKind.i64 ((2 : Int) * i2) + (1 : Int)) + (1 : Int)) < a2))
                      (IxC a0 (IntKind.wrap IntKind.i64 (a3 + IntKind.wrap IntKind.i64 (IntKind.wrap IntKind.i64 ((2 : Int) * i2) + (1 : Int)))) 1 fun (b7 b8 : Nat) =>
                        ∃ (i9 : Int),
                          cellsAt h3 b7 b8 [Lf.int IntKind.u32 i9] ∧
                            IxC a0
                              (IntKind.wrap IntKind.i64
                                (IntKind.wrap IntKind.i64 (a3 + IntKind.wrap IntKind.i64 (IntKind.wrap IntKind.i64 ((2 : Int) * i2) + (1 : Int))) + (1 : Int)))
                              1 fun (b10 b11 : Nat) =>
                              ∃ (i12 : Int),
                                cellsAt h3 b10 b11 [Lf.int IntKind.u32 i12] ∧
                                  Call Go.Proofs.Try.prog 80 [VV.lf (Lf.int IntKind.u32 i9), VV.lf (Lf.int IntKind.u32 i12)] h3 [VT.one LT.bool]
                                    fun (c13 : Bool) (h14 : Heap) => I6 c13 h14)
                      (I6 Bool.false h3) ∧
                    ∀ (c15 : Bool) (h16 : Heap),
                      I6 c15 h16 →
                        Br c15 (I5 (IntKind.wrap IntKind.i64 (IntKind.wrap IntKind.i64 (IntKind.wrap IntKind.i64 ((2 : Int) * i2) + (1 : Int)) + (1 : Int))) h16)
                          (I5 (IntKind.wrap IntKind.i64 (IntKind.wrap IntKind.i64 ((2 : Int) * i2) + (1 : Int))) h16)) ∧
                ∀ (i17 : Int) (h18 : Heap),
                  I5 i17 h18 →
                    IxC a0 (IntKind.wrap IntKind.i64 (a3 + i2)) 1 fun (b19 b20 : Nat) =>
                      ∃ (i21 : Int),
                        cellsAt h18 b19 b20 [Lf.int IntKind.u32 i21] ∧
                          IxC a0 (IntKind.wrap IntKind.i64 (a3 + i17)) 1 fun (b22 b23 : Nat) =>
                            ∃ (i24 : Int),
                              cellsAt h18 b22 b23 [Lf.int IntKind.u32 i24] ∧
                                Call Go.Proofs.Try.prog 80 [VV.lf (Lf.int IntKind.u32 i21), VV.lf (Lf.int IntKind.u32 i24)] h18 [VT.one LT.bool]
                                  fun (c25 : Bool) (h26 : Heap) =>
                                  Br (!c25) (R h26)
                                    (IxC a0 (IntKind.wrap IntKind.i64 (a3 + i17)) 1 fun (b27 b28 : Nat) =>
                                      ∃ (i29 : Int),
                                        cellsAt h26 b27 b28 [Lf.int IntKind.u32 i29] ∧
                                          IxC a0 (IntKind.wrap IntKind.i64 (a3 + i2)) 1 fun (b30 b31 : Nat) =>
                                            ∃ (i32 : Int),
                                              cellsAt h26 b30 b31 [Lf.int IntKind.u32 i32] ∧
                                                IxC a0 (IntKind.wrap IntKind.i64 (a3 + i2)) 1 fun (b33 b34 : Nat) =>
                                                  StC h26 b33 b34 [Lf.int IntKind.u32 i29] fun (h35 : Heap) =>
                                                    IxC a0 (IntKind.wrap IntKind.i64 (a3 + i17)) 1 fun (b36 b37 : Nat) =>
                                                      StC h35 b36 b37 [Lf.int IntKind.u32 i32] fun (h38 : Heap) => ∃ (b39 : Nat), b39 < b4 ∧ I0 i17 h38 b39))
theorem eq85 (a0 : Slc) (a1 : Int) (a2 : Int) (a3 : Int) (h : Heap) (R : Heap → Prop) : vc85 a0 a1 a2 a3 h R = vcFn Go.Proofs.Try.prog pl85 Go.Proofs.Try.f85 [.lf (.slc a0), .lf (.int .i64 a1), .lf (.int .i64 a2), .lf (.int .i64 a3)] h [] R := by kernel_rfl
theorem ok85 {a0 : Slc} {a1 : Int} {a2 : Int} {a3 : Int} {h : Heap} {R : Heap → Prop} (hv : vc85 a0 a1 a2 a3 h R) : Call Go.Proofs.Try.prog 85 [.lf (.slc a0), .lf (.int .i64 a1), .lf (.int .i64 a2), .lf (.int .i64 a3)] h [] R := call_eq hng hmix Go.Proofs.Try.func85 (eq85 a0 a1 a2 a3 h R) hv
/- 75: slices.heapSortOrdered[uint32] (data, a, b) · loop 4: i · loop 8: i -/
def pl75 : Plan := {
  blk := fun _ => none
  seq := fun _ => none
  loop := fun | 4 => some ⟨[(9, .one (.int .i64))], [], []⟩ | 8 => some ⟨[(10, .one (.int .i64))], [], []⟩ | _ => none
  live := fun | 0 => some [0, 1, 2, 6] | 1 => some [0, 1, 2, 6, 7] | 2 => some [0, 6, 7, 8] | 3 => some [0, 6, 7, 8, 9] | 4 => some [0, 6, 7, 8, 9, 19] | 5 => some [0, 6, 7, 8, 9] | 6 => some [0, 6, 7, 8, 9] | 7 => some [0, 6, 7, 10] | 8 => some [0, 6, 7, 10, 30] | 9 => some [0, 6, 7, 10] | 10 => some [0, 6, 7, 10] | 11 => some [0, 6, 7, 10] | _ => none
  track := fun | _ => false
  draw := fun | 10 => .still 0 (.still 1 (.still 2 (.still 3 (.still 4 (.still 5 (.still 6 (.still 7 (.still 8 (.still 9 (.still 10 (.still 11 (.still 12 (.still 13 (.still 14 (.still 15 (.still 16 (.mem 17 (.still 18 (.mem 19 (.done)))))))))))))))))))) | _ => .done
  iter := fun | _ => none }
def vc75 (a0 : Slc) (a1 : Int) (a2 : Int) (h : Heap) (R : Heap → Prop) : Prop :=
  ((2 : Int) = (0 : Int) → False) ∧
    ∃ (I0 : Int → Heap → Nat → Prop),
      (∃ (b1 : Nat), I0 (IntKind.wrap IntKind.i64 (Int.tdiv (IntKind.wrap IntKind.i64 (IntKind.wrap IntKind.i64 (a2 - a1) - (1 : Int))) (2 : Int))) h b1) ∧
        ∀ (i2 : Int) (h3 : Heap) (b4 : Nat),
          I0 i2 h3 b4 →
            Br (Decidable.decide (i2 ≥ (0 : Int)))
              (Call Go.Proofs.Try.prog 85
                [VV.lf (Lf.slc a0), VV.lf (Lf.int IntKind.i64 i2), VV.lf (Lf.int IntKind.i64 (IntKind.wrap IntKind.i64 (a2 - a1))),
                  VV.lf (Lf.int IntKind.i64 a1)]
                h3 [] fun (h5 : Heap) => ∃ (b6 : Nat), b6 < b4 ∧ I0 (IntKind.wrap IntKind.i64 (i2 - (1 : Int))) h5 b6)
              (∃ (I7 : Int → Heap → Nat → Prop),
                (∃ (b8 : Nat), I7 (IntKind.wrap IntKind.i64 (IntKind.wrap IntKind.i64 (a2 - a1) - (1 : Int))) h3 b8) ∧
                  ∀ (i9 : Int) (h10 : Heap) (b11 : Nat),
                    I7 i9 h10 b11 →
                      Br (Decidable.decide (i9 ≥ (0 : Int)))
                        (IxC a0 (IntKind.wrap IntKind.i64 (a1 + i9)) 1 fun (b12 b13 : Nat) =>
                          ∃ (i14 : Int),
                            cellsAt h10 b12 b13 [Lf.int IntKind.u32 i14] ∧
                              IxC a0 a1 1 fun (b15 b16 : Nat) =>
                                ∃ (i17 : Int),
                                  cellsAt h10 b15 b16 [Lf.int IntKind.u32 i17] ∧
                                    IxC a0 a1 1 fun (b18 b19 : Nat) =>
                                      StC h10 b18 b19 [Lf.int IntKind.u32 i14] fun (h20 : Heap) =>
                                        IxC a0 (IntKind.wrap IntKind.i64 (a1 + i9)) 1 fun (b21 b22 : Nat) =>
                                          StC h20 b21 b22 [Lf.int IntKind.u32 i17] fun (h23 : Heap) =>
                                            Call Go.Proofs.Try.prog 85
                                              [VV.lf (Lf.slc a0), VV.lf (Lf.int IntKind.i64 (0 : Int)), VV.lf (Lf.int IntKind.i64 i9),
                                                VV.lf (Lf.int IntKind.i64 a1)]
                                              h23 [] fun (h24 : Heap) => ∃ (b25 : Nat), b25 < b11 ∧ I7 (IntKind.wrap IntKind.i64 (i9 - (1 : Int))) h24 b25)
                        (R h10))
theorem eq75 (a0 : Slc) (a1 : Int) (a2 : Int) (h : Heap) (R : Heap → Prop) : vc75 a0 a1 a2 h R = vcFn Go.Proofs.Try.prog pl75 Go.Proofs.Try.f75 [.lf (.slc a0), .lf (.int .i64 a1), .lf (.int .i64 a2)] h [] R := by kernel_rfl
theorem ok75 {a0 : Slc} {a1 : Int} {a2 : Int} {h : Heap} {R : Heap → Prop} (hv : vc75 a0 a1 a2 h R) : Call Go.Proofs.Try.prog 75 [.lf (.slc a0), .lf (.int .i64 a1), .lf (.int .i64 a2)] h [] R := call_eq hng hmix Go.Proofs.Try.func75 (eq75 a0 a1 a2 h R) hv
/- 79: slices.partialInsertionSortOrdered[uint32] () · blk 2: #7 · blk 4:  · seq 18:  · loop 3: #7, #8 · loop 5: #7 · loop 14: #9 · loop 20: #10 -/
def pl79 : Plan := {
  blk := fun | 2 => some ⟨[(7, .one (.int .i64))], [], []⟩ | 4 => some ⟨[], [], []⟩ | _ => none
  seq := fun | 18 => some ⟨[], [], []⟩ | _ => none
  loop := fun | 3 => some ⟨[(7, .one (.int .i64)), (8, .one (.int .i64))], [], []⟩ | 5 => some ⟨[(7, .one (.int .i64))], [], []⟩ | 14 => some ⟨[(9, .one (.int .i64))], [], []⟩ | 20 => some ⟨[(10, .one (.int .i64))], [], []⟩ | _ => none
  live := fun | 0 => some [0, 1, 2] | 1 => some [0, 1, 2, 7] | 2 => some [0, 1, 2, 7, 8] | 3 => some [0, 1, 2, 7, 8, 14] | 4 => some [0, 1, 2, 7, 8] | 5 => some [0, 1, 2, 7, 8, 32] | 6 => some [0, 1, 2, 7, 8] | 7 => some [0, 1, 2, 7, 8, 37] | 8 => some [6] | 9 => some [0, 1, 2, 7, 8, 41] | 10 => some [6] | 11 => some [0, 1, 2, 7, 8] | 12 => some [0, 1, 2, 7, 8, 61] | 13 => some [0, 1, 2, 7, 8, 9] | 14 => some [0, 1, 2, 7, 8, 9, 65] | 15 => some [0, 1, 2, 7, 8, 9] | 16 => some [0, 1, 2, 7, 8, 9, 78] | 17 => some [0, 1, 2, 7, 8, 9] | 18 => some [0, 1, 2, 7, 8, 98] | 19 => some [0, 1, 2, 7, 8, 10] | 20 => some [0, 1, 2, 7, 8, 10, 103] | 21 => some [0, 1, 2, 7, 8, 10] | 22 => some [0, 1, 2, 7, 8, 10, 116] | 23 => some [0, 1, 2, 7, 8, 10] | 24 => some [6] | _ => none
  track := fun | _ => false
  draw := fun | 5 => .still 0 (.still 1 (.still 2 (.still 3 (.still 4 (.still 5 (.still 6 (.still 7 (.still 8 (.still 9 (.still 10 (.still 11 (.still 12 (.mem 13 (.still 14 (.still 15 (.done)))))))))))))))) | 11 => .still 0 (.still 1 (.still 2 (.still 3 (.still 4 (.still 5 (.still 6 (.still 7 (.still 8 (.still 9 (.still 10 (.still 11 (.still 12 (.still 13 (.still 14 (.mem 15 (.still 16 (.mem 17 (.done)))))))))))))))))) | 16 => .still 0 (.still 1 (.still 2 (.still 3 (.still 4 (.still 5 (.still 6 (.still 7 (.still 8 (.mem 9 (.still 10 (.done))))))))))) | 17 => .still 0 (.still 1 (.still 2 (.still 3 (.still 4 (.still 5 (.still 6 (.still 7 (.still 8 (.still 9 (.still 10 (.still 11 (.still 12 (.still 13 (.still 14 (.mem 15 (.still 16 (.mem 17 (.done)))))))))))))))))) | 22 => .still 0 (.still 1 (.still 2 (.still 3 (.still 4 (.still 5 (.still 6 (.still 7 (.still 8 (.mem 9 (.still 10 (.done))))))))))) | 23 => .still 0 (.still 1 (.still 2 (.still 3 (.still 4 (.still 5 (.still 6 (.still 7 (.still 8 (.still 9 (.still 10 (.still 11 (.still 12 (.still 13 (.still 14 (.mem 15 (.still 16 (.mem 17 (.done)))))))))))))))))) | _ => .done
  iter := fun | _ => none }
def vc79 (a0 : Slc) (a1 : Int) (a2 : Int) (h : Heap) (R : Bool → Heap → Prop) : Prop :=
  ∃ (I0 : Int → Int → Heap → Nat → Prop),
    (∃ (b1 : Nat), I0 (IntKind.wrap IntKind.i64 (a1 + (1 : Int))) (0 : Int) h b1) ∧
      ∀ (i2 i3 : Int) (h4 : Heap) (b5 : Nat),
        I0 i2 i3 h4 b5 →
          Br (Decidable.decide (i3 < (5 : Int)))
            (∃ (I6 : Int → Heap → Prop),
              (∃ (I7 : Int → Heap → Nat → Prop),
                  (∃ (b8 : Nat), I7 i2 h4 b8) ∧
                    ∀ (i9 : Int) (h10 : Heap) (b11 : Nat),
                      I7 i9 h10 b11 →
                        Br (Decidable.decide (i9 < a2))
                          (IxC a0 i9 1 fun (b12 b13 : Nat) =>
                            ∃ (i14 : Int),
                              cellsAt h10 b12 b13 [Lf.int IntKind.u32 i14] ∧
                                IxC a0 (IntKind.wrap IntKind.i64 (i9 - (1 : Int))) 1 fun (b15 b16 : Nat) =>
                                  ∃ (i17 : Int),
                                    cellsAt h10 b15 b16 [Lf.int IntKind.u32 i17] ∧
                                      Call Go.Proofs.Try.prog 80 [VV.lf (Lf.int IntKind.u32 i14), VV.lf (Lf.int IntKind.u32 i17)] h10 [VT.one LT.bool]
                                        fun (c18 : Bool) (h19 : Heap) => Br (!c18) (∃ (b20 : Nat), b20 < b11 ∧ I7 (IntKind.wrap IntKind.i64 (i9 + (1 : Int))) h19 b20) (I6 i9 h19))
                          (I6 i9 h10)) ∧
                ∀ (i21 : Int) (h22 : Heap),
                  I6 i21 h22 →
                    Br (i21 == a2) (R Bool.true h22)
                      (Br (Decidable.decide (IntKind.wrap IntKind.i64 (a2 - a1) < (50 : Int))) (R Bool.false h22)
                        (IxC a0 (IntKind.wrap IntKind.i64 (i21 - (1 : Int))) 1 fun (b23 b24 : Nat) =>
                          ∃ (i25 : Int),
                            cellsAt h22 b23 b24 [Lf.int IntKind.u32 i25] ∧
                              IxC a0 i21 1 fun (b26 b27 : Nat) =>
                                ∃ (i28 : Int),
                                  cellsAt h22 b26 b27 [Lf.int IntKind.u32 i28] ∧
                                    IxC a0 i21 1 fun (b29 b30 : Nat) =>
                                      StC h22 b29 b30 [Lf.int IntKind.u32 i25] fun (h31 : Heap) =>
                                        IxC a0 (IntKind.wrap IntKind.i64 (i21 - (1 : Int))) 1 fun (b32 b33 : Nat) =>
                                          StC h31 b32 b33 [Lf.int IntKind.u32 i28] fun (h34 : Heap) =>
                                            ∃ (I35 : Heap → Prop),
                                              Br (Decidable.decide (IntKind.wrap IntKind.i64 (i21 - a1) ≥ (2 : Int)))
                                                  (∃ (I36 : Heap → Prop),
                                                    (∃ (I37 : Int → Heap → Nat → Prop),
                                                        (∃ (b38 : Nat), I37 (IntKind.wrap IntKind.i64 (i21 - (1 : Int))) h34 b38) ∧
                                                          ∀ (i39 : Int) (h40 : Heap) (b41 : Nat),
                                                            I37 i39 h40 b41 →
                                                              Br (Decidable.decide (i39 ≥ (1 : Int)))
                                                                (IxC a0 i39 1 fun (b42 b43 : Nat) =>
                                                                  ∃ (i44 : Int),
                                                                    cellsAt h40 b42 b43 [Lf.int IntKind.u32 i44] ∧
                                                                      IxC a0 (IntKind.wrap IntKind.i64 (i39 - (1 : Int))) 1 fun (b45 b46 : Nat) =>
                                                                        ∃ (i47 : Int),
                                                                          cellsAt h40 b45 b46 [Lf.int IntKind.u32 i47] ∧
                                                                            Call Go.Proofs.Try.prog 80
                                                                              [VV.lf (Lf.int IntKind.u32 i44), VV.lf (Lf.int IntKind.u32 i47)] h40 [VT.one LT.bool]
                                                                              fun (c48 : Bool) (h49 : Heap) =>
                                                                              Br (!c48) (I36 h49)
                                                                                (IxC a0 (IntKind.wrap IntKind.i64 (i39 - (1 : Int))) 1 fun (b50 b51 : Nat) =>
                                                                                  ∃ (i52 : Int),
                                                                                    cellsAt h49 b50 b51 [Lf.int IntKind.u32 i52] ∧
                                                                                      IxC a0 i39 1 fun (b53 b54 : Nat) =>
                                                                                        ∃ (i55 : Int),
                                                                                          cellsAt h49 b53 b54 [Lf.int IntKind.u32 i55] ∧
                                                                                            IxC a0 i39 1 fun (b56 b57 : Nat) =>
                                                                                              StC h49 b56 b57 [Lf.int IntKind.u32 i52] fun (h58 : Heap) =>
                                                                                                IxC a0 (IntKind.wrap IntKind.i64 (i39 - (1 : Int))) 1 fun (b59 b60 : Nat) =>
                                                                                                  StC h58 b59 b60 [Lf.int IntKind.u32 i55] fun (h61 : Heap) =>
                                                                                                    ∃ (b62 : Nat), b62 < b41 ∧ I37 (IntKind.wrap IntKind.i64 (i39 - (1 : Int))) h61 b62))
                                                                (I36 h40)) ∧
                                                      ∀ (h63 : Heap), I36 h63 → I35 h63)
                                                  (I35 h34) ∧
                                                ∀ (h64 : Heap),
                                                  I35 h64 →
                                                    Br (Decidable.decide (IntKind.wrap IntKind.i64 (a2 - i21) ≥ (2 : Int)))
                                                      (∃ (I65 : Int → Heap → Nat → Prop),
                                                        (∃ (b66 : Nat), I65 (IntKind.wrap IntKind.i64 (i21 + (1 : Int))) h64 b66) ∧
                                                          ∀ (i67 : Int) (h68 : Heap) (b69 : Nat),
                                                            I65 i67 h68 b69 →
                                                              Br (Decidable.decide (i67 < a2))
                                                                (IxC a0 i67 1 fun (b70 b71 : Nat) =>
                                                                  ∃ (i72 : Int),
                                                                    cellsAt h68 b70 b71 [Lf.int IntKind.u32 i72] ∧
                                                                      IxC a0 (IntKind.wrap IntKind.i64 (i67 - (1 : Int))) 1 fun (b73 b74 : Nat) =>
                                                                        ∃ (i75 : Int),
                                                                          cellsAt h68 b73 b74 [Lf.int IntKind.u32 i75] ∧
                                                                            Call Go.Proofs.Try.prog 80
                                                                              [VV.lf (Lf.int IntKind.u32 i72), VV.lf (Lf.int IntKind.u32 i75)] h68 [VT.one LT.bool]
                                                                              fun (c76 : Bool) (h77 : Heap) =>
                                                                              Br (!c76) (∃ (b78 : Nat), b78 < b5 ∧ I0 i21 (IntKind.wrap IntKind.i64 (i3 + (1 : Int))) h77 b78)
                                                                                (IxC a0 (IntKind.wrap IntKind.i64 (i67 - (1 : Int))) 1 fun (b79 b80 : Nat) =>
                                                                                  ∃ (i81 : Int),
                                                                                    cellsAt h77 b79 b80 [Lf.int IntKind.u32 i81] ∧
                                                                                      IxC a0 i67 1 fun (b82 b83 : Nat) =>
                                                                                        ∃ (i84 : Int),
                                                                                          cellsAt h77 b82 b83 [Lf.int IntKind.u32 i84] ∧
                                                                                            IxC a0 i67 1 fun (b85 b86 : Nat) =>
                                                                                              StC h77 b85 b86 [Lf.int IntKind.u32 i81] fun (h87 : Heap) =>
                                                                                                IxC a0 (IntKind.wrap IntKind.i64 (i67 - (1 : Int))) 1 fun (b88 b89 : Nat) =>
                                                                                                  StC h87 b88 b89 [Lf.int IntKind.u32 i84] fun (h90 : Heap) =>
                                                                                                    ∃ (b91 : Nat), b91 < b69 ∧ I65 (IntKind.wrap IntKind.i64 (i67 + (1 : Int))) h90 b91))
                                                                (∃ (b92 : Nat), b92 < b5 ∧ I0 i21 (IntKind.wrap IntKind.i64 (i3 + (1 : Int))) h68 b92))
                                                      (∃ (b93 : Nat), b93 < b5 ∧ I0 i21 (IntKind.wrap IntKind.i64 (i3 + (1 : Int))) h64 b93))))
            (R Bool.false h4)
theorem eq79 (a0 : Slc) (a1 : Int) (a2 : Int) (h : Heap) (R : Bool → Heap → Prop) : vc79 a0 a1 a2 h R = vcFn Go.Proofs.Try.prog pl79 Go.Proofs.Try.f79 [.lf (.slc a0), .lf (.int .i64 a1), .lf (.int .i64 a2)] h [.one .bool] R := by kernel_rfl
theorem ok79 {a0 : Slc} {a1 : Int} {a2 : Int} {h : Heap} {R : Bool → Heap → Prop} (hv : vc79 a0 a1 a2 h R) : Call Go.Proofs.Try.prog 79 [.lf (.slc a0), .lf (.int .i64 a1), .lf (.int .i64 a2)] h [.one .bool] R := call_eq hng hmix Go.Proofs.Try.func79 (eq79 a0 a1 a2 h R) hv
/- 78: slices.reverseRangeOrdered[uint32] (data, a, b) · loop 2: i, j -/
def pl78 : Plan := {
  blk := fun _ => none
  seq := fun _ => none
  loop := fun | 2 => some ⟨[(6, .one (.int .i64)), (7, .one (.int .i64))], [], []⟩ | _ => none
  live := fun | 0 => some [0, 2, 6] | 1 => some [0, 6, 7] | 2 => some [0, 6, 7, 13] | 3 => some [0, 6, 7] | 4 => some [0, 6, 7] | 5 => some [0, 6, 7] | _ => none
  track := fun | _ => false
  draw := fun | 3 => .still 0 (.still 1 (.still 2 (.still 3 (.still 4 (.still 5 (.still 6 (.still 7 (.still 8 (.still 9 (.still 10 (.still 11 (.still 12 (.mem 13 (.still 14 (.mem 15 (.done)))))))))))))))) | _ => .done
  iter := fun | _ => none }
def vc78 (a0 : Slc) (a1 : Int) (a2 : Int) (h : Heap) (R : Heap → Prop) : Prop :=
  ∃ (I0 : Int → Int → Heap → Nat → Prop),
    (∃ (b1 : Nat), I0 a1 (IntKind.wrap IntKind.i64 (a2 - (1 : Int))) h b1) ∧
      ∀ (i2 i3 : Int) (h4 : Heap) (b5 : Nat),
        I0 i2 i3 h4 b5 →
          Br (Decidable.decide (i2 < i3))
            (IxC a0 i3 1 fun (b6 b7 : Nat) =>
              ∃ (i8 : Int),
                cellsAt h4 b6 b7 [Lf.int IntKind.u32 i8] ∧
                  IxC a0 i2 1 fun (b9 b10 : Nat) =>
                    ∃ (i11 : Int),
                      cellsAt h4 b9 b10 [Lf.int IntKind.u32 i11] ∧
                        IxC a0 i2 1 fun (b12 b13 : Nat) =>
                          StC h4 b12 b13 [Lf.int IntKind.u32 i8] fun (h14 : Heap) =>
                            IxC a0 i3 1 fun (b15 b16 : Nat) =>
                              StC h14 b15 b16 [Lf.int IntKind.u32 i11] fun (h17 : Heap) =>
                                ∃ (b18 : Nat), b18 < b5 ∧ I0 (IntKind.wrap IntKind.i64 (i2 + (1 : Int))) (IntKind.wrap IntKind.i64 (i3 - (1 : Int))) h17 b18)
            (R h4)
theorem eq78 (a0 : Slc) (a1 : Int) (a2 : Int) (h : Heap) (R : Heap → Prop) : vc78 a0 a1 a2 h R = vcFn Go.Proofs.Try.prog pl78 Go.Proofs.Try.f78 [.lf (.slc a0), .lf (.int .i64 a1), .lf (.int .i64 a2)] h [] R := by kernel_rfl
theorem ok78 {a0 : Slc} {a1 : Int} {a2 : Int} {h : Heap} {R : Heap → Prop} (hv : vc78 a0 a1 a2 h R) : Call Go.Proofs.Try.prog 78 [.lf (.slc a0), .lf (.int .i64 a1), .lf (.int .i64 a2)] h [] R := call_eq hng hmix Go.Proofs.Try.func78 (eq78 a0 a1 a2 h R) hv
end Go.V.Ytclffphegfhocaa
