/- This text proves a part of the laws of seat Ytclffphegfhocaa, under no condition: B4b. -/
import Derived.Test.YtclffphegfhocaaEC
import Derived.Eval
import Derived.Test.YtclffphegfhocaaChecked
import Derived.Test.YtclffphegfhocaaEF
set_option linter.unusedVariables false
set_option maxRecDepth 100000
namespace Go.V.Ytclffphegfhocaa
open Go Go.V
/- 91: slices.order2Ordered[uint32] (data, a, b, swaps) -/
def pl91 : Plan := {
  blk := fun _ => none
  seq := fun _ => none
  loop := fun _ => none
  live := fun | 0 => some [0, 1, 2, 3] | 1 => some [1, 2, 3, 18] | 2 => some [1, 2] | 3 => some [8, 9] | 4 => some [8, 9] | _ => none
  track := fun | _ => false
  draw := fun | 1 => .still 0 (.still 1 (.still 2 (.still 3 (.still 4 (.still 5 (.still 6 (.still 7 (.mem 8 (.done))))))))) | _ => .done
  iter := fun | _ => none }
def vc91 (a0 : Slc) (a1 : Int) (a2 : Int) (a3 : Option (Nat × Nat)) (h : Heap) (R : Int → Int → Heap → Prop) : Prop :=
  IxC a0 a2 1 fun (b0 b1 : Nat) =>
    ∃ (i2 : Int),
      cellsAt h b0 b1 [Lf.int IntKind.u32 i2] ∧
        IxC a0 a1 1 fun (b3 b4 : Nat) =>
          ∃ (i5 : Int),
            cellsAt h b3 b4 [Lf.int IntKind.u32 i5] ∧
              Call Go.Proofs.Try.prog 80 [VV.lf (Lf.int IntKind.u32 i2), VV.lf (Lf.int IntKind.u32 i5)] h [VT.one LT.bool]
                fun (c6 : Bool) (h7 : Heap) =>
                Br c6
                  (NilC a3 fun (b8 b9 : Nat) =>
                    ∃ (i10 : Int),
                      cellsAt h7 b8 b9 [Lf.int IntKind.i64 i10] ∧
                        NilC a3 fun (b11 b12 : Nat) => StC h7 b11 b12 [Lf.int IntKind.i64 (IntKind.wrap IntKind.i64 (i10 + (1 : Int)))] fun (h13 : Heap) => R a2 a1 h13)
                  (R a1 a2 h7)
theorem eq91 (a0 : Slc) (a1 : Int) (a2 : Int) (a3 : Option (Nat × Nat)) (h : Heap) (R : Int → Int → Heap → Prop) : vc91 a0 a1 a2 a3 h R = vcFn Go.Proofs.Try.prog pl91 Go.Proofs.Try.f91 [.lf (.slc a0), .lf (.int .i64 a1), .lf (.int .i64 a2), .lf (.ptr a3)] h [.one (.int .i64), .one (.int .i64)] R := by kernel_rfl
theorem ok91 {a0 : Slc} {a1 : Int} {a2 : Int} {a3 : Option (Nat × Nat)} {h : Heap} {R : Int → Int → Heap → Prop} (hv : vc91 a0 a1 a2 a3 h R) : Call Go.Proofs.Try.prog 91 [.lf (.slc a0), .lf (.int .i64 a1), .lf (.int .i64 a2), .lf (.ptr a3)] h [.one (.int .i64), .one (.int .i64)] R := call_eq hng hmix Go.Proofs.Try.func91 (eq91 a0 a1 a2 a3 h R) hv
/- 89: slices.medianOrdered[uint32] (data, a, b, c, swaps) -/
def pl89 : Plan := {
  blk := fun _ => none
  seq := fun _ => none
  loop := fun _ => none
  live := fun | 0 => some [0, 1, 2, 3, 4] | 1 => some [0, 1, 2, 3, 4] | 2 => some [0, 1, 2, 4] | 3 => some [2] | 4 => some [10] | _ => none
  track := fun | _ => false
  draw := fun | _ => .done
  iter := fun | _ => none }
def vc89 (a0 : Slc) (a1 : Int) (a2 : Int) (a3 : Int) (a4 : Option (Nat × Nat)) (h : Heap) (R : Int → Heap → Prop) : Prop :=
  Call Go.Proofs.Try.prog 91 [VV.lf (Lf.slc a0), VV.lf (Lf.int IntKind.i64 a1), VV.lf (Lf.int IntKind.i64 a2), VV.lf (Lf.ptr a4)] h
    [VT.one (LT.int IntKind.i64), VT.one (LT.int IntKind.i64)] fun (i0 i1 : Int) (h2 : Heap) =>
    Call Go.Proofs.Try.prog 91 [VV.lf (Lf.slc a0), VV.lf (Lf.int IntKind.i64 i1), VV.lf (Lf.int IntKind.i64 a3), VV.lf (Lf.ptr a4)] h2
      [VT.one (LT.int IntKind.i64), VT.one (LT.int IntKind.i64)] fun (i3 i4 : Int) (h5 : Heap) =>
      Call Go.Proofs.Try.prog 91 [VV.lf (Lf.slc a0), VV.lf (Lf.int IntKind.i64 i0), VV.lf (Lf.int IntKind.i64 i3), VV.lf (Lf.ptr a4)] h5
        [VT.one (LT.int IntKind.i64), VT.one (LT.int IntKind.i64)] fun (i6 i7 : Int) (h8 : Heap) => R i7 h8
theorem eq89 (a0 : Slc) (a1 : Int) (a2 : Int) (a3 : Int) (a4 : Option (Nat × Nat)) (h : Heap) (R : Int → Heap → Prop) : vc89 a0 a1 a2 a3 a4 h R = vcFn Go.Proofs.Try.prog pl89 Go.Proofs.Try.f89 [.lf (.slc a0), .lf (.int .i64 a1), .lf (.int .i64 a2), .lf (.int .i64 a3), .lf (.ptr a4)] h [.one (.int .i64)] R := by kernel_rfl
theorem ok89 {a0 : Slc} {a1 : Int} {a2 : Int} {a3 : Int} {a4 : Option (Nat × Nat)} {h : Heap} {R : Int → Heap → Prop} (hv : vc89 a0 a1 a2 a3 a4 h R) : Call Go.Proofs.Try.prog 89 [.lf (.slc a0), .lf (.int .i64 a1), .lf (.int .i64 a2), .lf (.int .i64 a3), .lf (.ptr a4)] h [.one (.int .i64)] R := call_eq hng hmix Go.Proofs.Try.func89 (eq89 a0 a1 a2 a3 a4 h R) hv
/- 88: slices.medianAdjacentOrdered[uint32] (data, a, swaps) -/
def pl88 : Plan := {
  blk := fun _ => none
  seq := fun _ => none
  loop := fun _ => none
  live := fun | 0 => some [0, 1, 2] | 1 => some [6] | _ => none
  track := fun | _ => false
  draw := fun | _ => .done
  iter := fun | _ => none }
def vc88 (a0 : Slc) (a1 : Int) (a2 : Option (Nat × Nat)) (h : Heap) (R : Int → Heap → Prop) : Prop :=
  Call Go.Proofs.Try.prog 89
    [VV.lf (Lf.slc a0), VV.lf (Lf.int IntKind.i64 (IntKind.wrap IntKind.i64 (a1 - (1 : Int)))), VV.lf (Lf.int IntKind.i64 a1),
      VV.lf (Lf.int IntKind.i64 (IntKind.wrap IntKind.i64 (a1 + (1 : Int)))), VV.lf (Lf.ptr a2)]
    h [VT.one (LT.int IntKind.i64)] fun (i0 : Int) (h1 : Heap) => R i0 h1
theorem eq88 (a0 : Slc) (a1 : Int) (a2 : Option (Nat × Nat)) (h : Heap) (R : Int → Heap → Prop) : vc88 a0 a1 a2 h R = vcFn Go.Proofs.Try.prog pl88 Go.Proofs.Try.f88 [.lf (.slc a0), .lf (.int .i64 a1), .lf (.ptr a2)] h [.one (.int .i64)] R := by kernel_rfl
theorem ok88 {a0 : Slc} {a1 : Int} {a2 : Option (Nat × Nat)} {h : Heap} {R : Int → Heap → Prop} (hv : vc88 a0 a1 a2 h R) : Call Go.Proofs.Try.prog 88 [.lf (.slc a0), .lf (.int .i64 a1), .lf (.ptr a2)] h [.one (.int .i64)] R := call_eq hng hmix Go.Proofs.Try.func88 (eq88 a0 a1 a2 h R) hv
/- 77: slices.choosePivotOrdered[uint32] (data, a, b) · seq 11: i, j, k -/
def pl77 : Plan := {
  blk := fun _ => none
  seq := fun | 11 => some ⟨[(10, .one (.int .i64)), (11, .one (.int .i64)), (12, .one (.int .i64))], [], []⟩ | _ => none
  loop := fun _ => none
  live := fun | 0 => some [0, 1, 2] | 1 => some [0, 1, 8] | 2 => some [0, 1, 8, 9] | 3 => some [0, 1, 8, 9, 10] | 4 => some [0, 1, 8, 9, 10, 11] | 5 => some [0, 8, 9, 10, 11, 12] | 6 => some [0, 8, 9, 10, 11, 12, 32] | 7 => some [0, 9, 10, 11, 12, 34] | 8 => some [0, 9, 10, 11, 12] | 9 => some [0, 9, 10, 11, 12] | 10 => some [0, 9, 10, 11, 12] | 11 => some [9, 11] | 12 => some [11, 49] | 13 => some [6, 7] | 14 => some [11, 49, 51] | 15 => some [6, 7] | 16 => some [11, 54] | 17 => some [6, 7] | _ => none
  track := fun | _ => false
  draw := fun | _ => .done
  iter := fun | _ => none }
def vc77 (a0 : Slc) (a1 : Int) (a2 : Int) (h : Heap) (R : Int → Int → Heap → Prop) : Prop :=
  New 3 [Lf.int IntKind.i64 (0 : Int)] h fun (b0 : Nat) (h1 : Heap) =>
    ((4 : Int) = (0 : Int) → False) ∧
      ((4 : Int) = (0 : Int) → False) ∧
        ((4 : Int) = (0 : Int) → False) ∧
          Br (Decidable.decide (IntKind.wrap IntKind.i64 (a2 - a1) ≥ (8 : Int)))
            (∃ (I2 : Int → Int → Int → Heap → Prop),
              Br (Decidable.decide (IntKind.wrap IntKind.i64 (a2 - a1) ≥ (50 : Int)))
                  (Call Go.Proofs.Try.prog 88
                    [VV.lf (Lf.slc a0),
                      VV.lf
                        (Lf.int IntKind.i64
                          (IntKind.wrap IntKind.i64
                            (a1 + IntKind.wrap IntKind.i64 (IntKind.wrap IntKind.i64 (Int.tdiv (IntKind.wrap IntKind.i64 (a2 - a1)) (4 : Int)) * (1 : Int))))),
                      VV.lf (Lf.ptr (Option.some (b0, 0)))]
                    h1 [VT.one (LT.int IntKind.i64)] fun (i3 : Int) (h4 : Heap) =>
                    Call Go.Proofs.Try.prog 88
                      [VV.lf (Lf.slc a0),
                        VV.lf
                          (Lf.int IntKind.i64
                            (IntKind.wrap IntKind.i64
                              (a1 + IntKind.wrap IntKind.i64 (IntKind.wrap IntKind.i64 (Int.tdiv (IntKind.wrap IntKind.i64 (a2 - a1)) (4 : Int)) * (2 : Int))))),
                        VV.lf (Lf.ptr (Option.some (b0, 0)))]
                      h4 [VT.one (LT.int IntKind.i64)] fun (i5 : Int) (h6 : Heap) =>
                      Call Go.Proofs.Try.prog 88
                        [VV.lf (Lf.slc a0),
                          VV.lf
                            (Lf.int IntKind.i64
                              (IntKind.wrap IntKind.i64
                                (a1 + IntKind.wrap IntKind.i64 (IntKind.wrap IntKind.i64 (Int.tdiv (IntKind.wrap IntKind.i64 (a2 - a1)) (4 : Int)) * (3 : Int))))),
                          VV.lf (Lf.ptr (Option.some (b0, 0)))]
                        h6 [VT.one (LT.int IntKind.i64)] fun (i7 : Int) (h8 : Heap) => I2 i3 i5 i7 h8)
                  (I2 (IntKind.wrap IntKind.i64 (a1 + IntKind.wrap IntKind.i64 (IntKind.wrap IntKind.i64 (Int.tdiv (IntKind.wrap IntKind.i64 (a2 - a1)) (4 : Int)) * (1 : Int))))
                    (IntKind.wrap IntKind.i64 (a1 + IntKind.wrap IntKind.i64 (IntKind.wrap IntKind.i64 (Int.tdiv (IntKind.wrap IntKind.i64 (a2 - a1)) (4 : Int)) * (2 : Int))))
                    (IntKind.wrap IntKind.i64 (a1 + IntKind.wrap IntKind.i64 (IntKind.wrap IntKind.i64 (Int.tdiv (IntKind.wrap IntKind.i64 (a2 - a1)) (4 : Int)) * (3 : Int))))
                    h1) ∧
                ∀ (i9 i10 i11 : Int) (h12 : Heap),
                  I2 i9 i10 i11 h12 →
                    Call Go.Proofs.Try.prog 89
                      [VV.lf (Lf.slc a0), VV.lf (Lf.int IntKind.i64 i9), VV.lf (Lf.int IntKind.i64 i10), VV.lf (Lf.int IntKind.i64 i11),
                        VV.lf (Lf.ptr (Option.some (b0, 0)))]
                      h12 [VT.one (LT.int IntKind.i64)] fun (i13 : Int) (h14 : Heap) =>
                      ∃ (i15 : Int),
                        cellsAt h14 b0 0 [Lf.int IntKind.i64 i15] ∧
                          Br (i15 == (0 : Int)) (R i13 (1 : Int) h14) (Br (i15 == (12 : Int)) (R i13 (2 : Int) h14) (R i13 (0 : Int) h14)))
            (∃ (i16 : Int),
              cellsAt h1 b0 0 [Lf.int IntKind.i64 i16] ∧
                Br (i16 == (0 : Int))
                  (R (IntKind.wrap IntKind.i64 (a1 + IntKind.wrap IntKind.i64 (IntKind.wrap IntKind.i64 (Int.tdiv (IntKind.wrap IntKind.i64 (a2 - a1)) (4 : Int)) * (2 : Int))))
                    (1 : Int) h1)
                  (Br (i16 == (12 : Int))
                    (R (IntKind.wrap IntKind.i64 (a1 + IntKind.wrap IntKind.i64 (IntKind.wrap IntKind.i64 (Int.tdiv (IntKind.wrap IntKind.i64 (a2 - a1)) (4 : Int)) * (2 : Int))))
                      (2 : Int) h1)
                    (R (IntKind.wrap IntKind.i64 (a1 + IntKind.wrap IntKind.i64 (IntKind.wrap IntKind.i64 (Int.tdiv (IntKind.wrap IntKind.i64 (a2 - a1)) (4 : Int)) * (2 : Int))))
                      (0 : Int) h1)))
theorem eq77 (a0 : Slc) (a1 : Int) (a2 : Int) (h : Heap) (R : Int → Int → Heap → Prop) : vc77 a0 a1 a2 h R = vcFn Go.Proofs.Try.prog pl77 Go.Proofs.Try.f77 [.lf (.slc a0), .lf (.int .i64 a1), .lf (.int .i64 a2)] h [.one (.int .i64), .one (.int .i64)] R := by kernel_rfl
theorem ok77 {a0 : Slc} {a1 : Int} {a2 : Int} {h : Heap} {R : Int → Int → Heap → Prop} (hv : vc77 a0 a1 a2 h R) : Call Go.Proofs.Try.prog 77 [.lf (.slc a0), .lf (.int .i64 a1), .lf (.int .i64 a2)] h [.one (.int .i64), .one (.int .i64)] R := call_eq hng hmix Go.Proofs.Try.func77 (eq77 a0 a1 a2 h R) hv
/- 86: slices.nextPowerOfTwo (length) -/
def pl86 : Plan := {
  blk := fun _ => none
  seq := fun _ => none
  loop := fun _ => none
  live := fun | 0 => some [0] | 1 => some [2] | _ => none
  track := fun | _ => false
  draw := fun | _ => .done
  iter := fun | _ => none }
def vc86 (a0 : Int) (h : Heap) (R : Int → Heap → Prop) : Prop :=
  Call Go.Proofs.Try.prog 72 [VV.lf (Lf.int IntKind.u64 (IntKind.wrap IntKind.u64 a0))] h [VT.one (LT.int IntKind.i64)] fun (i0 : Int) (h1 : Heap) =>
    (0 : Int) ≤ i0 ∧ R (shiftL IntKind.u64 (1 : Int) i0) h1
theorem eq86 (a0 : Int) (h : Heap) (R : Int → Heap → Prop) : vc86 a0 h R = vcFn Go.Proofs.Try.prog pl86 Go.Proofs.Try.f86 [.lf (.int .i64 a0)] h [.one (.int .u64)] R := by kernel_rfl
theorem ok86 {a0 : Int} {h : Heap} {R : Int → Heap → Prop} (hv : vc86 a0 h R) : Call Go.Proofs.Try.prog 86 [.lf (.int .i64 a0)] h [.one (.int .u64)] R := call_eq hng hmix Go.Proofs.Try.func86 (eq86 a0 h R) hv
/- 87: (*slices.xorshift).Next (r) -/
def pl87 : Plan := {
  blk := fun _ => none
  seq := fun _ => none
  loop := fun _ => none
  live := fun | 0 => some [0] | 1 => some [0] | 2 => some [0] | 3 => some [0] | 4 => some [2] | _ => none
  track := fun | _ => false
  draw := fun | 1 => .still 0 (.still 1 (.still 2 (.still 3 (.still 4 (.still 5 (.still 6 (.still 7 (.still 8 (.mem 9 (.done)))))))))) | 2 => .still 0 (.still 1 (.still 2 (.still 3 (.still 4 (.still 5 (.still 6 (.still 7 (.still 8 (.mem 9 (.done)))))))))) | 3 => .still 0 (.still 1 (.still 2 (.still 3 (.still 4 (.still 5 (.still 6 (.still 7 (.still 8 (.mem 9 (.done)))))))))) | _ => .done
  iter := fun | _ => none }
def vc87 (a0 : Option (Nat × Nat)) (h : Heap) (R : Int → Heap → Prop) : Prop :=
  NilC a0 fun (b0 b1 : Nat) =>
    ∃ (i2 : Int),
      cellsAt h b0 b1 [Lf.int IntKind.u64 i2] ∧
        NilC a0 fun (b3 b4 : Nat) =>
          ∃ (i5 : Int),
            cellsAt h b3 b4 [Lf.int IntKind.u64 i5] ∧
              (0 : Int) ≤ (13 : Int) ∧
                NilC a0 fun (b6 b7 : Nat) =>
                  StC h b6 b7 [Lf.int IntKind.u64 (bitop IntKind.u64 BinOp.xor i2 (shiftL IntKind.u64 i5 (13 : Int)))] fun (h8 : Heap) =>
                    NilC a0 fun (b9 b10 : Nat) =>
                      ∃ (i11 : Int),
                        cellsAt h8 b9 b10 [Lf.int IntKind.u64 i11] ∧
                          NilC a0 fun (b12 b13 : Nat) =>
                            ∃ (i14 : Int),
                              cellsAt h8 b12 b13 [Lf.int IntKind.u64 i14] ∧
                                (0 : Int) ≤ (7 : Int) ∧
                                  NilC a0 fun (b15 b16 : Nat) =>
                                    StC h8 b15 b16 [Lf.int IntKind.u64 (bitop IntKind.u64 BinOp.xor i11 (shiftR IntKind.u64 i14 (7 : Int)))] fun (h17 : Heap) =>
                                      NilC a0 fun (b18 b19 : Nat) =>
                                        ∃ (i20 : Int),
                                          cellsAt h17 b18 b19 [Lf.int IntKind.u64 i20] ∧
                                            NilC a0 fun (b21 b22 : Nat) =>
                                              ∃ (i23 : Int),
                                                cellsAt h17 b21 b22 [Lf.int IntKind.u64 i23] ∧
                                                  (0 : Int) ≤ (17 : Int) ∧
                                                    NilC a0 fun (b24 b25 : Nat) =>
                                                      StC h17 b24 b25 [Lf.int IntKind.u64 (bitop IntKind.u64 BinOp.xor i20 (shiftL IntKind.u64 i23 (17 : Int)))]
                                                        fun (h26 : Heap) =>
                                                        NilC a0 fun (b27 b28 : Nat) => ∃ (i29 : Int), cellsAt h26 b27 b28 [Lf.int IntKind.u64 i29] ∧ R i29 h26
theorem eq87 (a0 : Option (Nat × Nat)) (h : Heap) (R : Int → Heap → Prop) : vc87 a0 h R = vcFn Go.Proofs.Try.prog pl87 Go.Proofs.Try.f87 [.lf (.ptr a0)] h [.one (.int .u64)] R := by kernel_rfl
theorem ok87 {a0 : Option (Nat × Nat)} {h : Heap} {R : Int → Heap → Prop} (hv : vc87 a0 h R) : Call Go.Proofs.Try.prog 87 [.lf (.ptr a0)] h [.one (.int .u64)] R := call_eq hng hmix Go.Proofs.Try.func87 (eq87 a0 h R) hv
/- 76: slices.breakPatternsOrdered[uint32] () · seq 10: #10 · loop 5: #9 -/
def pl76 : Plan := {
  blk := fun _ => none
  seq := fun | 10 => some ⟨[(10, .one (.int .i64))], [], []⟩ | _ => none
  loop := fun | 5 => some ⟨[(9, .one (.int .i64))], [], []⟩ | _ => none
  live := fun | 0 => some [0, 1, 6] | 1 => some [0, 1, 6, 15] | 2 => some [0, 1, 6, 7] | 3 => some [0, 1, 6, 7, 8] | 4 => some [0, 1, 6, 7, 8, 9] | 5 => some [0, 1, 6, 7, 8, 9, 33] | 6 => some [0, 1, 6, 7, 8, 9] | 7 => some [0, 1, 6, 7, 8, 9, 10] | 8 => some [0, 1, 6, 7, 8, 9, 10, 43] | 9 => some [0, 1, 6, 7, 8, 9, 10] | 10 => some [0, 1, 6, 7, 8, 9] | _ => none
  track := fun | _ => false
  draw := fun | 10 => .still 0 (.still 1 (.still 2 (.still 3 (.still 4 (.still 5 (.still 6 (.still 7 (.still 8 (.still 9 (.still 10 (.still 11 (.still 12 (.still 13 (.still 14 (.still 15 (.still 16 (.mem 17 (.still 18 (.mem 19 (.done)))))))))))))))))))) | _ => .done
  iter := fun | _ => none }
def vc76 (a0 : Slc) (a1 : Int) (a2 : Int) (h : Heap) (R : Heap → Prop) : Prop :=
  Br (Decidable.decide (IntKind.wrap IntKind.i64 (a2 - a1) ≥ (8 : Int)))
    (New 114 [Lf.int IntKind.u64 (0 : Int)] h fun (b0 : Nat) (h1 : Heap) =>
      StC h1 b0 0 [Lf.int IntKind.u64 (IntKind.wrap IntKind.u64 (IntKind.wrap IntKind.i64 (a2 - a1)))] fun (h2 : Heap) =>
        Call Go.Proofs.Try.prog 86 [VV.lf (Lf.int IntKind.i64 (IntKind.wrap IntKind.i64 (a2 - a1)))] h2 [VT.one (LT.int IntKind.u64)]
          fun (i3 : Int) (h4 : Heap) =>
          ((4 : Int) = (0 : Int) → False) ∧
            ∃ (I5 : Int → Heap → Nat → Prop),
              (∃ (b6 : Nat),
                  I5
                    (IntKind.wrap IntKind.i64
                      (IntKind.wrap IntKind.i64 (a1 + IntKind.wrap IntKind.i64 (IntKind.wrap IntKind.i64 (Int.tdiv (IntKind.wrap IntKind.i64 (a2 - a1)) (4 : Int)) * (2 : Int))) -
                        (1 : Int)))
                    h4 b6) ∧
                ∀ (i7 : Int) (h8 : Heap) (b9 : Nat),
                  I5 i7 h8 b9 →
                    ((4 : Int) = (0 : Int) → False) ∧
                      Br
                        (Decidable.decide
                          (i7 ≤
                            IntKind.wrap IntKind.i64
                              (IntKind.wrap IntKind.i64
                                  (a1 + IntKind.wrap IntKind.i64 (IntKind.wrap IntKind.i64 (Int.tdiv (IntKind.wrap IntKind.i64 (a2 - a1)) (4 : Int)) * (2 : Int))) +
                                (1 : Int))))
                        (Call Go.Proofs.Try.prog 87 [VV.lf (Lf.ptr (Option.some (b0, 0)))] h8 [VT.one (LT.int IntKind.u64)]
                          fun (i10 : Int) (h11 : Heap) =>
                          ∃ (I12 : Int → Heap → Prop),
                            Br
                                (Decidable.decide
                                  (IntKind.wrap IntKind.i64 (bitop IntKind.u64 BinOp.and i10 (IntKind.wrap IntKind.u64 (i3 - (1 : Int)))) ≥
                                    IntKind.wrap IntKind.i64 (a2 - a1)))
                                (I12
                                  (IntKind.wrap IntKind.i64
                                    (IntKind.wrap IntKind.i64 (bitop IntKind.u64 BinOp.and i10 (IntKind.wrap IntKind.u64 (i3 - (1 : Int)))) -
                                      IntKind.wrap IntKind.i64 (a2 - a1)))
                                  h11)
                                (I12 (IntKind.wrap IntKind.i64 (bitop IntKind.u64 BinOp.and i10 (IntKind.wrap IntKind.u64 (i3 - (1 : Int))))) h11) ∧
                              ∀ (i13 : Int) (h14 : Heap),
                                I12 i13 h14 →
                                  IxC a0 (IntKind.wrap IntKind.i64 (a1 + i13)) 1 fun (b15 b16 : Nat) =>
                                    ∃ (i17 : Int),
                                      cellsAt h14 b15 b16 [Lf.int IntKind.u32 i17] ∧
                                        IxC a0 i7 1 fun (b18 b19 : Nat) =>
                                          ∃ (i20 : Int),
                                            cellsAt h14 b18 b19 [Lf.int IntKind.u32 i20] ∧
                                              IxC a0 i7 1 fun (b21 b22 : Nat) =>
                                                StC h14 b21 b22 [Lf.int IntKind.u32 i17] fun (h23 : Heap) =>
                                                  IxC a0 (IntKind.wrap IntKind.i64 (a1 + i13)) 1 fun (b24 b25 : Nat) =>
                                                    StC h23 b24 b25 [Lf.int IntKind.u32 i20] fun (h26 : Heap) =>
                                                      ∃ (b27 : Nat), b27 < b9 ∧ I5 (IntKind.wrap IntKind.i64 (i7 + (1 : Int))) h26 b27)
                        (R h8))
    (R h)
theorem eq76 (a0 : Slc) (a1 : Int) (a2 : Int) (h : Heap) (R : Heap → Prop) : vc76 a0 a1 a2 h R = vcFn Go.Proofs.Try.prog pl76 Go.Proofs.Try.f76 [.lf (.slc a0), .lf (.int .i64 a1), .lf (.int .i64 a2)] h [] R := by kernel_rfl
theorem ok76 {a0 : Slc} {a1 : Int} {a2 : Int} {h : Heap} {R : Heap → Prop} (hv : vc76 a0 a1 a2 h R) : Call Go.Proofs.Try.prog 76 [.lf (.slc a0), .lf (.int .i64 a1), .lf (.int .i64 a2)] h [] R := call_eq hng hmix Go.Proofs.Try.func76 (eq76 a0 a1 a2 h R) hv
/- 83: math.bits.Len32 (x) · seq 4: x, n -/
def pl83 : Plan := {
  blk := fun _ => none
  seq := fun | 4 => some ⟨[(0, .one (.int .u32)), (2, .one (.int .i64))], [], []⟩ | _ => none
  loop := fun _ => none
  live := fun | 0 => some [0, 2] | 1 => some [0, 2, 4] | 2 => some [0] | 3 => some [0, 2] | 4 => some [0, 2, 8] | 5 => some [0, 2] | 6 => some [0, 2] | 7 => some [2] | _ => none
  track := fun | _ => false
  draw := fun | _ => .done
  iter := fun | _ => none }
def vc83 (a0 : Int) (h : Heap) (R : Int → Heap → Prop) : Prop :=
  ∃ (I0 : Int → Int → Heap → Prop),
    Br (Decidable.decide (a0 ≥ (65536 : Int))) ((0 : Int) ≤ (16 : Int) ∧ I0 (shiftR IntKind.u32 a0 (16 : Int)) (16 : Int) h) (I0 a0 (0 : Int) h) ∧
      ∀ (i1 i2 : Int) (h3 : Heap),
        I0 i1 i2 h3 →
          Br (Decidable.decide (i1 ≥ (256 : Int)))
            ((0 : Int) ≤ (8 : Int) ∧
              (0 : Int) ≤ IntKind.wrap IntKind.u8 (shiftR IntKind.u32 i1 (8 : Int)) ∧
                IntKind.wrap IntKind.u8 (shiftR IntKind.u32 i1 (8 : Int)) < (↑256 : Int) ∧
                  R
                    (IntKind.wrap IntKind.i64
                      (IntKind.wrap IntKind.i64 (i2 + (8 : Int)) +
                        IntKind.wrap IntKind.i64
                          (bt
                            (ByteArray.mk
                              #[(0 : UInt8), (1 : UInt8), (2 : UInt8), (2 : UInt8), (3 : UInt8), (3 : UInt8), (3 : UInt8), (3 : UInt8), (4 : UInt8), (4 : UInt8), (4 : UInt8), (4 : UInt8), (4 : UInt8),
                                (4 : UInt8), (4 : UInt8), (4 : UInt8), (5 : UInt8), (5 : UInt8), (5 : UInt8), (5 : UInt8), (5 : UInt8), (5 : UInt8), (5 : UInt8), (5 : UInt8), (5 : UInt8), (5 : UInt8),
                                (5 : UInt8), (5 : UInt8), (5 : UInt8), (5 : UInt8), (5 : UInt8), (5 : UInt8), (6 : UInt8), (6 : UInt8), (6 : UInt8), (6 : UInt8), (6 : UInt8), (6 : UInt8), (6 : UInt8),
                                (6 : UInt8), (6 : UInt8), (6 : UInt8), (6 : UInt8), (6 : UInt8), (6 : UInt8), (6 : UInt8), (6 : UInt8), (6 : UInt8), (6 : UInt8), (6 : UInt8), (6 : UInt8), (6 : UInt8),
                                (6 : UInt8), (6 : UInt8), (6 : UInt8), (6 : UInt8), (6 : UInt8), (6 : UInt8), (6 : UInt8), (6 : UInt8), (6 : UInt8), (6 : UInt8), (6 : UInt8), (6 : UInt8), (7 : UInt8),
                                (7 : UInt8), (7 : UInt8), (7 : UInt8), (7 : UInt8), (7 : UInt8), (7 : UInt8), (7 : UInt8), (7 : UInt8), (7 : UInt8), (7 : UInt8), (7 : UInt8), (7 : UInt8), (7 : UInt8),
                                (7 : UInt8), (7 : UInt8), (7 : UInt8), (7 : UInt8), (7 : UInt8), (7 : UInt8), (7 : UInt8), (7 : UInt8), (7 : UInt8), (7 : UInt8), (7 : UInt8), (7 : UInt8), (7 : UInt8),
                                (7 : UInt8), (7 : UInt8), (7 : UInt8), (7 : UInt8), (7 : UInt8), (7 : UInt8), (7 : UInt8), (7 : UInt8), (7 : UInt8), (7 : UInt8), (7 : UInt8), (7 : UInt8), (7 : UInt8),
                                (7 : UInt8), (7 : UInt8), (7 : UInt8), (7 : UInt8), (7 : UInt8), (7 : UInt8), (7 : UInt8), (7 : UInt8), (7 : UInt8), (7 : UInt8), (7 : UInt8), (7 : UInt8), (7 : UInt8),
                                (7 : UInt8), (7 : UInt8), (7 : UInt8), (7 : UInt8), (7 : UInt8), (7 : UInt8), (7 : UInt8), (7 : UInt8), (7 : UInt8), (7 : UInt8), (7 : UInt8), (8 : UInt8), (8 : UInt8),
                                (8 : UInt8), (8 : UInt8), (8 : UInt8), (8 : UInt8), (8 : UInt8), (8 : UInt8), (8 : UInt8), (8 : UInt8), (8 : UInt8), (8 : UInt8), (8 : UInt8), (8 : UInt8), (8 : UInt8),
                                (8 : UInt8), (8 : UInt8), (8 : UInt8), (8 : UInt8), (8 : UInt8), (8 : UInt8), (8 : UInt8), (8 : UInt8), (8 : UInt8), (8 : UInt8), (8 : UInt8), (8 : UInt8), (8 : UInt8),
                                (8 : UInt8), (8 : UInt8), (8 : UInt8), (8 : UInt8), (8 : UInt8), (8 : UInt8), (8 : UInt8), (8 : UInt8), (8 : UInt8), (8 : UInt8), (8 : UInt8), (8 : UInt8), (8 : UInt8),
                                (8 : UInt8), (8 : UInt8), (8 : UInt8), (8 : UInt8), (8 : UInt8), (8 : UInt8), (8 : UInt8), (8 : UInt8), (8 : UInt8), (8 : UInt8), (8 : UInt8), (8 : UInt8), (8 : UInt8),
                                (8 : UInt8), (8 : UInt8), (8 : UInt8), (8 : UInt8), (8 : UInt8), (8 : UInt8), (8 : UInt8), (8 : UInt8), (8 : UInt8), (8 : UInt8), (8 : UInt8), (8 : UInt8), (8 : UInt8),
                                (8 : UInt8), (8 : UInt8), (8 : UInt8), (8 : UInt8), (8 : UInt8), (8 : UInt8), (8 : UInt8), (8 : UInt8), (8 : UInt8), (8 : UInt8), (8 : UInt8), (8 : UInt8), (8 : UInt8),
                                (8 : UInt8), (8 : UInt8), (8 : UInt8), (8 : UInt8), (8 : UInt8), (8 : UInt8), (8 : UInt8), (8 : UInt8), (8 : UInt8), (8 : UInt8), (8 : UInt8), (8 : UInt8), (8 : UInt8),
                                (8 : UInt8), (8 : UInt8), (8 : UInt8), (8 : UInt8), (8 : UInt8), (8 : UInt8), (8 : UInt8), (8 : UInt8), (8 : UInt8), (8 : UInt8), (8 : UInt8), (8 : UInt8), (8 : UInt8),
                                (8 : UInt8), (8 : UInt8), (8 : UInt8), (8 : UInt8), (8 : UInt8), (8 : UInt8), (8 : UInt8), (8 : UInt8), (8 : UInt8), (8 : UInt8), (8 : UInt8), (8 : UInt8), (8 : UInt8),
                                (8 : UInt8), (8 : UInt8), (8 : UInt8), (8 : UInt8), (8 : UInt8), (8 : UInt8), (8 : UInt8), (8 : UInt8), (8 : UInt8)])
                            (IntKind.wrap IntKind.u8 (shiftR IntKind.u32 i1 (8 : Int))))))
                    h3)
            ((0 : Int) ≤ IntKind.wrap IntKind.u8 i1 ∧
              IntKind.wrap IntKind.u8 i1 < (↑256 : Int) ∧
                R
                  (IntKind.wrap IntKind.i64
                    (i2 +
                      IntKind.wrap IntKind.i64
                        (bt
                          (ByteArray.mk
                            #[(0 : UInt8), (1 : UInt8), (2 : UInt8), (2 : UInt8), (3 : UInt8), (3 : UInt8), (3 : UInt8), (3 : UInt8), (4 : UInt8), (4 : UInt8), (4 : UInt8), (4 : UInt8), (4 : UInt8),
                              (4 : UInt8), (4 : UInt8), (4 : UInt8), (5 : UInt8), (5 : UInt8), (5 : UInt8), (5 : UInt8), (5 : UInt8), (5 : UInt8), (5 : UInt8), (5 : UInt8), (5 : UInt8), (5 : UInt8),
                              (5 : UInt8), (5 : UInt8), (5 : UInt8), (5 : UInt8), (5 : UInt8), (5 : UInt8), (6 : UInt8), (6 : UInt8), (6 : UInt8), (6 : UInt8), (6 : UInt8), (6 : UInt8), (6 : UInt8),
                              (6 : UInt8), (6 : UInt8), (6 : UInt8), (6 : UInt8), (6 : UInt8), (6 : UInt8), (6 : UInt8), (6 : UInt8), (6 : UInt8), (6 : UInt8), (6 : UInt8), (6 : UInt8), (6 : UInt8),
                              (6 : UInt8), (6 : UInt8), (6 : UInt8), (6 : UInt8), (6 : UInt8), (6 : UInt8), (6 : UInt8), (6 : UInt8), (6 : UInt8), (6 : UInt8), (6 : UInt8), (6 : UInt8), (7 : UInt8),
                              (7 : UInt8), (7 : UInt8), (7 : UInt8), (7 : UInt8), (7 : UInt8), (7 : UInt8), (7 : UInt8), (7 : UInt8), (7 : UInt8), (7 : UInt8), (7 : UInt8), (7 : UInt8), (7 : UInt8),
                              (7 : UInt8), (7 : UInt8), (7 : UInt8), (7 : UInt8), (7 : UInt8), (7 : UInt8), (7 : UInt8), (7 : UInt8), (7 : UInt8), (7 : UInt8), (7 : UInt8), (7 : UInt8), (7 : UInt8),
                              (7 : UInt8), (7 : UInt8), (7 : UInt8), (7 : UInt8), (7 : UInt8), (7 : UInt8), (7 : UInt8), (7 : UInt8), (7 : UInt8), (7 : UInt8), (7 : UInt8), (7 : UInt8), (7 : UInt8),
                              (7 : UInt8), (7 : UInt8), (7 : UInt8), (7 : UInt8), (7 : UInt8), (7 : UInt8), (7 : UInt8), (7 : UInt8), (7 : UInt8), (7 : UInt8), (7 : UInt8), (7 : UInt8), (7 : UInt8),
                              (7 : UInt8), (7 : UInt8), (7 : UInt8), (7 : UInt8), (7 : UInt8), (7 : UInt8), (7 : UInt8), (7 : UInt8), (7 : UInt8), (7 : UInt8), (7 : UInt8), (8 : UInt8), (8 : UInt8),
                              (8 : UInt8), (8 : UInt8), (8 : UInt8), (8 : UInt8), (8 : UInt8), (8 : UInt8), (8 : UInt8), (8 : UInt8), (8 : UInt8), (8 : UInt8), (8 : UInt8), (8 : UInt8), (8 : UInt8),
                              (8 : UInt8), (8 : UInt8), (8 : UInt8), (8 : UInt8), (8 : UInt8), (8 : UInt8), (8 : UInt8), (8 : UInt8), (8 : UInt8), (8 : UInt8), (8 : UInt8), (8 : UInt8), (8 : UInt8),
                              (8 : UInt8), (8 : UInt8), (8 : UInt8), (8 : UInt8), (8 : UInt8), (8 : UInt8), (8 : UInt8), (8 : UInt8), (8 : UInt8), (8 : UInt8), (8 : UInt8), (8 : UInt8), (8 : UInt8),
                              (8 : UInt8), (8 : UInt8), (8 : UInt8), (8 : UInt8), (8 : UInt8), (8 : UInt8), (8 : UInt8), (8 : UInt8), (8 : UInt8), (8 : UInt8), (8 : UInt8), (8 : UInt8), (8 : UInt8),
                              (8 : UInt8), (8 : UInt8), (8 : UInt8), (8 : UInt8), (8 : UInt8), (8 : UInt8), (8 : UInt8), (8 : UInt8), (8 : UInt8), (8 : UInt8), (8 : UInt8), (8 : UInt8), (8 : UInt8),
                              (8 : UInt8), (8 : UInt8), (8 : UInt8), (8 : UInt8), (8 : UInt8), (8 : UInt8), (8 : UInt8), (8 : UInt8), (8 : UInt8), (8 : UInt8), (8 : UInt8), (8 : UInt8), (8 : UInt8),
                              (8 : UInt8), (8 : UInt8), (8 : UInt8), (8 : UInt8), (8 : UInt8), (8 : UInt8), (8 : UInt8), (8 : UInt8), (8 : UInt8), (8 : UInt8), (8 : UInt8), (8 : UInt8), (8 : UInt8),
                              (8 : UInt8), (8 : UInt8), (8 : UInt8), (8 : UInt8), (8 : UInt8), (8 : UInt8), (8 : UInt8), (8 : UInt8), (8 : UInt8), (8 : UInt8), (8 : UInt8), (8 : UInt8), (8 : UInt8),
                              (8 : UInt8), (8 : UInt8), (8 : UInt8), (8 : UInt8), (8 : UInt8), (8 : UInt8), (8 : UInt8), (8 : UInt8), (8 : UInt8), (8 : UInt8), (8 : UInt8), (8 : UInt8), (8 : UInt8),
                              (8 : UInt8), (8 : UInt8), (8 : UInt8), (8 : UInt8), (8 : UInt8), (8 : UInt8), (8 : UInt8), (8 : UInt8), (8 : UInt8)])
                          (IntKind.wrap IntKind.u8 i1))))
                  h3)
theorem eq83 (a0 : Int) (h : Heap) (R : Int → Heap → Prop) : vc83 a0 h R = vcFn Go.Proofs.Try.prog pl83 Go.Proofs.Try.f83 [.lf (.int .u32 a0)] h [.one (.int .i64)] R := by kernel_rfl
theorem ok83 {a0 : Int} {h : Heap} {R : Int → Heap → Prop} (hv : vc83 a0 h R) : Call Go.Proofs.Try.prog 83 [.lf (.int .u32 a0)] h [.one (.int .i64)] R := call_eq hng hmix Go.Proofs.Try.func83 (eq83 a0 h R) hv
/- 84: math.bits.Len64 (x) · seq 4: x, n · seq 7: x, n -/
def pl84 : Plan := {
  blk := fun _ => none
  seq := fun | 4 => some ⟨[(0, .one (.int .u64)), (2, .one (.int .i64))], [], []⟩ | 7 => some ⟨[(0, .one (.int .u64)), (2, .one (.int .i64))], [], []⟩ | _ => none
  loop := fun _ => none
  live := fun | 0 => some [0, 2] | 1 => some [0, 2, 4] | 2 => some [0] | 3 => some [0, 2] | 4 => some [0, 2, 8] | 5 => some [0, 2] | 6 => some [0, 2] | 7 => some [0, 2, 14] | 8 => some [0, 2] | 9 => some [0, 2] | 10 => some [2] | _ => none
  track := fun | _ => false
  draw := fun | _ => .done
  iter := fun | _ => none }
def vc84 (a0 : Int) (h : Heap) (R : Int → Heap → Prop) : Prop :=
  ∃ (I0 : Int → Int → Heap → Prop),
    Br (Decidable.decide (a0 ≥ (4294967296 : Int))) ((0 : Int) ≤ (32 : Int) ∧ I0 (shiftR IntKind.u64 a0 (32 : Int)) (32 : Int) h) (I0 a0 (0 : Int) h) ∧
      ∀ (i1 i2 : Int) (h3 : Heap),
        I0 i1 i2 h3 →
          ∃ (I4 : Int → Int → Heap → Prop),
            Br (Decidable.decide (i1 ≥ (65536 : Int))) ((0 : Int) ≤ (16 : Int) ∧ I4 (shiftR IntKind.u64 i1 (16 : Int)) (IntKind.wrap IntKind.i64 (i2 + (16 : Int))) h3) (I4 i1 i2 h3) ∧
              ∀ (i5 i6 : Int) (h7 : Heap),
                I4 i5 i6 h7 →
                  Br (Decidable.decide (i5 ≥ (256 : Int)))
                    ((0 : Int) ≤ (8 : Int) ∧
                      (0 : Int) ≤ IntKind.wrap IntKind.u8 (shiftR IntKind.u64 i5 (8 : Int)) ∧
                        IntKind.wrap IntKind.u8 (shiftR IntKind.u64 i5 (8 : Int)) < (↑256 : Int) ∧
                          R
                            (IntKind.wrap IntKind.i64
                              (IntKind.wrap IntKind.i64 (i6 + (8 : Int)) +
                                IntKind.wrap IntKind.i64
                                  (bt
                                    (ByteArray.mk
                                      #[(0 : UInt8), (1 : UInt8), (2 : UInt8), (2 : UInt8), (3 : UInt8), (3 : UInt8), (3 : UInt8), (3 : UInt8), (4 : UInt8), (4 : UInt8), (4 : UInt8), (4 : UInt8),
                                        (4 : UInt8), (4 : UInt8), (4 : UInt8), (4 : UInt8), (5 : UInt8), (5 : UInt8), (5 : UInt8), (5 : UInt8), (5 : UInt8), (5 : UInt8), (5 : UInt8), (5 : UInt8),
                                        (5 : UInt8), (5 : UInt8), (5 : UInt8), (5 : UInt8), (5 : UInt8), (5 : UInt8), (5 : UInt8), (5 : UInt8), (6 : UInt8), (6 : UInt8), (6 : UInt8), (6 : UInt8),
                                        (6 : UInt8), (6 : UInt8), (6 : UInt8), (6 : UInt8), (6 : UInt8), (6 : UInt8), (6 : UInt8), (6 : UInt8), (6 : UInt8), (6 : UInt8), (6 : UInt8), (6 : UInt8),
                                        (6 : UInt8), (6 : UInt8), (6 : UInt8), (6 : UInt8), (6 : UInt8), (6 : UInt8), (6 : UInt8), (6 : UInt8), (6 : UInt8), (6 : UInt8), (6 : UInt8), (6 : UInt8),
                                        (6 : UInt8), (6 : UInt8), (6 : UInt8), (6 : UInt8), (7 : UInt8), (7 : UInt8), (7 : UInt8), (7 : UInt8), (7 : UInt8), (7 : UInt8), (7 : UInt8), (7 : UInt8),
                                        (7 : UInt8), (7 : UInt8), (7 : UInt8), (7 : UInt8), (7 : UInt8), (7 : UInt8), (7 : UInt8), (7 : UInt8), (7 : UInt8), (7 : UInt8), (7 : UInt8), (7 : UInt8),
                                        (7 : UInt8), (7 : UInt8), (7 : UInt8), (7 : UInt8), (7 : UInt8), (7 : UInt8), (7 : UInt8), (7 : UInt8), (7 : UInt8), (7 : UInt8), (7 : UInt8), (7 : UInt8),
                                        (7 : UInt8), (7 : UInt8), (7 : UInt8), (7 : UInt8), (7 : UInt8), (7 : UInt8), (7 : UInt8), (7 : UInt8), (7 : UInt8), (7 : UInt8), (7 : UInt8), (7 : UInt8),
                                        (7 : UInt8), (7 : UInt8), (7 : UInt8), (7 : UInt8), (7 : UInt8), (7 : UInt8), (7 : UInt8), (7 : UInt8), (7 : UInt8), (7 : UInt8), (7 : UInt8), (7 : UInt8),
                                        (7 : UInt8), (7 : UInt8), (7 : UInt8), (7 : UInt8), (7 : UInt8), (7 : UInt8), (7 : UInt8), (7 : UInt8), (8 : UInt8), (8 : UInt8), (8 : UInt8), (8 : UInt8),
                                        (8 : UInt8), (8 : UInt8), (8 : UInt8), (8 : UInt8), (8 : UInt8), (8 : UInt8), (8 : UInt8), (8 : UInt8), (8 : UInt8), (8 : UInt8), (8 : UInt8), (8 : UInt8),
                                        (8 : UInt8), (8 : UInt8), (8 : UInt8), (8 : UInt8), (8 : UInt8), (8 : UInt8), (8 : UInt8), (8 : UInt8), (8 : UInt8), (8 : UInt8), (8 : UInt8), (8 : UInt8),
                                        (8 : UInt8), (8 : UInt8), (8 : UInt8), (8 : UInt8), (8 : UInt8), (8 : UInt8), (8 : UInt8), (8 : UInt8), (8 : UInt8), (8 : UInt8), (8 : UInt8), (8 : UInt8),
                                        (8 : UInt8), (8 : UInt8), (8 : UInt8), (8 : UInt8), (8 : UInt8), (8 : UInt8), (8 : UInt8), (8 : UInt8), (8 : UInt8), (8 : UInt8), (8 : UInt8), (8 : UInt8),
                                        (8 : UInt8), (8 : UInt8), (8 : UInt8), (8 : UInt8), (8 : UInt8), (8 : UInt8), (8 : UInt8), (8 : UInt8), (8 : UInt8), (8 : UInt8), (8 : UInt8), (8 : UInt8),
                                        (8 : UInt8), (8 : UInt8), (8 : UInt8), (8 : UInt8), (8 : UInt8), (8 : UInt8), (8 : UInt8), (8 : UInt8), (8 : UInt8), (8 : UInt8), (8 : UInt8), (8 : UInt8),
                                        (8 : UInt8), (8 : UInt8), (8 : UInt8), (8 : UInt8), (8 : UInt8), (8 : UInt8), (8 : UInt8), (8 : UInt8), (8 : UInt8), (8 : UInt8), (8 : UInt8), (8 : UInt8),
                                        (8 : UInt8), (8 : UInt8), (8 : UInt8), (8 : UInt8), (8 : UInt8), (8 : UInt8), (8 : UInt8), (8 : UInt8), (8 : UInt8), (8 : UInt8), (8 : UInt8), (8 : UInt8),
                                        (8 : UInt8), (8 : UInt8), (8 : UInt8), (8 : UInt8), (8 : UInt8), (8 : UInt8), (8 : UInt8), (8 : UInt8), (8 : UInt8), (8 : UInt8), (8 : UInt8), (8 : UInt8),
                                        (8 : UInt8), (8 : UInt8), (8 : UInt8), (8 : UInt8), (8 : UInt8), (8 : UInt8), (8 : UInt8), (8 : UInt8), (8 : UInt8), (8 : UInt8), (8 : UInt8), (8 : UInt8),
                                        (8 : UInt8), (8 : UInt8), (8 : UInt8), (8 : UInt8)])
                                    (IntKind.wrap IntKind.u8 (shiftR IntKind.u64 i5 (8 : Int))))))
                            h7)
                    ((0 : Int) ≤ IntKind.wrap IntKind.u8 i5 ∧
                      IntKind.wrap IntKind.u8 i5 < (↑256 : Int) ∧
                        R
                          (IntKind.wrap IntKind.i64
                            (i6 +
                              IntKind.wrap IntKind.i64
                                (bt
                                  (ByteArray.mk
                                    #[(0 : UInt8), (1 : UInt8), (2 : UInt8), (2 : UInt8), (3 : UInt8), (3 : UInt8), (3 : UInt8), (3 : UInt8), (4 : UInt8), (4 : UInt8), (4 : UInt8), (4 : UInt8),
                                      (4 : UInt8), (4 : UInt8), (4 : UInt8), (4 : UInt8), (5 : UInt8), (5 : UInt8), (5 : UInt8), (5 : UInt8), (5 : UInt8), (5 : UInt8), (5 : UInt8), (5 : UInt8),
                                      (5 : UInt8), (5 : UInt8), (5 : UInt8), (5 : UInt8), (5 : UInt8), (5 : UInt8), (5 : UInt8), (5 : UInt8), (6 : UInt8), (6 : UInt8), (6 : UInt8), (6 : UInt8),
                                      (6 : UInt8), (6 : UInt8), (6 : UInt8), (6 : UInt8), (6 : UInt8), (6 : UInt8), (6 : UInt8), (6 : UInt8), (6 : UInt8), (6 : UInt8), (6 : UInt8), (6 : UInt8),
                                      (6 : UInt8), (6 : UInt8), (6 : UInt8), (6 : UInt8), (6 : UInt8), (6 : UInt8), (6 : UInt8), (6 : UInt8), (6 : UInt8), (6 : UInt8), (6 : UInt8), (6 : UInt8),
                                      (6 : UInt8), (6 : UInt8), (6 : UInt8), (6 : UInt8), (7 : UInt8), (7 : UInt8), (7 : UInt8), (7 : UInt8), (7 : UInt8), (7 : UInt8), (7 : UInt8), (7 : UInt8),
                                      (7 : UInt8), (7 : UInt8), (7 : UInt8), (7 : UInt8), (7 : UInt8), (7 : UInt8), (7 : UInt8), (7 : UInt8), (7 : UInt8), (7 : UInt8), (7 : UInt8), (7 : UInt8),
                                      (7 : UInt8), (7 : UInt8), (7 : UInt8), (7 : UInt8), (7 : UInt8), (7 : UInt8), (7 : UInt8), (7 : UInt8), (7 : UInt8), (7 : UInt8), (7 : UInt8), (7 : UInt8),
                                      (7 : UInt8), (7 : UInt8), (7 : UInt8), (7 : UInt8), (7 : UInt8), (7 : UInt8), (7 : UInt8), (7 : UInt8), (7 : UInt8), (7 : UInt8), (7 : UInt8), (7 : UInt8),
                                      (7 : UInt8), (7 : UInt8), (7 : UInt8), (7 : UInt8), (7 : UInt8), (7 : UInt8), (7 : UInt8), (7 : UInt8), (7 : UInt8), (7 : UInt8), (7 : UInt8), (7 : UInt8),
                                      (7 : UInt8), (7 : UInt8), (7 : UInt8), (7 : UInt8), (7 : UInt8), (7 : UInt8), (7 : UInt8), (7 : UInt8), (8 : UInt8), (8 : UInt8), (8 : UInt8), (8 : UInt8),
                                      (8 : UInt8), (8 : UInt8), (8 : UInt8), (8 : UInt8), (8 : UInt8), (8 : UInt8), (8 : UInt8), (8 : UInt8), (8 : UInt8), (8 : UInt8), (8 : UInt8), (8 : UInt8),
                                      (8 : UInt8), (8 : UInt8), (8 : UInt8), (8 : UInt8), (8 : UInt8), (8 : UInt8), (8 : UInt8), (8 : UInt8), (8 : UInt8), (8 : UInt8), (8 : UInt8), (8 : UInt8),
                                      (8 : UInt8), (8 : UInt8), (8 : UInt8), (8 : UInt8), (8 : UInt8), (8 : UInt8), (8 : UInt8), (8 : UInt8), (8 : UInt8), (8 : UInt8), (8 : UInt8), (8 : UInt8),
                                      (8 : UInt8), (8 : UInt8), (8 : UInt8), (8 : UInt8), (8 : UInt8), (8 : UInt8), (8 : UInt8), (8 : UInt8), (8 : UInt8), (8 : UInt8), (8 : UInt8), (8 : UInt8),
                                      (8 : UInt8), (8 : UInt8), (8 : UInt8), (8 : UInt8), (8 : UInt8), (8 : UInt8), (8 : UInt8), (8 : UInt8), (8 : UInt8), (8 : UInt8), (8 : UInt8), (8 : UInt8),
                                      (8 : UInt8), (8 : UInt8), (8 : UInt8), (8 : UInt8), (8 : UInt8), (8 : UInt8), (8 : UInt8), (8 : UInt8), (8 : UInt8), (8 : UInt8), (8 : UInt8), (8 : UInt8),
                                      (8 : UInt8), (8 : UInt8), (8 : UInt8), (8 : UInt8), (8 : UInt8), (8 : UInt8), (8 : UInt8), (8 : UInt8), (8 : UInt8), (8 : UInt8), (8 : UInt8), (8 : UInt8),
                                      (8 : UInt8), (8 : UInt8), (8 : UInt8), (8 : UInt8), (8 : UInt8), (8 : UInt8), (8 : UInt8), (8 : UInt8), (8 : UInt8), (8 : UInt8), (8 : UInt8), (8 : UInt8),
                                      (8 : UInt8), (8 : UInt8), (8 : UInt8), (8 : UInt8), (8 : UInt8), (8 : UInt8), (8 : UInt8), (8 : UInt8), (8 : UInt8), (8 : UInt8), (8 : UInt8), (8 : UInt8),
                                      (8 : UInt8), (8 : UInt8), (8 : UInt8), (8 : UInt8), (8 : UInt8), (8 : UInt8), (8 : UInt8), (8 : UInt8), (8 : UInt8), (8 : UInt8), (8 : UInt8), (8 : UInt8),
                                      (8 : UInt8), (8 : UInt8), (8 : UInt8), (8 : UInt8)])
                                  (IntKind.wrap IntKind.u8 i5))))
                          h7)
theorem eq84 (a0 : Int) (h : Heap) (R : Int → Heap → Prop) : vc84 a0 h R = vcFn Go.Proofs.Try.prog pl84 Go.Proofs.Try.f84 [.lf (.int .u64 a0)] h [.one (.int .i64)] R := by kernel_rfl
theorem ok84 {a0 : Int} {h : Heap} {R : Int → Heap → Prop} (hv : vc84 a0 h R) : Call Go.Proofs.Try.prog 84 [.lf (.int .u64 a0)] h [.one (.int .i64)] R := call_eq hng hmix Go.Proofs.Try.func84 (eq84 a0 h R) hv
/- 72: math.bits.Len (x) -/
def pl72 : Plan := {
  blk := fun _ => none
  seq := fun _ => none
  loop := fun _ => none
  live := fun | 0 => some [0] | 1 => some [2] | 2 => some [2] | _ => none
  track := fun | _ => false
  draw := fun | _ => .done
  iter := fun | _ => none }
def vc72 (a0 : Int) (h : Heap) (R : Int → Heap → Prop) : Prop :=
  Call Go.Proofs.Try.prog 84 [VV.lf (Lf.int IntKind.u64 a0)] h [VT.one (LT.int IntKind.i64)] fun (i0 : Int) (h1 : Heap) => R i0 h1
theorem eq72 (a0 : Int) (h : Heap) (R : Int → Heap → Prop) : vc72 a0 h R = vcFn Go.Proofs.Try.prog pl72 Go.Proofs.Try.f72 [.lf (.int .u64 a0)] h [.one (.int .i64)] R := by kernel_rfl
theorem ok72 {a0 : Int} {h : Heap} {R : Int → Heap → Prop} (hv : vc72 a0 h R) : Call Go.Proofs.Try.prog 72 [.lf (.int .u64 a0)] h [.one (.int .i64)] R := call_eq hng hmix Go.Proofs.Try.func72 (eq72 a0 h R) hv
end Go.V.Ytclffphegfhocaa
