/- This text proves a part of the laws of seat Yteojmnnobmpdiaa, under no condition: W7b. -/
import Derived.Test.YteojmnnobmpdiaaWC
import Derived.Eval
import Derived.Test.YteojmnnobmpdiaaChecked
import Derived.Test.YteojmnnobmpdiaaWE
set_option linter.unusedVariables false
set_option maxRecDepth 100000
namespace Go.V.Yteojmnnobmpdiaa
open Go Go.V
/- 84: (*sediment.wal.reader).next () -/
def pl84 : Plan := {
  blk := fun _ => none
  seq := fun _ => none
  loop := fun _ => none
  live := fun | 0 => some [0] | 1 => some [0, 5] | 2 => some [0, 5, 6] | 3 => some [0, 5, 6, 28] | 4 => some [0, 5, 6, 29] | 5 => some [0] | 6 => some [2, 3, 4] | 7 => some [0, 47] | 8 => some [2, 3, 4] | 9 => some [2, 3, 4] | 10 => some [0, 5, 6, 52] | 11 => some [2, 3, 4] | 12 => some [0, 5, 6, 57] | 13 => some [2, 3, 4] | 14 => some [0, 5, 6, 7] | 15 => some [0, 6, 7, 80] | 16 => some [2, 3, 4] | 17 => some [0, 6, 7, 86] | 18 => some [2, 3, 4] | 19 => some [2, 3, 4] | _ => none
  track := fun | _ => false
  draw := fun | 2 => .still 0 (.still 1 (.still 2 (.still 3 (.still 4 (.still 5 (.still 6 (.still 7 (.still 8 (.still 9 (.done)))))))))) | 14 => .still 0 (.still 1 (.still 2 (.still 3 (.still 4 (.still 5 (.still 6 (.still 7 (.still 8 (.still 9 (.still 10 (.still 11 (.still 12 (.still 13 (.still 14 (.still 15 (.done)))))))))))))))) | _ => .done
  iter := fun | _ => none }
def vc84 (a0 : Option (Nat × Nat)) (h : Heap) (R : Int → Slc → Int → Heap → Prop) : Prop :=
  NilC a0 fun (b0 b1 : Nat) =>
    ∃ (i2 : Int),
      cellsAt h b0 (b1 + 4) [Lf.int IntKind.i64 i2] ∧
        ((4096 : Int) = (0 : Int) → False) ∧
          NilC a0 fun (b3 b4 : Nat) =>
            ∃ (s5 : Slc),
              cellsAt h b3 (b4 + 0) [Lf.slc s5] ∧
                NilC a0 fun (b6 b7 : Nat) =>
                  ∃ (i8 : Int),
                    cellsAt h b6 (b7 + 4) [Lf.int IntKind.i64 i8] ∧
                      (0 : Int) ≤ i8 ∧
                        i8 ≤ (↑(Slc.len s5) : Int) ∧
                          NilC a0 fun (b9 b10 : Nat) =>
                            ∃ (i11 : Int),
                              cellsAt h b9 (b10 + 3) [Lf.int IntKind.i64 i11] ∧
                                Br (Decidable.decide (IntKind.wrap IntKind.i64 ((4096 : Int) - Int.tmod i2 (4096 : Int)) < i11))
                                  (Br
                                    (Decidable.decide
                                      ((↑(Slc.len (Slc.sub s5 1 (Int.toNat i8) (Slc.len s5) (Slc.cap s5))) : Int) ≥
                                        IntKind.wrap IntKind.i64 ((4096 : Int) - Int.tmod i2 (4096 : Int))))
                                    (NilC a0 fun (b12 b13 : Nat) =>
                                      ∃ (i14 : Int),
                                        cellsAt h b12 (b13 + 4) [Lf.int IntKind.i64 i14] ∧
                                          NilC a0 fun (b15 b16 : Nat) =>
                                            StC h b15 (b16 + 4)
                                              [Lf.int IntKind.i64 (IntKind.wrap IntKind.i64 (i14 + IntKind.wrap IntKind.i64 ((4096 : Int) - Int.tmod i2 (4096 : Int))))]
                                              fun (h17 : Heap) =>
                                              Call Go.Proofs.Try.prog 84 [VV.lf (Lf.ptr a0)] h17
                                                [VT.one (LT.int IntKind.i64), VT.one LT.slc, VT.one (LT.int IntKind.i64)]
                                                fun (i18 : Int) (s19 : Slc) (i20 : Int) (h21 : Heap) => R i18 s19 i20 h21)
                                    (Call Go.Proofs.Try.prog 118 [VV.lf (Lf.slc (Slc.sub s5 1 (Int.toNat i8) (Slc.len s5) (Slc.cap s5)))] h
                                      [VT.one LT.bool] fun (c22 : Bool) (h23 : Heap) =>
                                      Br c22
                                        (Call Go.Proofs.Try.prog 119 [VV.lf (Lf.ptr a0)] h23 [VT.one (LT.int IntKind.i64)] fun (i24 : Int) (h25 : Heap) =>
                                          R (0 : Int) (Slc.mk Option.none 0 0) i24 h25)
                                        (R (0 : Int) (Slc.mk Option.none 0 0) (1 : Int) h23)))
                                  (Call Go.Proofs.Try.prog 118 [VV.lf (Lf.slc (Slc.sub s5 1 (Int.toNat i8) (Slc.len s5) (Slc.cap s5)))] h
                                    [VT.one LT.bool] fun (c26 : Bool) (h27 : Heap) =>
                                    Br c26
                                      (Call Go.Proofs.Try.prog 119 [VV.lf (Lf.ptr a0)] h27 [VT.one (LT.int IntKind.i64)] fun (i28 : Int) (h29 : Heap) =>
                                        R (0 : Int) (Slc.mk Option.none 0 0) i28 h29)
                                      (NilC a0 fun (b30 b31 : Nat) =>
                                        ∃ (i32 : Int),
                                          cellsAt h27 b30 (b31 + 3) [Lf.int IntKind.i64 i32] ∧
                                            Br (Decidable.decide ((↑(Slc.len (Slc.sub s5 1 (Int.toNat i8) (Slc.len s5) (Slc.cap s5))) : Int) < i32))
                                              (R (0 : Int) (Slc.mk Option.none 0 0) (1 : Int) h27)
                                              (NilC a0 fun (b33 b34 : Nat) =>
                                                ∃ (i35 : Int),
                                                  cellsAt h27 b33 (b34 + 3) [Lf.int IntKind.i64 i35] ∧
                                                    IxC (Slc.sub s5 1 (Int.toNat i8) (Slc.len s5) (Slc.cap s5)) (4 : Int) 1 fun (b36 b37 : Nat) =>
                                                      ∃ (i38 : Int),
                                                        cellsAt h27 b36 b37 [Lf.int IntKind.u8 i38] ∧
                                                          IxC (Slc.sub s5 1 (Int.toNat i8) (Slc.len s5) (Slc.cap s5)) (5 : Int) 1 fun (b39 b40 : Nat) =>
                                                            ∃ (i41 : Int),
                                                              cellsAt h27 b39 b40 [Lf.int IntKind.u8 i41] ∧
                                                                (0 : Int) ≤ (8 : Int) ∧
                                                                  Br
                                                                    (Decidable.decide
                                                                      (IntKind.wrap IntKind.i64
                                                                          (IntKind.wrap IntKind.i64 (i35 + IntKind.wrap IntKind.i64 i38) +
                                                                            shiftL IntKind.i64 (IntKind.wrap IntKind.i64 i41) (8 : Int)) >
                                                                        IntKind.wrap IntKind.i64 ((4096 : Int) - Int.tmod i2 (4096 : Int))))
                                                                    (Call Go.Proofs.Try.prog 120 [VV.lf (Lf.ptr a0)] h27 [VT.one (LT.int IntKind.i64)]
                                                                      fun (i42 : Int) (h43 : Heap) => R (0 : Int) (Slc.mk Option.none 0 0) i42 h43)
                                                                    (Br
                                                                      (Decidable.decide
                                                                        (IntKind.wrap IntKind.i64
                                                                            (IntKind.wrap IntKind.i64 (i35 + IntKind.wrap IntKind.i64 i38) +
                                                                              shiftL IntKind.i64 (IntKind.wrap IntKind.i64 i41) (8 : Int)) >
                                                                          (↑(Slc.len (Slc.sub s5 1 (Int.toNat i8) (Slc.len s5) (Slc.cap s5))) : Int)))
                                                                      (R (0 : Int) (Slc.mk Option.none 0 0) (1 : Int) h27)
                                                                      ((0 : Int) ≤
                                                                          IntKind.wrap IntKind.i64
                                                                            (IntKind.wrap IntKind.i64 (i35 + IntKind.wrap IntKind.i64 i38) +
                                                                              shiftL IntKind.i64 (IntKind.wrap IntKind.i64 i41) (8 : Int)) ∧
                                                                        IntKind.wrap IntKind.i64
                                                                              (IntKind.wrap IntKind.i64 (i35 + IntKind.wrap IntKind.i64 i38) +
                                                                                shiftL IntKind.i64 (IntKind.wrap IntKind.i64 i41) (8 : Int)) ≤
                                                                            (↑(Slc.cap (Slc.sub s5 1 (Int.toNat i8) (Slc.len s5) (Slc.cap s5))) : Int) ∧
                                                                          Call Go.Proofs.Try.prog 121
                                                                            [VV.lf (Lf.ptr a0),
                                                                              VV.lf
                                                                                (Lf.slc
                                                                                  (Slc.sub (Slc.sub s5 1 (Int.toNat i8) (Slc.len s5) (Slc.cap s5)) 1 0
                                                                                    (Int.toNat
                                                                                      (IntKind.wrap IntKind.i64
                                                                                        (IntKind.wrap IntKind.i64 (i35 + IntKind.wrap IntKind.i64 i38) +
                                                                                          shiftL IntKind.i64 (IntKind.wrap IntKind.i64 i41) (8 : Int))))
                                                                                    (Slc.cap (Slc.sub s5 1 (Int.toNat i8) (Slc.len s5) (Slc.cap s5)))))]
                                                                            h27 [VT.one (LT.int IntKind.i64), VT.one LT.slc, VT.one (LT.int IntKind.i64)]
                                                                            fun (i44 : Int) (s45 : Slc) (i46 : Int) (h47 : Heap) => R i44 s45 i46 h47)))))
theorem eq84 (a0 : Option (Nat × Nat)) (h : Heap) (R : Int → Slc → Int → Heap → Prop) : vc84 a0 h R = vcFn Go.Proofs.Try.prog pl84 Go.Proofs.Try.f84 [.lf (.ptr a0)] h [.one (.int .i64), .one .slc, .one (.int .i64)] R := by kernel_rfl
theorem ok84 {a0 : Option (Nat × Nat)} {h : Heap} {R : Int → Slc → Int → Heap → Prop} (hv : vc84 a0 h R) : Call Go.Proofs.Try.prog 84 [.lf (.ptr a0)] h [.one (.int .i64), .one .slc, .one (.int .i64)] R := call_eq hng hmix Go.Proofs.Try.func84 (eq84 a0 h R) hv
/- 121: (*sediment.wal.reader).fragment () · seq 5: #9 · seq 6: #41 · seq 11:  · seq 12: #12 -/
def pl121 : Plan := {
  blk := fun _ => none
  seq := fun | 5 => some ⟨[(9, .one (.int .i64))], [], []⟩ | 6 => some ⟨[(41, .one .bool)], [], []⟩ | 11 => some ⟨[], [], []⟩ | 12 => some ⟨[(12, .one .bool)], [], []⟩ | _ => none
  loop := fun _ => none
  live := fun | 0 => some [0, 1] | 1 => some [0, 1, 7] | 2 => some [0, 1, 7, 9] | 3 => some [0, 1, 7, 9, 25] | 4 => some [0, 1, 7, 9] | 5 => some [0, 1, 9, 41] | 6 => some [4, 5, 6] | 7 => some [0, 1, 9, 47] | 8 => some [0, 1, 9, 10] | 9 => some [0, 1, 9, 59] | 10 => some [4, 5, 6] | 11 => some [0, 1, 9, 12] | 12 => some [0, 1, 9, 71] | 13 => some [4, 5, 6] | 14 => some [0, 1, 9] | 15 => some [4, 5, 6] | _ => none
  track := fun | _ => false
  draw := fun | 15 => .still 0 (.still 1 (.still 2 (.still 3 (.still 4 (.still 5 (.still 6 (.still 7 (.still 8 (.still 9 (.done)))))))))) | _ => .done
  iter := fun | _ => none }
def vc121 (a0 : Option (Nat × Nat)) (a1 : Slc) (h : Heap) (R : Int → Slc → Int → Heap → Prop) : Prop :=
  Call Go.Proofs.Try.prog 140 [VV.lf (Lf.slc a1)] h [VT.one (LT.int IntKind.u32), VT.one (LT.int IntKind.i64)] fun (i0 i1 : Int) (h2 : Heap) =>
    IxC a1 (6 : Int) 1 fun (b3 b4 : Nat) =>
      ∃ (i5 : Int),
        cellsAt h2 b3 b4 [Lf.int IntKind.u8 i5] ∧
          ∃ (I6 : Int → Heap → Prop),
            (NilC a0 fun (b7 b8 : Nat) =>
                ∃ (c9 : Bool),
                  cellsAt h2 b7 (b8 + 2) [Lf.bool c9] ∧
                    Br c9 (I6 (IntKind.wrap IntKind.i64 (IntKind.wrap IntKind.i64 i5 - (4 : Int))) h2) (I6 (IntKind.wrap IntKind.i64 i5) h2)) ∧
              ∀ (i10 : Int) (h11 : Heap),
                I6 i10 h11 →
                  ∃ (I12 : Bool → Heap → Prop),
                    ((0 : Int) ≤ (6 : Int) ∧
                        (6 : Int) ≤ (↑(Slc.len a1) : Int) ∧
                          Call Go.Proofs.Try.prog 142 [VV.lf (Lf.slc (Slc.sub a1 1 6 (Slc.len a1) (Slc.cap a1)))] h11
                            [VT.one (LT.int IntKind.u32)] fun (i13 : Int) (h14 : Heap) =>
                            Call Go.Proofs.Try.prog 141 [VV.lf (Lf.int IntKind.u32 i13)] h14 [VT.one (LT.int IntKind.u32)] fun (i15 : Int) (h16 : Heap) =>
                              Br (i15 != i0) (I12 Bool.true h16) (Br (Decidable.decide (i10 < (1 : Int))) (I12 Bool.true h16) (I12 (Decidable.decide (i10 > (4 : Int))) h16))) ∧
                      ∀ (c17 : Bool) (h18 : Heap),
                        I12 c17 h18 →
                          Br c17
                            (Call Go.Proofs.Try.prog 120 [VV.lf (Lf.ptr a0)] h18 [VT.one (LT.int IntKind.i64)] fun (i19 : Int) (h20 : Heap) =>
                              R (0 : Int) (Slc.mk Option.none 0 0) i19 h20)
                            (∃ (I21 : Heap → Prop),
                              (NilC a0 fun (b22 b23 : Nat) =>
                                  ∃ (c24 : Bool),
                                    cellsAt h18 b22 (b23 + 2) [Lf.bool c24] ∧
                                      Br c24
                                        ((0 : Int) ≤ (7 : Int) ∧
                                          (7 : Int) ≤ (↑(Slc.len a1) : Int) ∧
                                            Call Go.Proofs.Try.prog 140 [VV.lf (Lf.slc (Slc.sub a1 1 7 (Slc.len a1) (Slc.cap a1)))] h18
                                              [VT.one (LT.int IntKind.u32), VT.one (LT.int IntKind.i64)] fun (i25 i26 : Int) (h27 : Heap) =>
                                              NilC a0 fun (b28 b29 : Nat) =>
                                                ∃ (i30 : Int),
                                                  cellsAt h27 b28 (b29 + 1) [Lf.int IntKind.u32 i30] ∧
                                                    Br (i25 != i30) (R (0 : Int) (Slc.mk Option.none 0 0) (2 : Int) h27) (I21 h27))
                                        (I21 h18)) ∧
                                ∀ (h31 : Heap),
                                  I21 h31 →
                                    ∃ (I32 : Bool → Heap → Prop),
                                      Br (i10 == (1 : Int)) (I32 Bool.true h31) (I32 (i10 == (2 : Int)) h31) ∧
                                        ∀ (c33 : Bool) (h34 : Heap),
                                          I32 c33 h34 →
                                            NilC a0 fun (b35 b36 : Nat) =>
                                              ∃ (c37 : Bool),
                                                cellsAt h34 b35 (b36 + 5) [Lf.bool c37] ∧
                                                  Br (c33 == c37)
                                                    (Call Go.Proofs.Try.prog 120 [VV.lf (Lf.ptr a0)] h34 [VT.one (LT.int IntKind.i64)]
                                                      fun (i38 : Int) (h39 : Heap) => R (0 : Int) (Slc.mk Option.none 0 0) i38 h39)
                                                    (NilC a0 fun (b40 b41 : Nat) =>
                                                      ∃ (i42 : Int),
                                                        cellsAt h34 b40 (b41 + 4) [Lf.int IntKind.i64 i42] ∧
                                                          NilC a0 fun (b43 b44 : Nat) =>
                                                            StC h34 b43 (b44 + 4) [Lf.int IntKind.i64 (IntKind.wrap IntKind.i64 (i42 + (↑(Slc.len a1) : Int)))]
                                                              fun (h45 : Heap) =>
                                                              NilC a0 fun (b46 b47 : Nat) =>
                                                                ∃ (i48 : Int),
                                                                  cellsAt h45 b46 (b47 + 3) [Lf.int IntKind.i64 i48] ∧
                                                                    (0 : Int) ≤ i48 ∧
                                                                      i48 ≤ (↑(Slc.len a1) : Int) ∧
                                                                        R i10 (Slc.sub a1 1 (Int.toNat i48) (Slc.len a1) (Slc.cap a1)) (-1 : Int) h45))
theorem eq121 (a0 : Option (Nat × Nat)) (a1 : Slc) (h : Heap) (R : Int → Slc → Int → Heap → Prop) : vc121 a0 a1 h R = vcFn Go.Proofs.Try.prog pl121 Go.Proofs.Try.f121 [.lf (.ptr a0), .lf (.slc a1)] h [.one (.int .i64), .one .slc, .one (.int .i64)] R := by kernel_rfl
theorem ok121 {a0 : Option (Nat × Nat)} {a1 : Slc} {h : Heap} {R : Int → Slc → Int → Heap → Prop} (hv : vc121 a0 a1 h R) : Call Go.Proofs.Try.prog 121 [.lf (.ptr a0), .lf (.slc a1)] h [.one (.int .i64), .one .slc, .one (.int .i64)] R := call_eq hng hmix Go.Proofs.Try.func121 (eq121 a0 a1 h R) hv
/- 89: sediment.sedimentref05.fragment () · seq 16: #21 · seq 17: #81 · seq 22:  -/
def pl89 : Plan := {
  blk := fun _ => none
  seq := fun | 16 => some ⟨[(21, .one (.int .i64))], [], []⟩ | 17 => some ⟨[(81, .one .bool)], [], []⟩ | 22 => some ⟨[], [], []⟩ | _ => none
  loop := fun _ => none
  live := fun | 0 => some [0, 1, 2, 3, 4, 5, 6] | 1 => some [0, 1, 2, 3, 4, 5, 6, 25] | 2 => some [14, 15, 16] | 3 => some [0, 1, 2, 3, 4, 5, 6, 31] | 4 => some [14, 15, 16] | 5 => some [0, 1, 2, 3, 4, 5, 6, 17] | 6 => some [0, 2, 3, 4, 5, 6, 17, 43] | 7 => some [14, 15, 16] | 8 => some [0, 2, 3, 4, 5, 6, 17, 51] | 9 => some [14, 15, 16] | 10 => some [0, 2, 3, 4, 5, 6, 17, 19] | 11 => some [0, 2, 3, 4, 5, 6, 17, 67] | 12 => some [14, 15, 16] | 13 => some [0, 2, 3, 4, 5, 6, 17, 21] | 14 => some [0, 2, 3, 4, 5, 6, 17, 21, 73] | 15 => some [0, 2, 3, 4, 5, 6, 17, 21] | 16 => some [0, 2, 3, 4, 5, 6, 17, 21, 81] | 17 => some [14, 15, 16] | 18 => some [0, 2, 3, 5, 6, 17, 21, 83] | 19 => some [0, 2, 3, 5, 6, 17, 21, 22] | 20 => some [0, 2, 5, 6, 17, 21, 93] | 21 => some [14, 15, 16] | 22 => some [0, 2, 6, 17, 21, 101] | 23 => some [14, 15, 16] | 24 => some [14, 15, 16] | _ => none
  track := fun | _ => false
  draw := fun | 24 => .still 0 (.still 1 (.still 2 (.still 3 (.still 4 (.still 5 (.still 6 (.still 7 (.still 8 (.still 9 (.still 10 (.done))))))))))) | _ => .done
  iter := fun | _ => none }
def vc89 (a0 : Slc) (a1 : Int) (a2 : Int) (a3 : Int) (a4 : Bool) (a5 : Bool) (a6 : Int) (h : Heap) (R : Int → Slc → Int → Heap → Prop) : Prop :=
  Call Go.Proofs.Try.prog 87 [VV.lf (Lf.slc a0)] h [VT.one LT.bool] fun (c0 : Bool) (h1 : Heap) =>
    Br c0
      (Call Go.Proofs.Try.prog 88 [VV.lf (Lf.bool a5)] h1 [VT.one (LT.int IntKind.i64)] fun (i2 : Int) (h3 : Heap) =>
        R (0 : Int) (Slc.mk Option.none 0 0) i2 h3)
      (Br (Decidable.decide ((↑(Slc.len a0) : Int) < a2)) (R (0 : Int) (Slc.mk Option.none 0 0) (1 : Int) h1)
        ((0 : Int) ≤ (4 : Int) ∧
          (4 : Int) ≤ (↑(Slc.len a0) : Int) ∧
            Call Go.Proofs.Try.prog 122
              [VV.lf (Lf.slc (Slc.sub a0 1 4 (Slc.len a0) (Slc.cap a0))), VV.lf (Lf.int IntKind.i64 (2 : Int))] h1
              [VT.one (LT.int IntKind.u64), VT.one (LT.int IntKind.i64)] fun (i4 i5 : Int) (h6 : Heap) =>
              Br (Decidable.decide (IntKind.wrap IntKind.i64 (a2 + IntKind.wrap IntKind.i64 i4) > a1)) (R (0 : Int) (Slc.mk Option.none 0 0) a6 h6)
                (Br (Decidable.decide ((↑(Slc.len a0) : Int) < IntKind.wrap IntKind.i64 (a2 + IntKind.wrap IntKind.i64 i4)))
                  (R (0 : Int) (Slc.mk Option.none 0 0) (1 : Int) h6)
                  (Call Go.Proofs.Try.prog 122 [VV.lf (Lf.slc a0), VV.lf (Lf.int IntKind.i64 (4 : Int))] h6
                    [VT.one (LT.int IntKind.u64), VT.one (LT.int IntKind.i64)] fun (i7 i8 : Int) (h9 : Heap) =>
                    (0 : Int) ≤ IntKind.wrap IntKind.i64 (a2 + IntKind.wrap IntKind.i64 i4) ∧
                      IntKind.wrap IntKind.i64 (a2 + IntKind.wrap IntKind.i64 i4) ≤ (↑(Slc.cap a0) : Int) ∧
                        (0 : Int) ≤ (6 : Int) ∧
                          (6 : Int) ≤ (↑(Int.toNat (IntKind.wrap IntKind.i64 (a2 + IntKind.wrap IntKind.i64 i4))) : Int) ∧
                            Call Go.Proofs.Try.prog 124
                              [VV.lf (Lf.slc (Slc.sub a0 1 6 (Int.toNat (IntKind.wrap IntKind.i64 (a2 + IntKind.wrap IntKind.i64 i4))) (Slc.cap a0)))] h9
                              [VT.one (LT.int IntKind.u32)] fun (i10 : Int) (h11 : Heap) =>
                              Call Go.Proofs.Try.prog 123 [VV.lf (Lf.int IntKind.u32 i10)] h11 [VT.one (LT.int IntKind.u32)]
                                fun (i12 : Int) (h13 : Heap) =>
                                Br (i12 != IntKind.wrap IntKind.u32 i7) (R (0 : Int) (Slc.mk Option.none 0 0) a6 h13)
                                  (IxC a0 (6 : Int) 1 fun (b14 b15 : Nat) =>
                                    ∃ (i16 : Int),
                                      cellsAt h13 b14 b15 [Lf.int IntKind.u8 i16] ∧
                                        ∃ (I17 : Int → Heap → Prop),
                                          Br a4 (I17 (IntKind.wrap IntKind.i64 (IntKind.wrap IntKind.i64 i16 - (4 : Int))) h13) (I17 (IntKind.wrap IntKind.i64 i16) h13) ∧
                                            ∀ (i18 : Int) (h19 : Heap),
                                              I17 i18 h19 →
                                                ∃ (I20 : Bool → Heap → Prop),
                                                  Br (Decidable.decide (i18 < (1 : Int))) (I20 Bool.true h19) (I20 (Decidable.decide (i18 > (4 : Int))) h19) ∧
                                                    ∀ (c21 : Bool) (h22 : Heap),
                                                      I20 c21 h22 →
                                                        Br c21 (R (0 : Int) (Slc.mk Option.none 0 0) a6 h22)
                                                          (∃ (I23 : Heap → Prop),
                                                            Br a4
                                                                ((0 : Int) ≤ (7 : Int) ∧
                                                                  (7 : Int) ≤ (↑(Slc.len a0) : Int) ∧
                                                                    Call Go.Proofs.Try.prog 122
                                                                      [VV.lf (Lf.slc (Slc.sub a0 1 7 (Slc.len a0) (Slc.cap a0))),
                                                                        VV.lf (Lf.int IntKind.i64 (4 : Int))]
                                                                      h22 [VT.one (LT.int IntKind.u64), VT.one (LT.int IntKind.i64)] fun (i24 i25 : Int) (h26 : Heap) =>
                                                                      Br (IntKind.wrap IntKind.u32 i24 != a3) (R (0 : Int) (Slc.mk Option.none 0 0) (2 : Int) h26)
                                                                        (I23 h26))
                                                                (I23 h22) ∧
                                                              ∀ (h27 : Heap),
                                                                I23 h27 →
                                                                  Br (i18 == (3 : Int))
                                                                    (Br (!Bool.true == a5) (R (0 : Int) (Slc.mk Option.none 0 0) a6 h27)
                                                                      ((0 : Int) ≤ IntKind.wrap IntKind.i64 (a2 + IntKind.wrap IntKind.i64 i4) ∧
                                                                        IntKind.wrap IntKind.i64 (a2 + IntKind.wrap IntKind.i64 i4) ≤ (↑(Slc.cap a0) : Int) ∧
                                                                          (0 : Int) ≤ a2 ∧
                                                                            a2 ≤ (↑(Int.toNat (IntKind.wrap IntKind.i64 (a2 + IntKind.wrap IntKind.i64 i4))) : Int) ∧
                                                                              R i18
                                                                                (Slc.sub a0 1 (Int.toNat a2)
                                                                                  (Int.toNat (IntKind.wrap IntKind.i64 (a2 + IntKind.wrap IntKind.i64 i4))) (Slc.cap a0))
                                                                                (0 : Int) h27))
                                                                    (Br (!(i18 == (4 : Int)) == a5) (R (0 : Int) (Slc.mk Option.none 0 0) a6 h27)
                                                                      ((0 : Int) ≤ IntKind.wrap IntKind.i64 (a2 + IntKind.wrap IntKind.i64 i4) ∧
                                                                        IntKind.wrap IntKind.i64 (a2 + IntKind.wrap IntKind.i64 i4) ≤ (↑(Slc.cap a0) : Int) ∧
                                                                          (0 : Int) ≤ a2 ∧
                                                                            a2 ≤ (↑(Int.toNat (IntKind.wrap IntKind.i64 (a2 + IntKind.wrap IntKind.i64 i4))) : Int) ∧
                                                                              R i18
                                                                                (Slc.sub a0 1 (Int.toNat a2)
                                                                                  (Int.toNat (IntKind.wrap IntKind.i64 (a2 + IntKind.wrap IntKind.i64 i4))) (Slc.cap a0))
                                                                                (0 : Int) h27))))))))
theorem eq89 (a0 : Slc) (a1 : Int) (a2 : Int) (a3 : Int) (a4 : Bool) (a5 : Bool) (a6 : Int) (h : Heap) (R : Int → Slc → Int → Heap → Prop) : vc89 a0 a1 a2 a3 a4 a5 a6 h R = vcFn Go.Proofs.Try.prog pl89 Go.Proofs.Try.f89 [.lf (.slc a0), .lf (.int .i64 a1), .lf (.int .i64 a2), .lf (.int .u32 a3), .lf (.bool a4), .lf (.bool a5), .lf (.int .i64 a6)] h [.one (.int .i64), .one .slc, .one (.int .i64)] R := by kernel_rfl
theorem ok89 {a0 : Slc} {a1 : Int} {a2 : Int} {a3 : Int} {a4 : Bool} {a5 : Bool} {a6 : Int} {h : Heap} {R : Int → Slc → Int → Heap → Prop} (hv : vc89 a0 a1 a2 a3 a4 a5 a6 h R) : Call Go.Proofs.Try.prog 89 [.lf (.slc a0), .lf (.int .i64 a1), .lf (.int .i64 a2), .lf (.int .u32 a3), .lf (.bool a4), .lf (.bool a5), .lf (.int .i64 a6)] h [.one (.int .i64), .one .slc, .one (.int .i64)] R := call_eq hng hmix Go.Proofs.Try.func89 (eq89 a0 a1 a2 a3 a4 a5 a6 h R) hv
/- 90: sediment.wal.New (log, recycled) -/
def pl90 : Plan := {
  blk := fun _ => none
  seq := fun _ => none
  loop := fun _ => none
  live := fun | 0 => some [0, 1] | 1 => some [4] | _ => none
  track := fun | _ => false
  draw := fun | _ => .done
  iter := fun | _ => none }
def vc90 (a0 : Int) (a1 : Bool) (h : Heap) (R : Option (Nat × Nat) → Heap → Prop) : Prop :=
  New 144 [Lf.int IntKind.u32 a0, Lf.bool a1, Lf.int IntKind.i64 (0 : Int)] h fun (b0 : Nat) (h1 : Heap) => R (Option.some (b0, 0)) h1
theorem eq90 (a0 : Int) (a1 : Bool) (h : Heap) (R : Option (Nat × Nat) → Heap → Prop) : vc90 a0 a1 h R = vcFn Go.Proofs.Try.prog pl90 Go.Proofs.Try.f90 [.lf (.int .u32 a0), .lf (.bool a1)] h [.one .ptr] R := by kernel_rfl
theorem ok90 {a0 : Int} {a1 : Bool} {h : Heap} {R : Option (Nat × Nat) → Heap → Prop} (hv : vc90 a0 a1 h R) : Call Go.Proofs.Try.prog 90 [.lf (.int .u32 a0), .lf (.bool a1)] h [.one .ptr] R := call_eq hng hmix Go.Proofs.Try.func90 (eq90 a0 a1 h R) hv
/- 125: (*sediment.wal.Writer).fragment (w, typ, b) · seq 4: said -/
def pl125 : Plan := {
  blk := fun _ => none
  seq := fun | 4 => some ⟨[(7, .one .slc)], [], []⟩ | _ => none
  loop := fun _ => none
  live := fun | 0 => some [0, 1, 2] | 1 => some [0, 1, 2, 7] | 2 => some [0, 1, 2, 7, 15] | 3 => some [2, 7] | 4 => some [2, 7] | 5 => some [2, 7, 8] | 6 => some [7, 8] | 7 => some [6] | _ => none
  track := fun | _ => false
  draw := fun | _ => .done
  iter := fun | _ => none }
def vc125 (a0 : Option (Nat × Nat)) (a1 : Int) (a2 : Slc) (h : Heap) (R : Slc → Heap → Prop) : Prop :=
  New 5 [Lf.int IntKind.u8 (IntKind.wrap IntKind.u8 a1)] h fun (b0 : Nat) (h1 : Heap) =>
    ∃ (I2 : Slc → Heap → Prop),
      (NilC a0 fun (b3 b4 : Nat) =>
          ∃ (c5 : Bool),
            cellsAt h1 b3 (b4 + 1) [Lf.bool c5] ∧
              Br c5
                (New 5 [Lf.int IntKind.u8 (IntKind.wrap IntKind.u8 (IntKind.wrap IntKind.i64 (a1 + (4 : Int))))] h1 fun (b6 : Nat) (h7 : Heap) =>
                  NilC a0 fun (b8 b9 : Nat) =>
                    ∃ (i10 : Int),
                      cellsAt h7 b8 (b9 + 0) [Lf.int IntKind.u32 i10] ∧
                        Call Go.Proofs.Try.prog 143 [VV.lf (Lf.int IntKind.u32 i10)] h7 [VT.one LT.slc] fun (s11 : Slc) (h12 : Heap) =>
                          AppC 5 [Lf.int IntKind.u8 (0 : Int)] 1 1 (Slc.mk (Option.some (b6, 0)) 1 1) s11 h12
                            fun (s13 : Slc) (h14 : Heap) => I2 s13 h14)
                (I2 (Slc.mk (Option.some (b0, 0)) 1 1) h1)) ∧
        ∀ (s15 : Slc) (h16 : Heap),
          I2 s15 h16 →
            AppC 5 [Lf.int IntKind.u8 (0 : Int)] 1 1 s15 a2 h16 fun (s17 : Slc) (h18 : Heap) =>
              Call Go.Proofs.Try.prog 142 [VV.lf (Lf.slc s17)] h18 [VT.one (LT.int IntKind.u32)] fun (i19 : Int) (h20 : Heap) =>
                Call Go.Proofs.Try.prog 141 [VV.lf (Lf.int IntKind.u32 i19)] h20 [VT.one (LT.int IntKind.u32)] fun (i21 : Int) (h22 : Heap) =>
                  Call Go.Proofs.Try.prog 143 [VV.lf (Lf.int IntKind.u32 i21)] h22 [VT.one LT.slc] fun (s23 : Slc) (h24 : Heap) =>
                    (0 : Int) ≤ (8 : Int) ∧
                      New 5
                        [Lf.int IntKind.u8 (IntKind.wrap IntKind.u8 (↑(Slc.len a2) : Int)),
                          Lf.int IntKind.u8 (IntKind.wrap IntKind.u8 (shiftR IntKind.i64 (↑(Slc.len a2) : Int) (8 : Int)))]
                        h24 fun (b25 : Nat) (h26 : Heap) =>
                        AppC 5 [Lf.int IntKind.u8 (0 : Int)] 1 1 s23 (Slc.mk (Option.some (b25, 0)) 2 2) h26
                          fun (s27 : Slc) (h28 : Heap) =>
                          AppC 5 [Lf.int IntKind.u8 (0 : Int)] 1 1 s27 s17 h28 fun (s29 : Slc) (h30 : Heap) => R s29 h30
theorem eq125 (a0 : Option (Nat × Nat)) (a1 : Int) (a2 : Slc) (h : Heap) (R : Slc → Heap → Prop) : vc125 a0 a1 a2 h R = vcFn Go.Proofs.Try.prog pl125 Go.Proofs.Try.f125 [.lf (.ptr a0), .lf (.int .i64 a1), .lf (.slc a2)] h [.one .slc] R := by kernel_rfl
theorem ok125 {a0 : Option (Nat × Nat)} {a1 : Int} {a2 : Slc} {h : Heap} {R : Slc → Heap → Prop} (hv : vc125 a0 a1 a2 h R) : Call Go.Proofs.Try.prog 125 [.lf (.ptr a0), .lf (.int .i64 a1), .lf (.slc a2)] h [.one .slc] R := call_eq hng hmix Go.Proofs.Try.func125 (eq125 a0 a1 a2 h R) hv
/- 91: (*sediment.wal.Writer).Add () · blk 2: #12 · seq 2: #22 · seq 6: #6 · seq 13: #7, #9 · seq 17: #52 · loop 9: #1, #7, #8 -/
def pl91 : Plan := {
  blk := fun | 2 => some ⟨[(12, .one (.int .i64))], [], []⟩ | _ => none
  seq := fun | 2 => some ⟨[(22, .one .bool)], [], []⟩ | 6 => some ⟨[(6, .one (.int .i64))], [], []⟩ | 13 => some ⟨[(7, .one .slc), (9, .one (.int .i64))], [], []⟩ | 17 => some ⟨[(52, .one .bool)], [], []⟩ | _ => none
  loop := fun | 9 => some ⟨[(1, .one .slc), (7, .one .slc), (8, .one .bool)], [], []⟩ | _ => none
  live := fun | 0 => some [0, 1] | 1 => some [0, 1, 22] | 2 => some [4, 5] | 3 => some [0, 1, 6] | 4 => some [0, 1, 6, 26] | 5 => some [0, 1, 6] | 6 => some [0, 1, 6, 7] | 7 => some [0, 1, 6, 7, 8] | 8 => some [0, 1, 6, 7, 8] | 9 => some [0, 1, 6, 7, 8, 9] | 10 => some [0, 1, 6, 7, 8, 9, 38] | 11 => some [0, 1, 6, 7, 8] | 12 => some [0, 1, 6, 7, 8, 9] | 13 => some [0, 1, 6, 7, 8, 10] | 14 => some [0, 1, 6, 7, 8, 10, 11] | 15 => some [0, 1, 6, 7, 8, 10, 11, 12] | 16 => some [0, 1, 6, 7, 8, 10, 11, 12, 52] | 17 => some [0, 1, 6, 7, 10, 11, 12] | 18 => some [0, 1, 6, 7, 8, 10, 11, 12, 57] | 19 => some [0, 1, 6, 7, 10, 11, 12] | 20 => some [0, 1, 6, 7, 10, 11, 12, 59] | 21 => some [0, 1, 6, 7, 10, 11, 12] | 22 => some [0, 1, 6, 7, 10, 11] | 23 => some [0, 1, 6, 7, 11] | 24 => some [0, 1, 6, 7, 73] | 25 => some [7] | 26 => some [4, 5] | _ => none
  track := fun | _ => false
  draw := fun | _ => .done
  iter := fun | _ => none }
def vc91 (a0 : Option (Nat × Nat)) (a1 : Slc) (h : Heap) (R : Slc → Int → Heap → Prop) : Prop :=
  ∃ (I0 : Bool → Heap → Prop),
    Br (Decidable.decide ((↑(Slc.len a1) : Int) > (4194304 : Int))) (I0 Bool.true h)
        (NilC a0 fun (b1 b2 : Nat) => ∃ (i3 : Int), cellsAt h b1 (b2 + 2) [Lf.int IntKind.i64 i3] ∧ I0 (Decidable.decide (i3 > (1073741824 : Int))) h) ∧
      ∀ (c4 : Bool) (h5 : Heap),
        I0 c4 h5 →
          Br c4 (R (Slc.mk Option.none 0 0) (2 : Int) h5)
            (∃ (I6 : Int → Heap → Prop),
              (NilC a0 fun (b7 b8 : Nat) => ∃ (c9 : Bool), cellsAt h5 b7 (b8 + 1) [Lf.bool c9] ∧ Br c9 (I6 (11 : Int) h5) (I6 (7 : Int) h5)) ∧
                ∀ (i10 : Int) (h11 : Heap),
                  I6 i10 h11 →
                    ∃ (I12 : Slc → Slc → Bool → Heap → Nat → Prop),
                      (∃ (b13 : Nat), I12 a1 (Slc.mk Option.none 0 0) Bool.false h11 b13) ∧
                        ∀ (s14 s15 : Slc) (c16 : Bool) (h17 : Heap) (b18 : Nat),
                          I12 s14 s15 c16 h17 b18 →
                            NilC a0 fun (b19 b20 : Nat) =>
                              ∃ (i21 : Int),
                                cellsAt h17 b19 (b20 + 2) [Lf.int IntKind.i64 i21] ∧
                                  ((4096 : Int) = (0 : Int) → False) ∧
                                    ∃ (I22 : Slc → Int → Heap → Prop),
                                      Br
                                          (Decidable.decide
                                            (IntKind.wrap IntKind.i64 ((4096 : Int) - Int.tmod (IntKind.wrap IntKind.i64 (i21 + (↑(Slc.len s15) : Int))) (4096 : Int)) < i10))
                                          (AppZ 5 [Lf.int IntKind.u8 (0 : Int)] 1 1 s15
                                            (IntKind.wrap IntKind.i64 ((4096 : Int) - Int.tmod (IntKind.wrap IntKind.i64 (i21 + (↑(Slc.len s15) : Int))) (4096 : Int))) h17
                                            fun (s23 : Slc) (h24 : Heap) => I22 s23 (4096 : Int) h24)
                                          (I22 s15 (IntKind.wrap IntKind.i64 ((4096 : Int) - Int.tmod (IntKind.wrap IntKind.i64 (i21 + (↑(Slc.len s15) : Int))) (4096 : Int))) h17) ∧
                                        ∀ (s25 : Slc) (i26 : Int) (h27 : Heap),
                                          I22 s25 i26 h27 →
                                            ∃ (I28 : Int → Heap → Prop),
                                              (∃ (I29 : Bool → Heap → Prop),
                                                  Br
                                                      ((if (↑(Slc.len s14) : Int) < IntKind.wrap IntKind.i64 (i26 - i10) then (↑(Slc.len s14) : Int)
                                                        else IntKind.wrap IntKind.i64 (i26 - i10)) ==
                                                        (↑(Slc.len s14) : Int))
                                                      (I29 c16 h27) (I29 Bool.false h27) ∧
                                                    ∀ (c30 : Bool) (h31 : Heap),
                                                      I29 c30 h31 →
                                                        Br c30 (I28 (4 : Int) h31)
                                                          (Br
                                                            ((if (↑(Slc.len s14) : Int) < IntKind.wrap IntKind.i64 (i26 - i10) then (↑(Slc.len s14) : Int)
                                                              else IntKind.wrap IntKind.i64 (i26 - i10)) ==
                                                              (↑(Slc.len s14) : Int))
                                                            (I28 (1 : Int) h31) (Br (!c16) (I28 (2 : Int) h31) (I28 (3 : Int) h31)))) ∧
                                                ∀ (i32 : Int) (h33 : Heap),
                                                  I28 i32 h33 →
                                                    ((0 : Int) ≤
                                                        if (↑(Slc.len s14) : Int) < IntKind.wrap IntKind.i64 (i26 - i10) then (↑(Slc.len s14) : Int)
                                                        else IntKind.wrap IntKind.i64 (i26 - i10)) ∧
                                                      (if (↑(Slc.len s14) : Int) < IntKind.wrap IntKind.i64 (i26 - i10) then (↑(Slc.len s14) : Int)
                                                          else IntKind.wrap IntKind.i64 (i26 - i10)) ≤
                                                          (↑(Slc.cap s14) : Int) ∧
                                                        Call Go.Proofs.Try.prog 125
                                                          [VV.lf (Lf.ptr a0), VV.lf (Lf.int IntKind.i64 i32),
                                                            VV.lf
                                                              (Lf.slc
                                                                (Slc.sub s14 1 0
                                                                  (Int.toNat
                                                                    (if (↑(Slc.len s14) : Int) < IntKind.wrap IntKind.i64 (i26 - i10) then (↑(Slc.len s14) : Int)
                                                                    else IntKind.wrap IntKind.i64 (i26 - i10)))
                                                                  (Slc.cap s14)))]
                                                          h33 [VT.one LT.slc] fun (s34 : Slc) (h35 : Heap) =>
                                                          AppC 5 [Lf.int IntKind.u8 (0 : Int)] 1 1 s25 s34 h35 fun (s36 : Slc) (h37 : Heap) =>
                                                            ((0 : Int) ≤
                                                                if (↑(Slc.len s14) : Int) < IntKind.wrap IntKind.i64 (i26 - i10) then (↑(Slc.len s14) : Int)
                                                                else IntKind.wrap IntKind.i64 (i26 - i10)) ∧
                                                              (if (↑(Slc.len s14) : Int) < IntKind.wrap IntKind.i64 (i26 - i10) then (↑(Slc.len s14) : Int)
                                                                  else IntKind.wrap IntKind.i64 (i26 - i10)) ≤
                                                                  (↑(Slc.len s14) : Int) ∧
                                                                Br
                                                                  ((if (↑(Slc.len s14) : Int) < IntKind.wrap IntKind.i64 (i26 - i10) then (↑(Slc.len s14) : Int)
                                                                    else IntKind.wrap IntKind.i64 (i26 - i10)) ==
                                                                    (↑(Slc.len s14) : Int))
                                                                  (NilC a0 fun (b38 b39 : Nat) =>
                                                                    ∃ (i40 : Int),
                                                                      cellsAt h37 b38 (b39 + 2) [Lf.int IntKind.i64 i40] ∧
                                                                        NilC a0 fun (b41 b42 : Nat) =>
                                                                          StC h37 b41 (b42 + 2)
                                                                            [Lf.int IntKind.i64 (IntKind.wrap IntKind.i64 (i40 + (↑(Slc.len s36) : Int)))] fun (h43 : Heap) =>
                                                                            R s36 (0 : Int) h43)
                                                                  (∃ (b44 : Nat),
                                                                    b44 < b18 ∧
                                                                      I12
                                                                        (Slc.sub s14 1
                                                                          (Int.toNat
                                                                            (if (↑(Slc.len s14) : Int) < IntKind.wrap IntKind.i64 (i26 - i10) then (↑(Slc.len s14) : Int)
                                                                            else IntKind.wrap IntKind.i64 (i26 - i10)))
                                                                          (Slc.len s14) (Slc.cap s14))
                                                                        s36 Bool.true h37 b44))
theorem eq91 (a0 : Option (Nat × Nat)) (a1 : Slc) (h : Heap) (R : Slc → Int → Heap → Prop) : vc91 a0 a1 h R = vcFn Go.Proofs.Try.prog pl91 Go.Proofs.Try.f91 [.lf (.ptr a0), .lf (.slc a1)] h [.one .slc, .one (.int .i64)] R := by kernel_rfl
theorem ok91 {a0 : Option (Nat × Nat)} {a1 : Slc} {h : Heap} {R : Slc → Int → Heap → Prop} (hv : vc91 a0 a1 h R) : Call Go.Proofs.Try.prog 91 [.lf (.ptr a0), .lf (.slc a1)] h [.one .slc, .one (.int .i64)] R := call_eq hng hmix Go.Proofs.Try.func91 (eq91 a0 a1 h R) hv
/- 28: sediment.wal.Read () · seq 5: #35 · seq 6:  · loop 9: #8, #9, #10 -/
def pl28 : Plan := {
  blk := fun _ => none
  seq := fun | 5 => some ⟨[(35, .one .bool)], [], []⟩ | 6 => some ⟨[], [], []⟩ | _ => none
  loop := fun | 9 => some ⟨[(8, .one .slc), (9, .one .slc), (10, .one (.int .i64))], [], []⟩ | _ => none
  live := fun | 0 => some [0, 1] | 1 => some [0, 1, 16] | 2 => some [4, 5, 6] | 3 => some [0, 7] | 4 => some [7, 35] | 5 => some [7] | 6 => some [7, 8] | 7 => some [7, 8, 9] | 8 => some [7, 8, 9, 10] | 9 => some [7, 8, 9, 10, 11, 12, 13] | 10 => some [7, 8, 9, 10, 11, 12, 13, 49] | 11 => some [4, 5, 6] | 12 => some [7, 8, 9, 10, 11] | 13 => some [7, 8, 9, 10] | 14 => some [7, 8, 9, 10, 69] | 15 => some [7, 8] | 16 => some [7, 8, 9, 10] | _ => none
  track := fun | _ => false
  draw := fun | 16 => .still 0 (.still 1 (.still 2 (.still 3 (.still 4 (.still 5 (.done)))))) | _ => .done
  iter := fun | _ => none }
def vc28 (a0 : Slc) (a1 : Int) (h : Heap) (R : Slc → Int → Int → Heap → Prop) : Prop :=
  Br (Decidable.decide ((↑(Slc.len a0) : Int) > (1073741824 : Int))) (R (Slc.mk Option.none 0 0) (3 : Int) (0 : Int) h)
    (New 137 [Lf.slc a0, Lf.int IntKind.u32 a1, Lf.bool Bool.false, Lf.int IntKind.i64 (7 : Int), Lf.int IntKind.i64 (0 : Int), Lf.bool Bool.false] h
      fun (b0 : Nat) (h1 : Heap) =>
      ∃ (I2 : Heap → Prop),
        (∃ (I3 : Bool → Heap → Prop),
            Br (Decidable.decide ((↑(Slc.len a0) : Int) ≥ (7 : Int)))
                (IxC a0 (6 : Int) 1 fun (b4 b5 : Nat) =>
                  ∃ (i6 : Int),
                    cellsAt h1 b4 b5 [Lf.int IntKind.u8 i6] ∧
                      Br (Decidable.decide (i6 > (4 : Int)))
                        (IxC a0 (6 : Int) 1 fun (b7 b8 : Nat) => ∃ (i9 : Int), cellsAt h1 b7 b8 [Lf.int IntKind.u8 i9] ∧ I3 (Decidable.decide (i9 ≤ (8 : Int))) h1)
                        (I3 Bool.false h1))
                (I3 Bool.false h1) ∧
              ∀ (c10 : Bool) (h11 : Heap),
                I3 c10 h11 →
                  Br c10
                    (StC h11 b0 2 [Lf.bool Bool.true] fun (h12 : Heap) => StC h12 b0 3 [Lf.int IntKind.i64 (11 : Int)] fun (h13 : Heap) => I2 h13)
                    (I2 h11)) ∧
          ∀ (h14 : Heap),
            I2 h14 →
              ∃ (I15 : Slc → Slc → Int → Heap → Nat → Prop),
                (∃ (b16 : Nat), I15 (Slc.mk Option.none 0 0) (Slc.mk Option.none 0 0) (0 : Int) h14 b16) ∧
                  ∀ (s17 s18 : Slc) (i19 : Int) (h20 : Heap) (b21 : Nat),
                    I15 s17 s18 i19 h20 b21 →
                      Call Go.Proofs.Try.prog 84 [VV.lf (Lf.ptr (Option.some (b0, 0)))] h20
                        [VT.one (LT.int IntKind.i64), VT.one LT.slc, VT.one (LT.int IntKind.i64)] fun (i22 : Int) (s23 : Slc) (i24 : Int) (h25 : Heap) =>
                        Br (i24 != (-1 : Int)) (R s17 i24 i19 h25)
                          (AppC 5 [Lf.int IntKind.u8 (0 : Int)] 1 1 s18 s23 h25 fun (s26 : Slc) (h27 : Heap) =>
                            Br (i22 == (2 : Int))
                              (StC h27 b0 5 [Lf.bool Bool.true] fun (h28 : Heap) =>
                                ∃ (c29 : Bool),
                                  cellsAt h28 b0 5 [Lf.bool c29] ∧
                                    Br (!c29)
                                      (New 55 [Lf.slc s26] h28 fun (b30 : Nat) (h31 : Heap) =>
                                        AppC 55 [Lf.slc (Slc.mk Option.none 0 0)] 1 24 s17
                                          (Slc.mk (Option.some (b30, 0)) 1 1) h31 fun (s32 : Slc) (h33 : Heap) =>
                                          ∃ (i34 : Int),
                                            cellsAt h33 b0 4 [Lf.int IntKind.i64 i34] ∧ ∃ (b35 : Nat), b35 < b21 ∧ I15 s32 (Slc.mk Option.none 0 0) i34 h33 b35)
                                      (∃ (b36 : Nat), b36 < b21 ∧ I15 s17 s26 i19 h28 b36))
                              (StC h27 b0 5 [Lf.bool (i22 == (3 : Int))] fun (h37 : Heap) =>
                                ∃ (c38 : Bool),
                                  cellsAt h37 b0 5 [Lf.bool c38] ∧
                                    Br (!c38)
                                      (New 55 [Lf.slc s26] h37 fun (b39 : Nat) (h40 : Heap) =>
                                        AppC 55 [Lf.slc (Slc.mk Option.none 0 0)] 1 24 s17
                                          (Slc.mk (Option.some (b39, 0)) 1 1) h40 fun (s41 : Slc) (h42 : Heap) =>
                                          ∃ (i43 : Int),
                                            cellsAt h42 b0 4 [Lf.int IntKind.i64 i43] ∧ ∃ (b44 : Nat), b44 < b21 ∧ I15 s41 (Slc.mk Option.none 0 0) i43 h42 b44)
                                      (∃ (b45 : Nat), b45 < b21 ∧ I15 s17 s26 i19 h37 b45))))
theorem eq28 (a0 : Slc) (a1 : Int) (h : Heap) (R : Slc → Int → Int → Heap → Prop) : vc28 a0 a1 h R = vcFn Go.Proofs.Try.prog pl28 Go.Proofs.Try.f28 [.lf (.slc a0), .lf (.int .u32 a1)] h [.one .slc, .one (.int .i64), .one (.int .i64)] R := by kernel_rfl
theorem ok28 {a0 : Slc} {a1 : Int} {h : Heap} {R : Slc → Int → Int → Heap → Prop} (hv : vc28 a0 a1 h R) : Call Go.Proofs.Try.prog 28 [.lf (.slc a0), .lf (.int .u32 a1)] h [.one .slc, .one (.int .i64), .one (.int .i64)] R := call_eq hng hmix Go.Proofs.Try.func28 (eq28 a0 a1 h R) hv
/- 29: sediment.sedimentref05.Read () · seq 7: #10 · seq 15:  · seq 19:  · loop 8: #8, #11, #12, #13, #14 -/
def pl29 : Plan := {
  blk := fun _ => none
  seq := fun | 7 => some ⟨[(10, .one (.int .i64))], [], []⟩ | 15 => some ⟨[], [], []⟩ | 19 => some ⟨[], [], []⟩ | _ => none
  loop := fun | 8 => some ⟨[(8, .one .slc), (11, .one (.int .i64)), (12, .one (.int .i64)), (13, .one .bool), (14, .one .slc)], [], []⟩ | _ => none
  live := fun | 0 => some [0, 1] | 1 => some [0, 1, 21] | 2 => some [4, 5, 6] | 3 => some [0, 1, 7, 8] | 4 => some [0, 1, 7, 8, 9, 10] | 5 => some [0, 1, 7, 8, 9, 10, 27] | 6 => some [0, 1, 7, 8, 9, 10] | 7 => some [0, 1, 7, 8, 9, 10, 11, 12, 13, 14] | 8 => some [0, 1, 7, 8, 9, 10, 11, 12, 13, 14, 15] | 9 => some [0, 1, 7, 8, 9, 10, 11, 12, 13, 14, 15, 34] | 10 => some [0, 1, 7, 8, 9, 10, 11, 12, 13, 14, 15, 40] | 11 => some [0, 1, 7, 8, 9, 10, 11, 12, 13, 14, 15, 44] | 12 => some [4, 5, 6] | 13 => some [0, 1, 7, 8, 9, 10, 11, 12, 13, 14, 15, 54] | 14 => some [4, 5, 6] | 15 => some [0, 1, 7, 8, 9, 10, 11, 12, 13, 14] | 16 => some [0, 1, 7, 8, 9, 10, 11, 12, 14, 16, 17, 18] | 17 => some [0, 1, 7, 8, 9, 10, 11, 12, 14, 16, 17, 18, 79] | 18 => some [4, 5, 6] | 19 => some [0, 1, 7, 8, 9, 10, 11, 12, 14, 16, 17] | 20 => some [0, 1, 7, 8, 9, 10, 11, 12, 14, 16] | 21 => some [0, 1, 7, 8, 9, 10, 11, 12, 13, 14] | 22 => some [0, 1, 7, 8, 9, 10, 11, 12, 13, 14, 99] | 23 => some [0, 1, 7, 8, 9, 10, 11, 12, 13, 14] | _ => none
  track := fun | _ => false
  draw := fun | _ => .done
  iter := fun | _ => none }
def vc29 (a0 : Slc) (a1 : Int) (h : Heap) (R : Slc → Int → Int → Heap → Prop) : Prop :=
  Br (Decidable.decide ((↑(Slc.len a0) : Int) > (1073741824 : Int))) (R (Slc.mk Option.none 0 0) (3 : Int) (0 : Int) h)
    (Call Go.Proofs.Try.prog 85 [VV.lf (Lf.slc a0)] h [VT.one LT.bool] fun (c0 : Bool) (h1 : Heap) =>
      New 55 [] h1 fun (b2 : Nat) (h3 : Heap) =>
        Call Go.Proofs.Try.prog 86 [VV.lf (Lf.bool c0)] h3 [VT.one (LT.int IntKind.i64)] fun (i4 : Int) (h5 : Heap) =>
          ∃ (I6 : Int → Heap → Prop),
            Br c0 (I6 (1 : Int) h5) (I6 (3 : Int) h5) ∧
              ∀ (i7 : Int) (h8 : Heap),
                I6 i7 h8 →
                  New 5 [] h8 fun (b9 : Nat) (h10 : Heap) =>
                    ∃ (I11 : Slc → Int → Int → Bool → Slc → Heap → Nat → Prop),
                      (∃ (b12 : Nat),
                          I11 (Slc.mk (Option.some (b2, 0)) 0 0) (0 : Int) (0 : Int) Bool.false (Slc.mk (Option.some (b9, 0)) 0 0) h10 b12) ∧
                        ∀ (s13 : Slc) (i14 i15 : Int) (c16 : Bool) (s17 : Slc) (h18 : Heap) (b19 : Nat),
                          I11 s13 i14 i15 c16 s17 h18 b19 →
                            ((4096 : Int) = (0 : Int) → False) ∧
                              Br (Decidable.decide (IntKind.wrap IntKind.i64 ((4096 : Int) - Int.tmod i14 (4096 : Int)) < i4))
                                (∃ (I20 : Heap → Prop),
                                  Br
                                      (Decidable.decide (IntKind.wrap IntKind.i64 ((↑(Slc.len a0) : Int) - i14) ≤ IntKind.wrap IntKind.i64 ((4096 : Int) - Int.tmod i14 (4096 : Int))))
                                      ((0 : Int) ≤ i14 ∧
                                        i14 ≤ (↑(Slc.len a0) : Int) ∧
                                          Call Go.Proofs.Try.prog 87 [VV.lf (Lf.slc (Slc.sub a0 1 (Int.toNat i14) (Slc.len a0) (Slc.cap a0)))] h18
                                            [VT.one LT.bool] fun (c21 : Bool) (h22 : Heap) =>
                                            Br c21
                                              (Call Go.Proofs.Try.prog 88 [VV.lf (Lf.bool c16)] h22 [VT.one (LT.int IntKind.i64)]
                                                fun (i23 : Int) (h24 : Heap) => R s13 i23 i15 h24)
                                              (Br
                                                (Decidable.decide
                                                  (IntKind.wrap IntKind.i64 ((↑(Slc.len a0) : Int) - i14) < IntKind.wrap IntKind.i64 ((4096 : Int) - Int.tmod i14 (4096 : Int))))
                                                (R s13 (1 : Int) i15 h22) (I20 h22)))
                                      (I20 h18) ∧
                                    ∀ (h25 : Heap),
                                      I20 h25 →
                                        ∃ (b26 : Nat),
                                          b26 < b19 ∧ I11 s13 (IntKind.wrap IntKind.i64 (i14 + IntKind.wrap IntKind.i64 ((4096 : Int) - Int.tmod i14 (4096 : Int)))) i15 c16 s17 h25 b26)
                                ((0 : Int) ≤ i14 ∧
                                  i14 ≤ (↑(Slc.len a0) : Int) ∧
                                    Call Go.Proofs.Try.prog 89
                                      [VV.lf (Lf.slc (Slc.sub a0 1 (Int.toNat i14) (Slc.len a0) (Slc.cap a0))),
                                        VV.lf (Lf.int IntKind.i64 (IntKind.wrap IntKind.i64 ((4096 : Int) - Int.tmod i14 (4096 : Int)))), VV.lf (Lf.int IntKind.i64 i4),
                                        VV.lf (Lf.int IntKind.u32 a1), VV.lf (Lf.bool c0), VV.lf (Lf.bool c16), VV.lf (Lf.int IntKind.i64 i7)]
                                      h18 [VT.one (LT.int IntKind.i64), VT.one LT.slc, VT.one (LT.int IntKind.i64)]
                                      fun (i27 : Int) (s28 : Slc) (i29 : Int) (h30 : Heap) =>
                                      ∃ (I31 : Heap → Prop),
                                        Br (i29 != (0 : Int)) (R s13 i29 i15 h30) (Br (i27 == (0 : Int)) (R s13 i29 i15 h30) (I31 h30)) ∧
                                          ∀ (h32 : Heap),
                                            I31 h32 →
                                              AppC 5 [Lf.int IntKind.u8 (0 : Int)] 1 1 s17 s28 h32 fun (s33 : Slc) (h34 : Heap) =>
                                                Br (i27 == (2 : Int))
                                                  (∃ (b35 : Nat),
                                                    b35 < b19 ∧
                                                      I11 s13 (IntKind.wrap IntKind.i64 (IntKind.wrap IntKind.i64 (i14 + i4) + (↑(Slc.len s28) : Int))) i15 Bool.true s33 h34 b35)
                                                  (Br (!i27 == (3 : Int))
                                                    (New 55 [Lf.slc s33] h34 fun (b36 : Nat) (h37 : Heap) =>
                                                      AppC 55 [Lf.slc (Slc.mk Option.none 0 0)] 1 24 s13
                                                        (Slc.mk (Option.some (b36, 0)) 1 1) h37 fun (s38 : Slc) (h39 : Heap) =>
                                                        New 5 [] h39 fun (b40 : Nat) (h41 : Heap) =>
                                                          ∃ (b42 : Nat),
                                                            b42 < b19 ∧
                                                              I11 s38 (IntKind.wrap IntKind.i64 (IntKind.wrap IntKind.i64 (i14 + i4) + (↑(Slc.len s28) : Int)))
                                                                (IntKind.wrap IntKind.i64 (IntKind.wrap IntKind.i64 (i14 + i4) + (↑(Slc.len s28) : Int))) (i27 == (3 : Int))
                                                                (Slc.mk (Option.some (b40, 0)) 0 0) h41 b42)
                                                    (∃ (b43 : Nat),
                                                      b43 < b19 ∧
                                                        I11 s13 (IntKind.wrap IntKind.i64 (IntKind.wrap IntKind.i64 (i14 + i4) + (↑(Slc.len s28) : Int))) i15 (i27 == (3 : Int)) s33 h34
                                                          b43))))
theorem eq29 (a0 : Slc) (a1 : Int) (h : Heap) (R : Slc → Int → Int → Heap → Prop) : vc29 a0 a1 h R = vcFn Go.Proofs.Try.prog pl29 Go.Proofs.Try.f29 [.lf (.slc a0), .lf (.int .u32 a1)] h [.one .slc, .one (.int .i64), .one (.int .i64)] R := by kernel_rfl
theorem ok29 {a0 : Slc} {a1 : Int} {h : Heap} {R : Slc → Int → Int → Heap → Prop} (hv : vc29 a0 a1 h R) : Call Go.Proofs.Try.prog 29 [.lf (.slc a0), .lf (.int .u32 a1)] h [.one .slc, .one (.int .i64), .one (.int .i64)] R := call_eq hng hmix Go.Proofs.Try.func29 (eq29 a0 a1 h R) hv
/- 30: sediment.wal.Reopen (b, log, recycled) -/
def pl30 : Plan := {
  blk := fun _ => none
  seq := fun _ => none
  loop := fun _ => none
  live := fun | 0 => some [0, 1, 2] | 1 => some [0, 1, 2, 13] | 2 => some [6, 7] | 3 => some [0, 1, 2, 9, 10] | 4 => some [0, 1, 2, 28] | 5 => some [6, 7] | 6 => some [6, 7] | _ => none
  track := fun | _ => false
  draw := fun | _ => .done
  iter := fun | _ => none }
def vc30 (a0 : Slc) (a1 : Int) (a2 : Bool) (h : Heap) (R : Option (Nat × Nat) → Int → Heap → Prop) : Prop :=
  Br (Decidable.decide ((↑(Slc.len a0) : Int) > (1073741824 : Int))) (R Option.none (2 : Int) h)
    (Call Go.Proofs.Try.prog 28 [VV.lf (Lf.slc a0), VV.lf (Lf.int IntKind.u32 a1)] h
      [VT.one LT.slc, VT.one (LT.int IntKind.i64), VT.one (LT.int IntKind.i64)] fun (s0 : Slc) (i1 i2 : Int) (h3 : Heap) =>
      Br (i1 != (0 : Int)) (R Option.none (3 : Int) h3)
        (Br (i2 != (↑(Slc.len a0) : Int)) (R Option.none (3 : Int) h3)
          (New 144 [Lf.int IntKind.u32 a1, Lf.bool a2, Lf.int IntKind.i64 (↑(Slc.len a0) : Int)] h3 fun (b4 : Nat) (h5 : Heap) =>
            R (Option.some (b4, 0)) (0 : Int) h5)))
theorem eq30 (a0 : Slc) (a1 : Int) (a2 : Bool) (h : Heap) (R : Option (Nat × Nat) → Int → Heap → Prop) : vc30 a0 a1 a2 h R = vcFn Go.Proofs.Try.prog pl30 Go.Proofs.Try.f30 [.lf (.slc a0), .lf (.int .u32 a1), .lf (.bool a2)] h [.one .ptr, .one (.int .i64)] R := by kernel_rfl
theorem ok30 {a0 : Slc} {a1 : Int} {a2 : Bool} {h : Heap} {R : Option (Nat × Nat) → Int → Heap → Prop} (hv : vc30 a0 a1 a2 h R) : Call Go.Proofs.Try.prog 30 [.lf (.slc a0), .lf (.int .u32 a1), .lf (.bool a2)] h [.one .ptr, .one (.int .i64)] R := call_eq hng hmix Go.Proofs.Try.func30 (eq30 a0 a1 a2 h R) hv
/- 31: sediment.sedimentref05.Reopen (b, log, recycled) -/
def pl31 : Plan := {
  blk := fun _ => none
  seq := fun _ => none
  loop := fun _ => none
  live := fun | 0 => some [0, 1, 2] | 1 => some [0, 1, 2, 13] | 2 => some [6, 7] | 3 => some [0, 1, 2, 9, 10] | 4 => some [0, 1, 2, 28] | 5 => some [6, 7] | 6 => some [6, 7] | _ => none
  track := fun | _ => false
  draw := fun | _ => .done
  iter := fun | _ => none }
def vc31 (a0 : Slc) (a1 : Int) (a2 : Bool) (h : Heap) (R : Option (Nat × Nat) → Int → Heap → Prop) : Prop :=
  Br (Decidable.decide ((↑(Slc.len a0) : Int) > (1073741824 : Int))) (R Option.none (2 : Int) h)
    (Call Go.Proofs.Try.prog 29 [VV.lf (Lf.slc a0), VV.lf (Lf.int IntKind.u32 a1)] h
      [VT.one LT.slc, VT.one (LT.int IntKind.i64), VT.one (LT.int IntKind.i64)] fun (s0 : Slc) (i1 i2 : Int) (h3 : Heap) =>
      Br (i1 != (0 : Int)) (R Option.none (3 : Int) h3)
        (Br (i2 != (↑(Slc.len a0) : Int)) (R Option.none (3 : Int) h3)
          (New 146 [Lf.int IntKind.u32 a1, Lf.bool a2, Lf.int IntKind.i64 (↑(Slc.len a0) : Int)] h3 fun (b4 : Nat) (h5 : Heap) =>
            R (Option.some (b4, 0)) (0 : Int) h5)))
theorem eq31 (a0 : Slc) (a1 : Int) (a2 : Bool) (h : Heap) (R : Option (Nat × Nat) → Int → Heap → Prop) : vc31 a0 a1 a2 h R = vcFn Go.Proofs.Try.prog pl31 Go.Proofs.Try.f31 [.lf (.slc a0), .lf (.int .u32 a1), .lf (.bool a2)] h [.one .ptr, .one (.int .i64)] R := by kernel_rfl
theorem ok31 {a0 : Slc} {a1 : Int} {a2 : Bool} {h : Heap} {R : Option (Nat × Nat) → Int → Heap → Prop} (hv : vc31 a0 a1 a2 h R) : Call Go.Proofs.Try.prog 31 [.lf (.slc a0), .lf (.int .u32 a1), .lf (.bool a2)] h [.one .ptr, .one (.int .i64)] R := call_eq hng hmix Go.Proofs.Try.func31 (eq31 a0 a1 a2 h R) hv
/- 32: sediment.sedimentlaw05.Same (a, b) · loop 4: i -/
def pl32 : Plan := {
  blk := fun _ => none
  seq := fun _ => none
  loop := fun | 4 => some ⟨[(5, .one (.int .i64))], [], []⟩ | _ => none
  live := fun | 0 => some [0, 1] | 1 => some [0, 1, 10] | 2 => some [4] | 3 => some [0, 1, 5] | 4 => some [0, 1, 5, 14] | 5 => some [0, 1, 5] | 6 => some [0, 1, 5, 27] | 7 => some [4] | 8 => some [4] | _ => none
  track := fun | _ => false
  draw := fun | 6 => .still 0 (.still 1 (.still 2 (.still 3 (.still 4 (.still 5 (.still 6 (.still 7 (.still 8 (.still 9 (.still 10 (.done))))))))))) | _ => .done
  iter := fun | _ => none }
def vc32 (a0 : Slc) (a1 : Slc) (h : Heap) (R : Bool → Heap → Prop) : Prop :=
  Br ((↑(Slc.len a0) : Int) != (↑(Slc.len a1) : Int)) (R Bool.false h)
    (∃ (I0 : Int → Heap → Nat → Prop),
      (∃ (b1 : Nat), I0 (0 : Int) h b1) ∧
        ∀ (i2 : Int) (h3 : Heap) (b4 : Nat),
          I0 i2 h3 b4 →
            Br (Decidable.decide (i2 < (↑(Slc.len a0) : Int)))
              (IxC a0 i2 1 fun (b5 b6 : Nat) =>
                ∃ (s7 : Slc),
                  cellsAt h3 b5 b6 [Lf.slc s7] ∧
                    ∃ (t8 : ByteArray),
                      bytesAt h3 s7 t8 ∧
                        IxC a1 i2 1 fun (b9 b10 : Nat) =>
                          ∃ (s11 : Slc),
                            cellsAt h3 b9 b10 [Lf.slc s11] ∧
                              ∃ (t12 : ByteArray),
                                bytesAt h3 s11 t12 ∧ Br (!strEq t8 t12) (R Bool.false h3) (∃ (b13 : Nat), b13 < b4 ∧ I0 (IntKind.wrap IntKind.i64 (i2 + (1 : Int))) h3 b13))
              (R Bool.true h3))
theorem eq32 (a0 : Slc) (a1 : Slc) (h : Heap) (R : Bool → Heap → Prop) : vc32 a0 a1 h R = vcFn Go.Proofs.Try.prog pl32 Go.Proofs.Try.f32 [.lf (.slc a0), .lf (.slc a1)] h [.one .bool] R := by kernel_rfl
theorem ok32 {a0 : Slc} {a1 : Slc} {h : Heap} {R : Bool → Heap → Prop} (hv : vc32 a0 a1 h R) : Call Go.Proofs.Try.prog 32 [.lf (.slc a0), .lf (.slc a1)] h [.one .bool] R := call_eq hng hmix Go.Proofs.Try.func32 (eq32 a0 a1 h R) hv
/- 34: sediment.sedimentlaw05.lives () -/
def pl34 : Plan := {
  blk := fun _ => none
  seq := fun _ => none
  loop := fun _ => none
  live := fun | 0 => some [] | 1 => some [1] | 2 => some [1, 9] | 3 => some [0] | 4 => some [1, 2, 3] | 5 => some [1, 2, 3, 4, 5, 6] | 6 => some [0] | _ => none
  track := fun | _ => false
  draw := fun | _ => .done
  iter := fun | _ => none }
def vc34  (h : Heap) (R : Bool → Heap → Prop) : Prop :=
  Call Go.Proofs.Try.prog 90 [VV.lf (Lf.int IntKind.u32 (7 : Int)), VV.lf (Lf.bool Bool.false)] h [VT.one LT.ptr]
    fun (p0 : Option (Nat × Nat)) (h1 : Heap) =>
    Br (Option.isNone p0) (R Bool.false h1)
      (New 5 [Lf.int IntKind.u8 (97 : Int), Lf.int IntKind.u8 (98 : Int), Lf.int IntKind.u8 (99 : Int)] h1 fun (b2 : Nat) (h3 : Heap) =>
        MarkC h3 (Option.some (b2, 0)) fun (h4 : Heap) =>
          Call Go.Proofs.Try.prog 91 [VV.lf (Lf.ptr p0), VV.lf (Lf.slc (Slc.mk (Option.some (b2, 0)) 3 3))] h4
            [VT.one LT.slc, VT.one (LT.int IntKind.i64)] fun (s5 : Slc) (i6 : Int) (h7 : Heap) =>
            Call Go.Proofs.Try.prog 28 [VV.lf (Lf.slc s5), VV.lf (Lf.int IntKind.u32 (7 : Int))] h7
              [VT.one LT.slc, VT.one (LT.int IntKind.i64), VT.one (LT.int IntKind.i64)] fun (s8 : Slc) (i9 i10 : Int) (h11 : Heap) =>
              Br (i6 == (0 : Int))
                (Br ((↑(Slc.len s5) : Int) == (10 : Int))
                  (Call Go.Proofs.Try.prog 33 [VV.lf (Lf.ptr p0)] h11 [VT.one (LT.int IntKind.i64)] fun (i12 : Int) (h13 : Heap) =>
                    Br (i12 == (10 : Int))
                      (Br ((↑(Slc.len s8) : Int) == (1 : Int))
                        (IxC s8 (0 : Int) 1 fun (b14 b15 : Nat) =>
                          ∃ (s16 : Slc),
                            cellsAt h13 b14 b15 [Lf.slc s16] ∧
                              ∃ (t17 : ByteArray),
                                bytesAt h13 s16 t17 ∧
                                  Br (strEq t17 (ByteArray.mk #[(97 : UInt8), (98 : UInt8), (99 : UInt8)])) (Br (i9 == (0 : Int)) (R (i10 == (10 : Int)) h13) (R Bool.false h13))
                                    (R Bool.false h13))
                        (R Bool.false h13))
                      (R Bool.false h13))
                  (R Bool.false h11))
                (R Bool.false h11))
theorem eq34  (h : Heap) (R : Bool → Heap → Prop) : vc34  h R = vcFn Go.Proofs.Try.prog pl34 Go.Proofs.Try.f34 [] h [.one .bool] R := by kernel_rfl
theorem ok34  {h : Heap} {R : Bool → Heap → Prop} (hv : vc34  h R) : Call Go.Proofs.Try.prog 34 [] h [.one .bool] R := call_eq hng hmix Go.Proofs.Try.func34 (eq34  h R) hv
/- 7: sediment.sedimentlaw05.WalReads () -/
def pl7 : Plan := {
  blk := fun _ => none
  seq := fun _ => none
  loop := fun _ => none
  live := fun | 0 => some [0, 1] | 1 => some [0, 1, 5, 6, 7] | 2 => some [0, 1, 5, 6, 7, 8, 9, 10] | 3 => some [0, 1, 5, 6, 7, 8, 9, 10, 11, 12] | 4 => some [0, 5, 6, 7, 8, 9, 10, 11, 12, 13, 14] | 5 => some [4] | _ => none
  track := fun | _ => false
  draw := fun | _ => .done
  iter := fun | _ => none }
def vc7 (a0 : Slc) (a1 : Int) (h : Heap) (R : Bool → Heap → Prop) : Prop :=
  New 5 [] h fun (b0 : Nat) (h1 : Heap) =>
    AppC 5 [Lf.int IntKind.u8 (0 : Int)] 1 1 (Slc.mk (Option.some (b0, 0)) 0 0) a0 h1 fun (s2 : Slc) (h3 : Heap) =>
      Call Go.Proofs.Try.prog 28 [VV.lf (Lf.slc s2), VV.lf (Lf.int IntKind.u32 a1)] h3
        [VT.one LT.slc, VT.one (LT.int IntKind.i64), VT.one (LT.int IntKind.i64)] fun (s4 : Slc) (i5 i6 : Int) (h7 : Heap) =>
        Call Go.Proofs.Try.prog 29 [VV.lf (Lf.slc a0), VV.lf (Lf.int IntKind.u32 a1)] h7
          [VT.one LT.slc, VT.one (LT.int IntKind.i64), VT.one (LT.int IntKind.i64)] fun (s8 : Slc) (i9 i10 : Int) (h11 : Heap) =>
          Call Go.Proofs.Try.prog 30 [VV.lf (Lf.slc a0), VV.lf (Lf.int IntKind.u32 a1), VV.lf (Lf.bool (i5 == (0 : Int)))] h11
            [VT.one LT.ptr, VT.one (LT.int IntKind.i64)] fun (p12 : Option (Nat × Nat)) (i13 : Int) (h14 : Heap) =>
            Call Go.Proofs.Try.prog 31 [VV.lf (Lf.slc a0), VV.lf (Lf.int IntKind.u32 a1), VV.lf (Lf.bool (i5 == (0 : Int)))] h14
              [VT.one LT.ptr, VT.one (LT.int IntKind.i64)] fun (p15 : Option (Nat × Nat)) (i16 : Int) (h17 : Heap) =>
              Call Go.Proofs.Try.prog 32 [VV.lf (Lf.slc s4), VV.lf (Lf.slc s8)] h17 [VT.one LT.bool] fun (c18 : Bool) (h19 : Heap) =>
                Br c18
                  (Br (i5 == i9)
                    (Br (i6 == i10)
                      (Br (i13 == i16)
                        (Br (Option.isNone p12 == Option.isNone p15)
                          (Br (Option.isNone p12) (Call Go.Proofs.Try.prog 34 [] h19 [VT.one LT.bool] fun (c20 : Bool) (h21 : Heap) => R c20 h21)
                            (Call Go.Proofs.Try.prog 33 [VV.lf (Lf.ptr p12)] h19 [VT.one (LT.int IntKind.i64)] fun (i22 : Int) (h23 : Heap) =>
                              Br (i22 == (↑(Slc.len a0) : Int)) (Call Go.Proofs.Try.prog 34 [] h23 [VT.one LT.bool] fun (c24 : Bool) (h25 : Heap) => R c24 h25)
                                (R Bool.false h23)))
                          (R Bool.false h19))
                        (R Bool.false h19))
                      (R Bool.false h19))
                    (R Bool.false h19))
                  (R Bool.false h19)
theorem eq7 (a0 : Slc) (a1 : Int) (h : Heap) (R : Bool → Heap → Prop) : vc7 a0 a1 h R = vcFn Go.Proofs.Try.prog pl7 Go.Proofs.Try.f7 [.lf (.slc a0), .lf (.int .u32 a1)] h [.one .bool] R := by kernel_rfl
theorem ok7 {a0 : Slc} {a1 : Int} {h : Heap} {R : Bool → Heap → Prop} (hv : vc7 a0 a1 h R) : Call Go.Proofs.Try.prog 7 [.lf (.slc a0), .lf (.int .u32 a1)] h [.one .bool] R := call_eq hng hmix Go.Proofs.Try.func7 (eq7 a0 a1 h R) hv
end Go.V.Yteojmnnobmpdiaa
