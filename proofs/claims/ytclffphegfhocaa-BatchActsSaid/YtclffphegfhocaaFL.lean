/- This text proves a part of the laws of seat Ytclffphegfhocaa, under no condition: B4l. -/
import Derived.Test.YtclffphegfhocaaEC
import Derived.Eval
import Derived.Test.YtclffphegfhocaaChecked
import Derived.Test.YtclffphegfhocaaEF
set_option linter.unusedVariables false
set_option maxRecDepth 100000
namespace Go.V.Ytclffphegfhocaa
open Go Go.V
/- 64: (*sediment.batch.Batch).Delete (b, family, key) -/
def pl64 : Plan := {
  blk := fun _ => none
  seq := fun _ => none
  loop := fun _ => none
  live := fun | 0 => some [0, 1, 2] | 1 => some [6] | _ => none
  track := fun | _ => false
  draw := fun | _ => .done
  iter := fun | _ => none }
def vc64 (a0 : Option (Nat × Nat)) (a1 : Int) (a2 : ByteArray) (h : Heap) (R : Int → Heap → Prop) : Prop :=
  Call Go.Proofs.Try.prog 8 [VV.lf (Lf.ptr a0), VV.agg [Lf.int IntKind.u32 a1, Lf.int IntKind.i64 (0 : Int), Lf.str a2, Lf.str (ByteArray.mk #[])]]
    h [VT.one (LT.int IntKind.i64)] fun (i0 : Int) (h1 : Heap) => R i0 h1
theorem eq64 (a0 : Option (Nat × Nat)) (a1 : Int) (a2 : ByteArray) (h : Heap) (R : Int → Heap → Prop) : vc64 a0 a1 a2 h R = vcFn Go.Proofs.Try.prog pl64 Go.Proofs.Try.f64 [.lf (.ptr a0), .lf (.int .u32 a1), .lf (.str a2)] h [.one (.int .i64)] R := by kernel_rfl
theorem ok64 {a0 : Option (Nat × Nat)} {a1 : Int} {a2 : ByteArray} {h : Heap} {R : Int → Heap → Prop} (hv : vc64 a0 a1 a2 h R) : Call Go.Proofs.Try.prog 64 [.lf (.ptr a0), .lf (.int .u32 a1), .lf (.str a2)] h [.one (.int .i64)] R := call_eq hng hmix Go.Proofs.Try.func64 (eq64 a0 a1 a2 h R) hv
/- 65: (*sediment.batch.Batch).DeleteRange (b, family, begin, end) -/
def pl65 : Plan := {
  blk := fun _ => none
  seq := fun _ => none
  loop := fun _ => none
  live := fun | 0 => some [0, 1, 2, 3] | 1 => some [8] | _ => none
  track := fun | _ => false
  draw := fun | _ => .done
  iter := fun | _ => none }
def vc65 (a0 : Option (Nat × Nat)) (a1 : Int) (a2 : ByteArray) (a3 : ByteArray) (h : Heap) (R : Int → Heap → Prop) : Prop :=
  Call Go.Proofs.Try.prog 8 [VV.lf (Lf.ptr a0), VV.agg [Lf.int IntKind.u32 a1, Lf.int IntKind.i64 (2 : Int), Lf.str a2, Lf.str a3]] h
    [VT.one (LT.int IntKind.i64)] fun (i0 : Int) (h1 : Heap) => R i0 h1
theorem eq65 (a0 : Option (Nat × Nat)) (a1 : Int) (a2 : ByteArray) (a3 : ByteArray) (h : Heap) (R : Int → Heap → Prop) : vc65 a0 a1 a2 a3 h R = vcFn Go.Proofs.Try.prog pl65 Go.Proofs.Try.f65 [.lf (.ptr a0), .lf (.int .u32 a1), .lf (.str a2), .lf (.str a3)] h [.one (.int .i64)] R := by kernel_rfl
theorem ok65 {a0 : Option (Nat × Nat)} {a1 : Int} {a2 : ByteArray} {a3 : ByteArray} {h : Heap} {R : Int → Heap → Prop} (hv : vc65 a0 a1 a2 a3 h R) : Call Go.Proofs.Try.prog 65 [.lf (.ptr a0), .lf (.int .u32 a1), .lf (.str a2), .lf (.str a3)] h [.one (.int .i64)] R := call_eq hng hmix Go.Proofs.Try.func65 (eq65 a0 a1 a2 a3 h R) hv
/- 46: (sediment.sedimentlaw03.pair).add () · seq 4: #18 · seq 6: #39 · seq 8: #57 -/
def pl46 : Plan := {
  blk := fun _ => none
  seq := fun | 4 => some ⟨[(18, .one .bool)], [], []⟩ | 6 => some ⟨[(39, .one .bool)], [], []⟩ | 8 => some ⟨[(57, .one .bool)], [], []⟩ | _ => none
  loop := fun _ => none
  live := fun | 0 => some [2, 3] | 1 => some [2, 3, 6] | 2 => some [5, 6] | 3 => some [2, 3, 6, 18] | 4 => some [5, 6] | 5 => some [2, 3, 6, 39] | 6 => some [5, 6] | 7 => some [2, 3, 6, 57] | 8 => some [5, 6] | 9 => some [4] | _ => none
  track := fun | 2 => true | 3 => true | _ => false
  draw := fun | _ => .done
  iter := fun | _ => none }
def vc46 (a0 : Option (Nat × Nat)) (a1 : Option (Nat × Nat)) (a2 : Int) (a3 : Bool) (a4 : Int) (a5 : Int) (a6 : ByteArray) (a7 : ByteArray) (a8 : Slc) (h : Heap) (R : Bool → Heap → Prop) : Prop :=
  New 53 [Lf.ptr a0, Lf.ptr a1] h fun (b0 : Nat) (h1 : Heap) =>
    New 56 [Lf.int IntKind.i64 a2, Lf.bool a3, Lf.int IntKind.u32 a4, Lf.int IntKind.i64 a5, Lf.str a6, Lf.str a7, Lf.slc a8] h1
      fun (b2 : Nat) (h3 : Heap) =>
      New 31 [Lf.int IntKind.u32 a4, Lf.int IntKind.i64 a5, Lf.str a6, Lf.str a7] h3 fun (b4 : Nat) (h5 : Heap) =>
        Call Go.Proofs.Try.prog 47 [VV.lf (Lf.ptr a1), VV.lf (Lf.slc (Slc.mk (Option.some (b4, 0)) 1 1))] h5
          [VT.one (LT.int IntKind.i64)] fun (i6 : Int) (h7 : Heap) =>
          keepB h5 h7 [b0, b2] ∧
            ∃ (I8 : Bool → Heap → Prop),
              Br a3 (I8 (a5 == (1 : Int)) h7) (I8 Bool.false h7) ∧
                ∀ (c9 : Bool) (h10 : Heap),
                  I8 c9 h10 →
                    Br c9
                      (Call Go.Proofs.Try.prog 29 [VV.lf (Lf.ptr a0), VV.lf (Lf.int IntKind.u32 a4), VV.lf (Lf.str a6), VV.lf (Lf.str a7)] h10
                        [VT.one (LT.int IntKind.i64)] fun (i11 : Int) (h12 : Heap) => keepB h10 h12 [b0, b2] ∧ R (i11 == i6) h12)
                      (∃ (I13 : Bool → Heap → Prop),
                        Br a3 (I13 (a5 == (0 : Int)) h10) (I13 Bool.false h10) ∧
                          ∀ (c14 : Bool) (h15 : Heap),
                            I13 c14 h15 →
                              Br c14
                                (Call Go.Proofs.Try.prog 64 [VV.lf (Lf.ptr a0), VV.lf (Lf.int IntKind.u32 a4), VV.lf (Lf.str a6)] h15
                                  [VT.one (LT.int IntKind.i64)] fun (i16 : Int) (h17 : Heap) => keepB h15 h17 [b0, b2] ∧ R (i16 == i6) h17)
                                (∃ (I18 : Bool → Heap → Prop),
                                  Br a3 (I18 (a5 == (2 : Int)) h15) (I18 Bool.false h15) ∧
                                    ∀ (c19 : Bool) (h20 : Heap),
                                      I18 c19 h20 →
                                        Br c19
                                          (Call Go.Proofs.Try.prog 65
                                            [VV.lf (Lf.ptr a0), VV.lf (Lf.int IntKind.u32 a4), VV.lf (Lf.str a6), VV.lf (Lf.str a7)] h20
                                            [VT.one (LT.int IntKind.i64)] fun (i21 : Int) (h22 : Heap) => keepB h20 h22 [b0, b2] ∧ R (i21 == i6) h22)
                                          (Call Go.Proofs.Try.prog 8
                                            [VV.lf (Lf.ptr a0), VV.agg [Lf.int IntKind.u32 a4, Lf.int IntKind.i64 a5, Lf.str a6, Lf.str a7]] h20
                                            [VT.one (LT.int IntKind.i64)] fun (i23 : Int) (h24 : Heap) => keepB h20 h24 [b0, b2] ∧ R (i23 == i6) h24)))
theorem eq46 (a0 : Option (Nat × Nat)) (a1 : Option (Nat × Nat)) (a2 : Int) (a3 : Bool) (a4 : Int) (a5 : Int) (a6 : ByteArray) (a7 : ByteArray) (a8 : Slc) (h : Heap) (R : Bool → Heap → Prop) : vc46 a0 a1 a2 a3 a4 a5 a6 a7 a8 h R = vcFn Go.Proofs.Try.prog pl46 Go.Proofs.Try.f46 [.agg [.ptr a0, .ptr a1], .agg [.int .i64 a2, .bool a3, .int .u32 a4, .int .i64 a5, .str a6, .str a7, .slc a8]] h [.one .bool] R := by kernel_rfl
theorem ok46 {a0 : Option (Nat × Nat)} {a1 : Option (Nat × Nat)} {a2 : Int} {a3 : Bool} {a4 : Int} {a5 : Int} {a6 : ByteArray} {a7 : ByteArray} {a8 : Slc} {h : Heap} {R : Bool → Heap → Prop} (hv : vc46 a0 a1 a2 a3 a4 a5 a6 a7 a8 h R) : Call Go.Proofs.Try.prog 46 [.agg [.ptr a0, .ptr a1], .agg [.int .i64 a2, .bool a3, .int .u32 a4, .int .i64 a5, .str a6, .str a7, .slc a8]] h [.one .bool] R := call_eq hng hmix Go.Proofs.Try.func46 (eq46 a0 a1 a2 a3 a4 a5 a6 a7 a8 h R) hv
/- 24: (sediment.sedimentlaw03.pair).does () · loop 7: #7 -/
def pl24 : Plan := {
  blk := fun _ => none
  seq := fun _ => none
  loop := fun | 7 => some ⟨[(7, .one (.int .i64))], [], []⟩ | _ => none
  live := fun | 0 => some [2, 3] | 1 => some [2, 3, 9] | 2 => some [2, 3, 9, 10] | 3 => some [4] | 4 => some [2, 3, 9, 15] | 5 => some [2, 3, 5, 6] | 6 => some [2, 3, 5, 6, 7] | 7 => some [2, 3, 5, 6, 7, 25] | 8 => some [2, 3, 5, 6, 7] | 9 => some [2, 3, 5, 6, 7, 43] | 10 => some [4] | 11 => some [4] | 12 => some [2, 9, 65] | 13 => some [4] | 14 => some [2, 9, 87] | 15 => some [2] | 16 => some [] | 17 => some [2, 9, 100] | 18 => some [2] | 19 => some [] | 20 => some [2, 9, 108] | 21 => some [4] | 22 => some [2, 117] | 23 => some [4] | 24 => some [4] | _ => none
  track := fun | 2 => true | 3 => true | _ => false
  draw := fun | 9 => .still 0 (.still 1 (.still 2 (.still 3 (.still 4 (.still 5 (.still 7 (.still 8 (.still 9 (.still 10 (.still 11 (.still 12 (.still 13 (.mem 6 (.mem 14 (.still 15 (.done)))))))))))))))) | 11 => .still 0 (.still 1 (.still 2 (.still 4 (.still 5 (.still 6 (.still 7 (.still 8 (.still 9 (.mem 3 (.mem 10 (.still 11 (.still 12 (.still 13 (.still 15 (.still 16 (.still 17 (.still 18 (.mem 14 (.mem 19 (.still 20 (.still 21 (.done)))))))))))))))))))))) | 13 => .still 0 (.still 1 (.still 2 (.still 3 (.still 5 (.still 6 (.still 7 (.still 8 (.still 9 (.still 10 (.still 11 (.mem 4 (.mem 12 (.still 13 (.still 14 (.still 15 (.still 16 (.mem 17 (.still 18 (.still 19 (.still 20 (.done))))))))))))))))))))) | 16 => .still 0 (.still 1 (.still 2 (.still 3 (.still 4 (.still 5 (.mem 6 (.still 7 (.still 8 (.mem 9 (.done)))))))))) | 21 => .still 0 (.still 1 (.still 3 (.still 4 (.mem 2 (.mem 5 (.still 6 (.still 7 (.done)))))))) | 23 => .still 0 (.still 1 (.still 3 (.still 4 (.mem 2 (.mem 5 (.still 6 (.still 7 (.done)))))))) | _ => .done
  iter := fun | _ => none }
def vc24 (a0 : Option (Nat × Nat)) (a1 : Option (Nat × Nat)) (a2 : Int) (a3 : Bool) (a4 : Int) (a5 : Int) (a6 : ByteArray) (a7 : ByteArray) (a8 : Slc) (h : Heap) (R : Bool → Heap → Prop) : Prop :=
  New 53 [Lf.ptr a0, Lf.ptr a1] h fun (b0 : Nat) (h1 : Heap) =>
    New 56 [Lf.int IntKind.i64 a2, Lf.bool a3, Lf.int IntKind.u32 a4, Lf.int IntKind.i64 a5, Lf.str a6, Lf.str a7, Lf.slc a8] h1
      fun (b2 : Nat) (h3 : Heap) =>
      Br (a2 == (0 : Int))
        (Call Go.Proofs.Try.prog 46
          [VV.agg [Lf.ptr a0, Lf.ptr a1],
            VV.agg [Lf.int IntKind.i64 a2, Lf.bool a3, Lf.int IntKind.u32 a4, Lf.int IntKind.i64 a5, Lf.str a6, Lf.str a7, Lf.slc a8]]
          h3 [VT.one LT.bool] fun (c4 : Bool) (h5 : Heap) => keepB h3 h5 [b0, b2] ∧ R c4 h5)
        (Br (a2 == (1 : Int))
          (New 26 [Lf.slc (Slc.mk Option.none 0 0), Lf.int IntKind.i64 (0 : Int), Lf.slc (Slc.mk Option.none 0 0)] h3
            fun (b6 : Nat) (h7 : Heap) =>
            New 51 [Lf.slc (Slc.mk Option.none 0 0), Lf.slc (Slc.mk Option.none 0 0)] h7 fun (b8 : Nat) (h9 : Heap) =>
              ∃ (I10 : Int → Heap → Nat → Prop),
                (∃ (b11 : Nat), I10 (0 : Int) h9 b11) ∧
                  ∀ (i12 : Int) (h13 : Heap) (b14 : Nat),
                    I10 i12 h13 b14 →
                      Br (Decidable.decide (i12 < (↑(Slc.len a8) : Int)))
                        (IxC a8 i12 4 fun (b15 b16 : Nat) =>
                          ∃ (i17 : Int),
                            ∃ (i18 : Int),
                              ∃ (t19 : ByteArray),
                                ∃ (t20 : ByteArray),
                                  cellsAt h13 b15 b16 [Lf.int IntKind.u32 i17, Lf.int IntKind.i64 i18, Lf.str t19, Lf.str t20] ∧
                                    (0 : Int) ≤ IntKind.wrap IntKind.i64 (i12 + (1 : Int)) ∧
                                      IntKind.wrap IntKind.i64 (i12 + (1 : Int)) ≤ (↑(Slc.cap a8) : Int) ∧
                                        (0 : Int) ≤ i12 ∧
                                          i12 ≤ (↑(Int.toNat (IntKind.wrap IntKind.i64 (i12 + (1 : Int)))) : Int) ∧
                                            Call Go.Proofs.Try.prog 8
                                              [VV.lf (Lf.ptr (Option.some (b6, 0))),
                                                VV.agg [Lf.int IntKind.u32 i17, Lf.int IntKind.i64 i18, Lf.str t19, Lf.str t20]]
                                              h13 [VT.one (LT.int IntKind.i64)] fun (i21 : Int) (h22 : Heap) =>
                                              keepB h13 h22 [b0, b2] ∧
                                                Call Go.Proofs.Try.prog 47
                                                  [VV.lf (Lf.ptr (Option.some (b8, 0))),
                                                    VV.lf (Lf.slc (Slc.sub a8 4 (Int.toNat i12) (Int.toNat (IntKind.wrap IntKind.i64 (i12 + (1 : Int)))) (Slc.cap a8)))]
                                                  h22 [VT.one (LT.int IntKind.i64)] fun (i23 : Int) (h24 : Heap) =>
                                                  keepB h22 h24 [b0, b2] ∧
                                                    Br (i21 != i23) (R Bool.false h24) (∃ (b25 : Nat), b25 < b14 ∧ I10 (IntKind.wrap IntKind.i64 (i12 + (1 : Int))) h24 b25))
                        (∃ (s26 : Slc),
                          cellsAt h13 b8 0 [Lf.slc s26] ∧
                            Call Go.Proofs.Try.prog 12 [VV.lf (Lf.ptr a0), VV.lf (Lf.ptr (Option.some (b6, 0)))] h13 [VT.one (LT.int IntKind.i64)]
                              fun (i27 : Int) (h28 : Heap) =>
                              keepB h13 h28 [b0, b2] ∧
                                cellsAt h28 b8 0 [Lf.slc s26] ∧
                                  Call Go.Proofs.Try.prog 47 [VV.lf (Lf.ptr a1), VV.lf (Lf.slc s26)] h28 [VT.one (LT.int IntKind.i64)]
                                    fun (i29 : Int) (h30 : Heap) =>
                                    keepB h28 h30 [b0, b2] ∧
                                      Br (i27 == i29)
                                        (∃ (s31 : Slc),
                                          cellsAt h30 b8 0 [Lf.slc s31] ∧
                                            Call Go.Proofs.Try.prog 9 [VV.lf (Lf.ptr (Option.some (b6, 0)))] h30 [VT.one LT.slc]
                                              fun (s32 : Slc) (h33 : Heap) =>
                                              keepB h30 h33 [b0, b2] ∧
                                                cellsAt h33 b8 0 [Lf.slc s31] ∧
                                                  Call Go.Proofs.Try.prog 13 [VV.lf (Lf.slc s32), VV.lf (Lf.slc s31)] h33 [VT.one LT.bool]
                                                    fun (c34 : Bool) (h35 : Heap) => keepB h33 h35 [b0, b2] ∧ R c34 h35)
                                        (R Bool.false h30)))
          (Br (a2 == (2 : Int))
            (NilC a1 fun (b36 b37 : Nat) =>
              ∃ (s38 : Slc),
                cellsAt h3 b36 (b37 + 0) [Lf.slc s38] ∧
                  Call Go.Proofs.Try.prog 12 [VV.lf (Lf.ptr a0), VV.lf (Lf.ptr a0)] h3 [VT.one (LT.int IntKind.i64)] fun (i39 : Int) (h40 : Heap) =>
                    keepB h3 h40 [b0] ∧
                      cellsAt h40 b36 (b37 + 0) [Lf.slc s38] ∧
                        Call Go.Proofs.Try.prog 47 [VV.lf (Lf.ptr a1), VV.lf (Lf.slc s38)] h40 [VT.one (LT.int IntKind.i64)]
                          fun (i41 : Int) (h42 : Heap) =>
                          keepB h40 h42 [b0] ∧
                            Br (i39 == i41)
                              (Call Go.Proofs.Try.prog 12 [VV.lf (Lf.ptr a0), VV.lf (Lf.ptr Option.none)] h42 [VT.one (LT.int IntKind.i64)]
                                fun (i43 : Int) (h44 : Heap) => keepB h42 h44 [b0] ∧ R (i43 == (1 : Int)) h44)
                              (R Bool.false h42))
            (Br (a2 == (3 : Int))
              (Call Go.Proofs.Try.prog 48 [VV.lf (Lf.ptr a0)] h3 [] fun (h45 : Heap) =>
                keepB h3 h45 [b0] ∧
                  NilC a1 fun (b46 b47 : Nat) =>
                    StC h45 b46 (b47 + 0) [Lf.slc (Slc.mk Option.none 0 0)] fun (h48 : Heap) =>
                      keepB h45 h48 [b0] ∧
                        NilC a1 fun (b49 b50 : Nat) =>
                          StC h48 b49 (b50 + 1) [Lf.slc (Slc.mk Option.none 0 0)] fun (h51 : Heap) => keepB h48 h51 [b0] ∧ R Bool.true h51)
              (Br (a2 == (4 : Int))
                (Call Go.Proofs.Try.prog 15 [VV.lf (Lf.ptr a0)] h3 [] fun (h52 : Heap) =>
                  keepB h3 h52 [b0] ∧ Call Go.Proofs.Try.prog 49 [VV.lf (Lf.ptr a1)] h52 [] fun (h53 : Heap) => keepB h52 h53 [b0] ∧ R Bool.true h53)
                (Br (a2 == (5 : Int))
                  (Call Go.Proofs.Try.prog 16 [VV.lf (Lf.ptr a0)] h3 [VT.one (LT.int IntKind.i64)] fun (i54 : Int) (h55 : Heap) =>
                    keepB h3 h55 [b0] ∧
                      Call Go.Proofs.Try.prog 50 [VV.lf (Lf.ptr a1), VV.lf (Lf.bool Bool.true)] h55 [VT.one (LT.int IntKind.i64)]
                        fun (i56 : Int) (h57 : Heap) => keepB h55 h57 [b0] ∧ R (i54 == i56) h57)
                  (Br (a2 == (6 : Int))
                    (Call Go.Proofs.Try.prog 31 [VV.lf (Lf.ptr a0)] h3 [VT.one (LT.int IntKind.i64)] fun (i58 : Int) (h59 : Heap) =>
                      keepB h3 h59 [b0] ∧
                        Call Go.Proofs.Try.prog 50 [VV.lf (Lf.ptr a1), VV.lf (Lf.bool Bool.false)] h59 [VT.one (LT.int IntKind.i64)]
                          fun (i60 : Int) (h61 : Heap) => keepB h59 h61 [b0] ∧ R (i58 == i60) h61)
                    (R Bool.true h3)))))))
theorem eq24 (a0 : Option (Nat × Nat)) (a1 : Option (Nat × Nat)) (a2 : Int) (a3 : Bool) (a4 : Int) (a5 : Int) (a6 : ByteArray) (a7 : ByteArray) (a8 : Slc) (h : Heap) (R : Bool → Heap → Prop) : vc24 a0 a1 a2 a3 a4 a5 a6 a7 a8 h R = vcFn Go.Proofs.Try.prog pl24 Go.Proofs.Try.f24 [.agg [.ptr a0, .ptr a1], .agg [.int .i64 a2, .bool a3, .int .u32 a4, .int .i64 a5, .str a6, .str a7, .slc a8]] h [.one .bool] R := by kernel_rfl
theorem ok24 {a0 : Option (Nat × Nat)} {a1 : Option (Nat × Nat)} {a2 : Int} {a3 : Bool} {a4 : Int} {a5 : Int} {a6 : ByteArray} {a7 : ByteArray} {a8 : Slc} {h : Heap} {R : Bool → Heap → Prop} (hv : vc24 a0 a1 a2 a3 a4 a5 a6 a7 a8 h R) : Call Go.Proofs.Try.prog 24 [.agg [.ptr a0, .ptr a1], .agg [.int .i64 a2, .bool a3, .int .u32 a4, .int .i64 a5, .str a6, .str a7, .slc a8]] h [.one .bool] R := call_eq hng hmix Go.Proofs.Try.func24 (eq24 a0 a1 a2 a3 a4 a5 a6 a7 a8 h R) hv
/- 25: (sediment.sedimentlaw03.pair).tells () · seq 4: #58 · loop 6: #6 · loop 11: #7 -/
def pl25 : Plan := {
  blk := fun _ => none
  seq := fun | 4 => some ⟨[(58, .one .bool)], [], [0]⟩ | _ => none
  loop := fun | 6 => some ⟨[(6, .one (.int .i64))], [], [0]⟩ | 11 => some ⟨[(7, .one (.int .i64))], [], [0]⟩ | _ => none
  live := fun | 0 => some [1] | 1 => some [1, 3] | 2 => some [1, 3, 4, 5] | 3 => some [3, 4, 5, 58] | 4 => some [2] | 5 => some [3, 4, 5, 6] | 6 => some [3, 4, 5, 6, 62] | 7 => some [3, 4, 5, 6] | 8 => some [3, 4, 5, 6, 73] | 9 => some [2] | 10 => some [3, 7] | 11 => some [3, 7, 77] | 12 => some [3, 7] | 13 => some [3, 7] | 14 => some [2] | _ => none
  track := fun | 1 => true | _ => false
  draw := fun | 2 => .still 0 (.still 1 (.still 3 (.still 4 (.still 5 (.still 6 (.still 7 (.mem 2 (.mem 8 (.still 9 (.still 10 (.done))))))))))) | 3 => .still 0 (.still 1 (.still 2 (.still 3 (.still 4 (.still 5 (.mem 6 (.still 7 (.still 8 (.still 9 (.still 10 (.still 12 (.still 13 (.still 14 (.still 15 (.still 16 (.still 17 (.mem 11 (.still 18 (.still 19 (.still 20 (.still 21 (.still 22 (.still 24 (.still 25 (.still 26 (.still 27 (.still 28 (.mem 23 (.mem 29 (.still 30 (.still 31 (.still 32 (.still 33 (.still 34 (.still 35 (.still 36 (.still 37 (.still 38 (.done))))))))))))))))))))))))))))))))))))))) | 8 => .still 0 (.still 1 (.still 2 (.still 3 (.still 4 (.still 5 (.still 6 (.still 7 (.still 8 (.done))))))))) | _ => .done
  iter := fun | _ => none }
def vc25 (a0 : Option (Nat × Nat)) (a1 : Option (Nat × Nat)) (h : Heap) (R : Bool → Heap → Prop) : Prop :=
  New 53 [Lf.ptr a0, Lf.ptr a1] h fun (b0 : Nat) (h1 : Heap) =>
    Call Go.Proofs.Try.prog 9 [VV.lf (Lf.ptr a0)] h1 [VT.one LT.slc] fun (s2 : Slc) (h3 : Heap) =>
      keepB h1 h3 [b0] ∧
        NilC a1 fun (b4 b5 : Nat) =>
          ∃ (s6 : Slc),
            cellsAt h3 b4 (b5 + 0) [Lf.slc s6] ∧
              Call Go.Proofs.Try.prog 51 [VV.lf (Lf.ptr a0)] h3 [VT.one LT.slc] fun (s7 : Slc) (h8 : Heap) =>
                keepB h3 h8 [b0] ∧
                  cellsAt h8 b4 (b5 + 0) [Lf.slc s6] ∧
                    Call Go.Proofs.Try.prog 52 [VV.lf (Lf.slc s6)] h8 [VT.one LT.slc] fun (s9 : Slc) (h10 : Heap) =>
                      keepB h8 h10 [b0] ∧
                        ∃ (I11 : Bool → Heap → Prop),
                          (NilC a1 fun (b12 b13 : Nat) =>
                              ∃ (s14 : Slc),
                                cellsAt h10 b12 (b13 + 0) [Lf.slc s14] ∧
                                  Call Go.Proofs.Try.prog 13 [VV.lf (Lf.slc s2), VV.lf (Lf.slc s14)] h10 [VT.one LT.bool]
                                    fun (c15 : Bool) (h16 : Heap) =>
                                    keepB h10 h16 [b0] ∧
                                      Br (!c15) (I11 Bool.true h16)
                                        (NilC a1 fun (b17 b18 : Nat) =>
                                          ∃ (s19 : Slc),
                                            cellsAt h16 b17 (b18 + 0) [Lf.slc s19] ∧
                                              Call Go.Proofs.Try.prog 53 [VV.lf (Lf.ptr a0)] h16 [VT.one (LT.int IntKind.i64)] fun (i20 : Int) (h21 : Heap) =>
                                                keepB h16 h21 [b0] ∧
                                                  cellsAt h21 b17 (b18 + 0) [Lf.slc s19] ∧
                                                    Br (i20 != (↑(Slc.len s19) : Int)) (I11 Bool.true h21)
                                                      (NilC a1 fun (b22 b23 : Nat) =>
                                                        ∃ (s24 : Slc),
                                                          cellsAt h21 b22 (b23 + 0) [Lf.slc s24] ∧
                                                            Call Go.Proofs.Try.prog 10 [VV.lf (Lf.ptr a0)] h21 [VT.one (LT.int IntKind.i64)]
                                                              fun (i25 : Int) (h26 : Heap) =>
                                                              keepB h21 h26 [b0] ∧
                                                                cellsAt h26 b22 (b23 + 0) [Lf.slc s24] ∧
                                                                  Call Go.Proofs.Try.prog 36 [VV.lf (Lf.slc s24)] h26 [VT.one (LT.int IntKind.i64)]
                                                                    fun (i27 : Int) (h28 : Heap) =>
                                                                    keepB h26 h28 [b0] ∧
                                                                      Br (i25 != i27) (I11 Bool.true h28) (I11 ((↑(Slc.len s7) : Int) != (↑(Slc.len s9) : Int)) h28)))) ∧
                            ∀ (c29 : Bool) (h30 : Heap),
                              I11 c29 h30 →
                                Br c29 (R Bool.false h30)
                                  (∃ (I31 : Int → Heap → Nat → Prop),
                                    (∃ (b32 : Nat), I31 (0 : Int) h30 b32) ∧
                                      ∀ (i33 : Int) (h34 : Heap) (b35 : Nat),
                                        I31 i33 h34 b35 →
                                          Br (Decidable.decide (i33 < (↑(Slc.len s7) : Int)))
                                            (IxC s7 i33 1 fun (b36 b37 : Nat) =>
                                              ∃ (i38 : Int),
                                                cellsAt h34 b36 b37 [Lf.int IntKind.u32 i38] ∧
                                                  IxC s9 i33 1 fun (b39 b40 : Nat) =>
                                                    ∃ (i41 : Int),
                                                      cellsAt h34 b39 b40 [Lf.int IntKind.u32 i41] ∧
                                                        Br (i38 != i41) (R Bool.false h34) (∃ (b42 : Nat), b42 < b35 ∧ I31 (IntKind.wrap IntKind.i64 (i33 + (1 : Int))) h34 b42))
                                            (∃ (I43 : Int → Heap → Nat → Prop),
                                              (∃ (b44 : Nat), I43 (0 : Int) h34 b44) ∧
                                                ∀ (i45 : Int) (h46 : Heap) (b47 : Nat),
                                                  I43 i45 h46 b47 →
                                                    Br (Decidable.decide (i45 < (↑(Slc.len s2) : Int)))
                                                      (IxC s2 i45 4 fun (b48 b49 : Nat) =>
                                                        StC h46 b48 b49
                                                          [Lf.int IntKind.u32 (0 : Int), Lf.int IntKind.i64 (0 : Int),
                                                            Lf.str (ByteArray.mk #[(115 : UInt8), (112 : UInt8), (111 : UInt8), (105 : UInt8), (108 : UInt8), (116 : UInt8)]),
                                                            Lf.str (ByteArray.mk #[])]
                                                          fun (h50 : Heap) => ∃ (b51 : Nat), b51 < b47 ∧ I43 (IntKind.wrap IntKind.i64 (i45 + (1 : Int))) h50 b51)
                                                      (R Bool.true h46)))
theorem eq25 (a0 : Option (Nat × Nat)) (a1 : Option (Nat × Nat)) (h : Heap) (R : Bool → Heap → Prop) : vc25 a0 a1 h R = vcFn Go.Proofs.Try.prog pl25 Go.Proofs.Try.f25 [.agg [.ptr a0, .ptr a1]] h [.one .bool] R := by kernel_rfl
theorem ok25 {a0 : Option (Nat × Nat)} {a1 : Option (Nat × Nat)} {h : Heap} {R : Bool → Heap → Prop} (hv : vc25 a0 a1 h R) : Call Go.Proofs.Try.prog 25 [.agg [.ptr a0, .ptr a1]] h [.one .bool] R := call_eq hng hmix Go.Proofs.Try.func25 (eq25 a0 a1 h R) hv
/- 7: sediment.sedimentlaw03.BatchActs (acts) · loop 3: i -/
def pl7 : Plan := {
  blk := fun _ => none
  seq := fun _ => none
  loop := fun | 3 => some ⟨[(4, .one (.int .i64))], [], []⟩ | _ => none
  live := fun | 0 => some [0] | 1 => some [0, 3] | 2 => some [0, 3, 4] | 3 => some [0, 3, 4, 13] | 4 => some [0, 3, 4] | 5 => some [0, 3, 4, 32] | 6 => some [2] | 7 => some [2] | _ => none
  track := fun | 3 => true | _ => false
  draw := fun | 5 => .still 0 (.still 1 (.still 2 (.still 3 (.still 4 (.mem 5 (.still 6 (.still 7 (.still 8 (.still 9 (.still 10 (.still 11 (.still 12 (.mem 13 (.still 14 (.still 15 (.still 16 (.done))))))))))))))))) | _ => .done
  iter := fun | _ => none }
def vc7 (a0 : Slc) (h : Heap) (R : Bool → Heap → Prop) : Prop :=
  New 26 [Lf.slc (Slc.mk Option.none 0 0), Lf.int IntKind.i64 (0 : Int), Lf.slc (Slc.mk Option.none 0 0)] h
    fun (b0 : Nat) (h1 : Heap) =>
    New 51 [Lf.slc (Slc.mk Option.none 0 0), Lf.slc (Slc.mk Option.none 0 0)] h1 fun (b2 : Nat) (h3 : Heap) =>
      New 53 [Lf.ptr Option.none, Lf.ptr Option.none] h3 fun (b4 : Nat) (h5 : Heap) =>
        Set b4 53 [Lf.ptr (Option.some (b0, 0)), Lf.ptr (Option.some (b2, 0))] h5 fun (h6 : Heap) =>
          ∃ (I7 : Int → Heap → Nat → Prop),
            (∃ (b8 : Nat), I7 (0 : Int) h6 b8) ∧
              ∀ (i9 : Int) (h10 : Heap) (b11 : Nat),
                I7 i9 h10 b11 →
                  Br (Decidable.decide (i9 < (↑(Slc.len a0) : Int)))
                    (IxC a0 i9 7 fun (b12 b13 : Nat) =>
                      ∃ (i14 : Int),
                        ∃ (c15 : Bool),
                          ∃ (i16 : Int),
                            ∃ (i17 : Int),
                              ∃ (t18 : ByteArray),
                                ∃ (t19 : ByteArray),
                                  ∃ (s20 : Slc),
                                    cellsAt h10 b12 b13
                                        [Lf.int IntKind.i64 i14, Lf.bool c15, Lf.int IntKind.u32 i16, Lf.int IntKind.i64 i17, Lf.str t18, Lf.str t19,
                                          Lf.slc s20] ∧
                                      Call Go.Proofs.Try.prog 24
                                        [VV.agg [Lf.ptr (Option.some (b0, 0)), Lf.ptr (Option.some (b2, 0))],
                                          VV.agg
                                            [Lf.int IntKind.i64 i14, Lf.bool c15, Lf.int IntKind.u32 i16, Lf.int IntKind.i64 i17, Lf.str t18, Lf.str t19,
                                              Lf.slc s20]]
                                        h10 [VT.one LT.bool] fun (c21 : Bool) (h22 : Heap) =>
                                        keepB h10 h22 [b4] ∧
                                          Br (!c21) (R Bool.false h22)
                                            (((3 : Int) = (0 : Int) → False) ∧
                                              Br (Int.tmod i9 (3 : Int) == (2 : Int))
                                                (Call Go.Proofs.Try.prog 25 [VV.agg [Lf.ptr (Option.some (b0, 0)), Lf.ptr (Option.some (b2, 0))]] h22
                                                  [VT.one LT.bool] fun (c23 : Bool) (h24 : Heap) =>
                                                  keepB h22 h24 [b4] ∧ Br (!c23) (R Bool.false h24) (∃ (b25 : Nat), b25 < b11 ∧ I7 (IntKind.wrap IntKind.i64 (i9 + (1 : Int))) h24 b25))
                                                (∃ (b26 : Nat), b26 < b11 ∧ I7 (IntKind.wrap IntKind.i64 (i9 + (1 : Int))) h22 b26)))
                    (Call Go.Proofs.Try.prog 25 [VV.agg [Lf.ptr (Option.some (b0, 0)), Lf.ptr (Option.some (b2, 0))]] h10 [VT.one LT.bool]
                      fun (c27 : Bool) (h28 : Heap) =>
                      keepB h10 h28 [b4] ∧
                        Br c27
                          (Call Go.Proofs.Try.prog 25 [VV.agg [Lf.ptr (Option.some (b0, 0)), Lf.ptr (Option.some (b2, 0))]] h28 [VT.one LT.bool]
                            fun (c29 : Bool) (h30 : Heap) =>
                            keepB h28 h30 [b4] ∧
                              Br c29 (Call Go.Proofs.Try.prog 14 [] h30 [VT.one LT.bool] fun (c31 : Bool) (h32 : Heap) => keepB h30 h32 [b4] ∧ R c31 h32)
                                (R Bool.false h30))
                          (R Bool.false h28))
theorem eq7 (a0 : Slc) (h : Heap) (R : Bool → Heap → Prop) : vc7 a0 h R = vcFn Go.Proofs.Try.prog pl7 Go.Proofs.Try.f7 [.lf (.slc a0)] h [.one .bool] R := by kernel_rfl
theorem ok7 {a0 : Slc} {h : Heap} {R : Bool → Heap → Prop} (hv : vc7 a0 h R) : Call Go.Proofs.Try.prog 7 [.lf (.slc a0)] h [.one .bool] R := call_eq hng hmix Go.Proofs.Try.func7 (eq7 a0 h R) hv
end Go.V.Ytclffphegfhocaa
