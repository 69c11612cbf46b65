/- This text proves a part of the laws of seat Yteojmnnobmpdiaa, under no condition: R11a R11b R11c T6. -/
import Derived.Test.YteojmnnobmpdiaaEC
import Derived.Eval
import Derived.Test.YteojmnnobmpdiaaChecked
import Derived.Test.YteojmnnobmpdiaaCA
set_option linter.unusedVariables false
set_option maxRecDepth 100000
namespace Go.V.Yteojmnnobmpdiaa
open Go Go.V
/- 24: sediment.sedimentref11.New (shards, room, strict) -/
def pl24 : Plan := {
  blk := fun _ => none
  seq := fun _ => none
  loop := fun _ => none
  live := fun | 0 => some [0, 1, 2] | 1 => some [0, 1, 2, 13] | 2 => some [6, 7] | 3 => some [6, 7] | _ => none
  track := fun | _ => false
  draw := fun | 3 => .still 0 (.still 1 (.still 2 (.still 3 (.still 5 (.alt 4 (.mem 6 (.still 7 (.mem 8 (.still 9 (.still 10 (.done)))))) (.mem 6 (.mem 4 (.still 7 (.mem 8 (.still 9 (.still 10 (.done)))))))))))) | _ => .done
  iter := fun | _ => none }
def vc24 (a0 : Int) (a1 : Int) (a2 : Bool) (h : Heap) (R : Option (Nat × Nat) → Int → Heap → Prop) : Prop :=
  Br (Decidable.decide (a0 < (1 : Int))) (R Option.none (1 : Int) h)
    (Br (Decidable.decide (a0 > (64 : Int))) (R Option.none (1 : Int) h)
      ((MkC 127 [Lf.slc (Slc.mk Option.none 0 0)] 1 24 a0 a0 h fun (s0 : Slc) (h1 : Heap) =>
          MkC 127 [Lf.slc (Slc.mk Option.none 0 0)] 1 24 a0 a0 h1 fun (s2 : Slc) (h3 : Heap) =>
            New 129
              [Lf.int IntKind.i64 a0, Lf.int IntKind.u64 a1, Lf.bool a2, Lf.slc s0, Lf.slc s2, Lf.slc (Slc.mk Option.none 0 0)] h3
              fun (b4 : Nat) (h5 : Heap) => R (Option.some (b4, 0)) (0 : Int) h5) ∧
        MkC 127 [Lf.slc (Slc.mk Option.none 0 0)] 1 24 a0 a0 h fun (s6 : Slc) (h7 : Heap) =>
          MkC 127 [Lf.slc (Slc.mk Option.none 0 0)] 1 24 a0 a0 h7 fun (s8 : Slc) (h9 : Heap) =>
            New 129
              [Lf.int IntKind.i64 a0, Lf.int IntKind.u64 a1, Lf.bool a2, Lf.slc s8, Lf.slc s6, Lf.slc (Slc.mk Option.none 0 0)] h9
              fun (b10 : Nat) (h11 : Heap) => R (Option.some (b10, 0)) (0 : Int) h11))
theorem eq24 (a0 : Int) (a1 : Int) (a2 : Bool) (h : Heap) (R : Option (Nat × Nat) → Int → Heap → Prop) : vc24 a0 a1 a2 h R = vcFn Go.Proofs.Try.prog pl24 Go.Proofs.Try.f24 [.lf (.int .i64 a0), .lf (.int .u64 a1), .lf (.bool a2)] h [.one .ptr, .one (.int .i64)] R := by kernel_rfl
theorem ok24 {a0 : Int} {a1 : Int} {a2 : Bool} {h : Heap} {R : Option (Nat × Nat) → Int → Heap → Prop} (hv : vc24 a0 a1 a2 h R) : Call Go.Proofs.Try.prog 24 [.lf (.int .i64 a0), .lf (.int .u64 a1), .lf (.bool a2)] h [.one .ptr, .one (.int .i64)] R := call_eq hng hmix Go.Proofs.Try.func24 (eq24 a0 a1 a2 h R) hv
/- 26: (*sediment.sedimentref11.Cache).Shard (c, key) · loop 3: h, i -/
def pl26 : Plan := {
  blk := fun _ => none
  seq := fun _ => none
  loop := fun | 3 => some ⟨[(5, .one (.int .u32)), (6, .one (.int .i64))], [], []⟩ | _ => none
  live := fun | 0 => some [0, 1] | 1 => some [0, 1, 5] | 2 => some [0, 1, 5, 6] | 3 => some [0, 1, 5, 6, 10] | 4 => some [0, 1, 5, 6] | 5 => some [0, 1, 5, 6] | 6 => some [4] | _ => none
  track := fun | _ => false
  draw := fun | _ => .done
  iter := fun | _ => none }
def vc26 (a0 : Option (Nat × Nat)) (a1 : ByteArray) (h : Heap) (R : Int → Heap → Prop) : Prop :=
  ∃ (I0 : Int → Int → Heap → Nat → Prop),
    (∃ (b1 : Nat), I0 (2166136261 : Int) (0 : Int) h b1) ∧
      ∀ (i2 i3 : Int) (h4 : Heap) (b5 : Nat),
        I0 i2 i3 h4 b5 →
          Br (Decidable.decide (i3 < (↑(ByteArray.size a1) : Int)))
            ((0 : Int) ≤ i3 ∧
              i3 < (↑(ByteArray.size a1) : Int) ∧
                ∃ (b6 : Nat),
                  b6 < b5 ∧
                    I0 (IntKind.wrap IntKind.u32 (bitop IntKind.u32 BinOp.xor i2 (IntKind.wrap IntKind.u32 (bt a1 i3)) * (16777619 : Int)))
                      (IntKind.wrap IntKind.i64 (i3 + (1 : Int))) h4 b6)
            (NilC a0 fun (b7 b8 : Nat) =>
              ∃ (i9 : Int),
                cellsAt h4 b7 (b8 + 0) [Lf.int IntKind.i64 i9] ∧
                  (IntKind.wrap IntKind.u32 i9 = (0 : Int) → False) ∧ R (IntKind.wrap IntKind.i64 (Int.tmod i2 (IntKind.wrap IntKind.u32 i9))) h4)
theorem eq26 (a0 : Option (Nat × Nat)) (a1 : ByteArray) (h : Heap) (R : Int → Heap → Prop) : vc26 a0 a1 h R = vcFn Go.Proofs.Try.prog pl26 Go.Proofs.Try.f26 [.lf (.ptr a0), .lf (.str a1)] h [.one (.int .i64)] R := by kernel_rfl
theorem ok26 {a0 : Option (Nat × Nat)} {a1 : ByteArray} {h : Heap} {R : Int → Heap → Prop} (hv : vc26 a0 a1 h R) : Call Go.Proofs.Try.prog 26 [.lf (.ptr a0), .lf (.str a1)] h [.one (.int .i64)] R := call_eq hng hmix Go.Proofs.Try.func26 (eq26 a0 a1 h R) hv
/- 110: sediment.sedimentref11.plus (a, b) -/
def pl110 : Plan := {
  blk := fun _ => none
  seq := fun _ => none
  loop := fun _ => none
  live := fun | 0 => some [0, 1] | 1 => some [0, 1, 9] | 2 => some [4] | 3 => some [4] | _ => none
  track := fun | _ => false
  draw := fun | _ => .done
  iter := fun | _ => none }
def vc110 (a0 : Int) (a1 : Int) (h : Heap) (R : Int → Heap → Prop) : Prop :=
  Br (Decidable.decide (IntKind.wrap IntKind.u64 (a0 + a1) < a0)) (R (18446744073709551615 : Int) h) (R (IntKind.wrap IntKind.u64 (a0 + a1)) h)
theorem eq110 (a0 : Int) (a1 : Int) (h : Heap) (R : Int → Heap → Prop) : vc110 a0 a1 h R = vcFn Go.Proofs.Try.prog pl110 Go.Proofs.Try.f110 [.lf (.int .u64 a0), .lf (.int .u64 a1)] h [.one (.int .u64)] R := by kernel_rfl
theorem ok110 {a0 : Int} {a1 : Int} {h : Heap} {R : Int → Heap → Prop} (hv : vc110 a0 a1 h R) : Call Go.Proofs.Try.prog 110 [.lf (.int .u64 a0), .lf (.int .u64 a1)] h [.one (.int .u64)] R := call_eq hng hmix Go.Proofs.Try.func110 (eq110 a0 a1 h R) hv
/- 111: (*sediment.sedimentref11.Cache).used (c, s) · loop 3: n, i -/
def pl111 : Plan := {
  blk := fun _ => none
  seq := fun _ => none
  loop := fun | 3 => some ⟨[(5, .one (.int .u64)), (6, .one (.int .i64))], [], []⟩ | _ => none
  live := fun | 0 => some [0, 1] | 1 => some [0, 1, 5] | 2 => some [0, 1, 5, 6] | 3 => some [0, 1, 5, 6, 16] | 4 => some [0, 1, 5, 6] | 5 => some [0, 1, 5, 6] | 6 => some [4] | _ => none
  track := fun | _ => false
  draw := fun | _ => .done
  iter := fun | _ => none }
def vc111 (a0 : Option (Nat × Nat)) (a1 : Int) (h : Heap) (R : Int → Heap → Prop) : Prop :=
  ∃ (I0 : Int → Int → Heap → Nat → Prop),
    (∃ (b1 : Nat), I0 (0 : Int) (0 : Int) h b1) ∧
      ∀ (i2 i3 : Int) (h4 : Heap) (b5 : Nat),
        I0 i2 i3 h4 b5 →
          NilC a0 fun (b6 b7 : Nat) =>
            ∃ (s8 : Slc),
              cellsAt h4 b6 (b7 + 3) [Lf.slc s8] ∧
                IxC s8 a1 1 fun (b9 b10 : Nat) =>
                  ∃ (s11 : Slc),
                    cellsAt h4 b9 b10 [Lf.slc s11] ∧
                      Br (Decidable.decide (i3 < (↑(Slc.len s11) : Int)))
                        (NilC a0 fun (b12 b13 : Nat) =>
                          ∃ (s14 : Slc),
                            cellsAt h4 b12 (b13 + 3) [Lf.slc s14] ∧
                              IxC s14 a1 1 fun (b15 b16 : Nat) =>
                                ∃ (s17 : Slc),
                                  cellsAt h4 b15 b16 [Lf.slc s17] ∧
                                    IxC s17 i3 1 fun (b18 b19 : Nat) =>
                                      ∃ (p20 : Option (Nat × Nat)),
                                        cellsAt h4 b18 b19 [Lf.ptr p20] ∧
                                          NilC p20 fun (b21 b22 : Nat) =>
                                            ∃ (i23 : Int),
                                              cellsAt h4 b21 (b22 + 2) [Lf.int IntKind.u64 i23] ∧
                                                Call Go.Proofs.Try.prog 110 [VV.lf (Lf.int IntKind.u64 i2), VV.lf (Lf.int IntKind.u64 i23)] h4
                                                  [VT.one (LT.int IntKind.u64)] fun (i24 : Int) (h25 : Heap) =>
                                                  ∃ (b26 : Nat), b26 < b5 ∧ I0 i24 (IntKind.wrap IntKind.i64 (i3 + (1 : Int))) h25 b26)
                        (R i2 h4)
theorem eq111 (a0 : Option (Nat × Nat)) (a1 : Int) (h : Heap) (R : Int → Heap → Prop) : vc111 a0 a1 h R = vcFn Go.Proofs.Try.prog pl111 Go.Proofs.Try.f111 [.lf (.ptr a0), .lf (.int .i64 a1)] h [.one (.int .u64)] R := by kernel_rfl
theorem ok111 {a0 : Option (Nat × Nat)} {a1 : Int} {h : Heap} {R : Int → Heap → Prop} (hv : vc111 a0 a1 h R) : Call Go.Proofs.Try.prog 111 [.lf (.ptr a0), .lf (.int .i64 a1)] h [.one (.int .u64)] R := call_eq hng hmix Go.Proofs.Try.func111 (eq111 a0 a1 h R) hv
/- 115: sediment.sedimentref11.without (l, x) · loop 3: out, i -/
def pl115 : Plan := {
  blk := fun _ => none
  seq := fun _ => none
  loop := fun | 3 => some ⟨[(5, .one .slc), (6, .one (.int .i64))], [], []⟩ | _ => none
  live := fun | 0 => some [0, 1] | 1 => some [0, 1, 5] | 2 => some [0, 1, 5, 6] | 3 => some [0, 1, 5, 6, 11] | 4 => some [0, 1, 5, 6] | 5 => some [0, 1, 5, 6, 19] | 6 => some [0, 1, 5, 6] | 7 => some [4] | _ => none
  track := fun | _ => false
  draw := fun | _ => .done
  iter := fun | _ => none }
def vc115 (a0 : Slc) (a1 : Option (Nat × Nat)) (h : Heap) (R : Slc → Heap → Prop) : Prop :=
  New 134 [] h fun (b0 : Nat) (h1 : Heap) =>
    ∃ (I2 : Slc → Int → Heap → Nat → Prop),
      (∃ (b3 : Nat), I2 (Slc.mk (Option.some (b0, 0)) 0 0) (0 : Int) h1 b3) ∧
        ∀ (s4 : Slc) (i5 : Int) (h6 : Heap) (b7 : Nat),
          I2 s4 i5 h6 b7 →
            Br (Decidable.decide (i5 < (↑(Slc.len a0) : Int)))
              (IxC a0 i5 1 fun (b8 b9 : Nat) =>
                ∃ (p10 : Option (Nat × Nat)),
                  cellsAt h6 b8 b9 [Lf.ptr p10] ∧
                    PEq h6 p10 a1 ∧
                      Br (!ptrEq p10 a1)
                        (IxC a0 i5 1 fun (b11 b12 : Nat) =>
                          ∃ (p13 : Option (Nat × Nat)),
                            cellsAt h6 b11 b12 [Lf.ptr p13] ∧
                              New 134 [Lf.ptr p13] h6 fun (b14 : Nat) (h15 : Heap) =>
                                AppC 134 [Lf.ptr Option.none] 1 8 s4 (Slc.mk (Option.some (b14, 0)) 1 1) h15
                                  fun (s16 : Slc) (h17 : Heap) => ∃ (b18 : Nat), b18 < b7 ∧ I2 s16 (IntKind.wrap IntKind.i64 (i5 + (1 : Int))) h17 b18)
                        (∃ (b19 : Nat), b19 < b7 ∧ I2 s4 (IntKind.wrap IntKind.i64 (i5 + (1 : Int))) h6 b19))
              (R s4 h6)
theorem eq115 (a0 : Slc) (a1 : Option (Nat × Nat)) (h : Heap) (R : Slc → Heap → Prop) : vc115 a0 a1 h R = vcFn Go.Proofs.Try.prog pl115 Go.Proofs.Try.f115 [.lf (.slc a0), .lf (.ptr a1)] h [.one .slc] R := by kernel_rfl
theorem ok115 {a0 : Slc} {a1 : Option (Nat × Nat)} {h : Heap} {R : Slc → Heap → Prop} (hv : vc115 a0 a1 h R) : Call Go.Proofs.Try.prog 115 [.lf (.slc a0), .lf (.ptr a1)] h [.one .slc] R := call_eq hng hmix Go.Proofs.Try.func115 (eq115 a0 a1 h R) hv
/- 117: (*sediment.sedimentref11.Cache).gone (c, s, x) -/
def pl117 : Plan := {
  blk := fun _ => none
  seq := fun _ => none
  loop := fun _ => none
  live := fun | 0 => some [0, 1, 2] | 1 => some [] | _ => none
  track := fun | _ => false
  draw := fun | 1 => .still 0 (.still 1 (.still 2 (.still 3 (.still 4 (.still 5 (.still 6 (.still 7 (.still 8 (.still 9 (.still 10 (.still 11 (.still 12 (.still 13 (.still 14 (.still 15 (.still 16 (.still 17 (.still 19 (.still 20 (.still 21 (.still 22 (.still 23 (.still 24 (.still 25 (.still 26 (.mem 18 (.mem 27 (.still 28 (.mem 29 (.still 30 (.mem 31 (.done)))))))))))))))))))))))))))))))) | _ => .done
  iter := fun | _ => none }
def vc117 (a0 : Option (Nat × Nat)) (a1 : Int) (a2 : Option (Nat × Nat)) (h : Heap) (R : Heap → Prop) : Prop :=
  NilC a2 fun (b0 b1 : Nat) =>
    StC h b0 (b1 + 3) [Lf.bool Bool.false] fun (h2 : Heap) =>
      NilC a0 fun (b3 b4 : Nat) =>
        ∃ (s5 : Slc),
          cellsAt h2 b3 (b4 + 3) [Lf.slc s5] ∧
            NilC a0 fun (b6 b7 : Nat) =>
              ∃ (s8 : Slc),
                cellsAt h2 b6 (b7 + 4) [Lf.slc s8] ∧
                  NilC a0 fun (b9 b10 : Nat) =>
                    ∃ (s11 : Slc),
                      cellsAt h2 b9 (b10 + 3) [Lf.slc s11] ∧
                        IxC s11 a1 1 fun (b12 b13 : Nat) =>
                          ∃ (s14 : Slc),
                            cellsAt h2 b12 b13 [Lf.slc s14] ∧
                              NilC a0 fun (b15 b16 : Nat) =>
                                ∃ (s17 : Slc),
                                  cellsAt h2 b15 (b16 + 4) [Lf.slc s17] ∧
                                    IxC s17 a1 1 fun (b18 b19 : Nat) =>
                                      ∃ (s20 : Slc),
                                        cellsAt h2 b18 b19 [Lf.slc s20] ∧
                                          Call Go.Proofs.Try.prog 115 [VV.lf (Lf.slc s14), VV.lf (Lf.ptr a2)] h2 [VT.one LT.slc]
                                            fun (s21 : Slc) (h22 : Heap) =>
                                            cellsAt h22 b18 b19 [Lf.slc s20] ∧
                                              cellsAt h22 b15 (b16 + 4) [Lf.slc s17] ∧
                                                cellsAt h22 b6 (b7 + 4) [Lf.slc s8] ∧
                                                  cellsAt h22 b3 (b4 + 3) [Lf.slc s5] ∧
                                                    Call Go.Proofs.Try.prog 115 [VV.lf (Lf.slc s20), VV.lf (Lf.ptr a2)] h22 [VT.one LT.slc]
                                                      fun (s23 : Slc) (h24 : Heap) =>
                                                      cellsAt h24 b6 (b7 + 4) [Lf.slc s8] ∧
                                                        cellsAt h24 b3 (b4 + 3) [Lf.slc s5] ∧
                                                          IxC s5 a1 1 fun (b25 b26 : Nat) =>
                                                            StC h24 b25 b26 [Lf.slc s21] fun (h27 : Heap) =>
                                                              IxC s8 a1 1 fun (b28 b29 : Nat) => StC h27 b28 b29 [Lf.slc s23] fun (h30 : Heap) => R h30
theorem eq117 (a0 : Option (Nat × Nat)) (a1 : Int) (a2 : Option (Nat × Nat)) (h : Heap) (R : Heap → Prop) : vc117 a0 a1 a2 h R = vcFn Go.Proofs.Try.prog pl117 Go.Proofs.Try.f117 [.lf (.ptr a0), .lf (.int .i64 a1), .lf (.ptr a2)] h [] R := by kernel_rfl
theorem ok117 {a0 : Option (Nat × Nat)} {a1 : Int} {a2 : Option (Nat × Nat)} {h : Heap} {R : Heap → Prop} (hv : vc117 a0 a1 a2 h R) : Call Go.Proofs.Try.prog 117 [.lf (.ptr a0), .lf (.int .i64 a1), .lf (.ptr a2)] h [] R := call_eq hng hmix Go.Proofs.Try.func117 (eq117 a0 a1 a2 h R) hv
/- 109: (*sediment.sedimentref11.Cache).makes (c, s, more) · seq 1:  · loop 0:  -/
def pl109 : Plan := {
  blk := fun _ => none
  seq := fun | 1 => some ⟨[], [], []⟩ | _ => none
  loop := fun | 0 => some ⟨[], [], []⟩ | _ => none
  live := fun | 0 => some [0, 1, 2, 32] | 1 => some [0, 1, 2] | _ => none
  track := fun | _ => false
  draw := fun | 0 => .still 0 (.still 1 (.still 2 (.still 3 (.still 4 (.still 5 (.still 6 (.still 7 (.still 8 (.still 9 (.still 10 (.still 11 (.still 13 (.still 15 (.still 16 (.still 17 (.still 18 (.still 19 (.still 20 (.still 21 (.still 22 (.still 23 (.still 24 (.mem 12 (.mem 14 (.still 25 (.still 26 (.done))))))))))))))))))))))))))) | _ => .done
  iter := fun | _ => none }
def vc109 (a0 : Option (Nat × Nat)) (a1 : Int) (a2 : Int) (h : Heap) (R : Heap → Prop) : Prop :=
  ∃ (I0 : Heap → Nat → Prop),
    (∃ (b1 : Nat), I0 h b1) ∧
      ∀ (h2 : Heap) (b3 : Nat),
        I0 h2 b3 →
          ∃ (I4 : Heap → Prop),
            (NilC a0 fun (b5 b6 : Nat) =>
                ∃ (s7 : Slc),
                  cellsAt h2 b5 (b6 + 4) [Lf.slc s7] ∧
                    IxC s7 a1 1 fun (b8 b9 : Nat) =>
                      ∃ (s10 : Slc),
                        cellsAt h2 b8 b9 [Lf.slc s10] ∧
                          Br (Decidable.decide ((↑(Slc.len s10) : Int) > (0 : Int)))
                            (NilC a0 fun (b11 b12 : Nat) =>
                              ∃ (i13 : Int),
                                cellsAt h2 b11 (b12 + 1) [Lf.int IntKind.u64 i13] ∧
                                  NilC a0 fun (b14 b15 : Nat) =>
                                    ∃ (i16 : Int),
                                      cellsAt h2 b14 (b15 + 0) [Lf.int IntKind.i64 i16] ∧
                                        (IntKind.wrap IntKind.u64 i16 = (0 : Int) → False) ∧
                                          Call Go.Proofs.Try.prog 111 [VV.lf (Lf.ptr a0), VV.lf (Lf.int IntKind.i64 a1)] h2 [VT.one (LT.int IntKind.u64)]
                                            fun (i17 : Int) (h18 : Heap) =>
                                            cellsAt h18 b14 (b15 + 0) [Lf.int IntKind.i64 i16] ∧
                                              cellsAt h18 b11 (b12 + 1) [Lf.int IntKind.u64 i13] ∧
                                                Call Go.Proofs.Try.prog 110 [VV.lf (Lf.int IntKind.u64 i17), VV.lf (Lf.int IntKind.u64 a2)] h18
                                                  [VT.one (LT.int IntKind.u64)] fun (i19 : Int) (h20 : Heap) =>
                                                  cellsAt h20 b14 (b15 + 0) [Lf.int IntKind.i64 i16] ∧
                                                    cellsAt h20 b11 (b12 + 1) [Lf.int IntKind.u64 i13] ∧
                                                      Br (Decidable.decide (i19 > IntKind.wrap IntKind.u64 (Int.tdiv i13 (IntKind.wrap IntKind.u64 i16)))) (I4 h20) (R h20))
                            (R h2)) ∧
              ∀ (h21 : Heap),
                I4 h21 →
                  NilC a0 fun (b22 b23 : Nat) =>
                    ∃ (s24 : Slc),
                      cellsAt h21 b22 (b23 + 4) [Lf.slc s24] ∧
                        IxC s24 a1 1 fun (b25 b26 : Nat) =>
                          ∃ (s27 : Slc),
                            cellsAt h21 b25 b26 [Lf.slc s27] ∧
                              IxC s27 (0 : Int) 1 fun (b28 b29 : Nat) =>
                                ∃ (p30 : Option (Nat × Nat)),
                                  cellsAt h21 b28 b29 [Lf.ptr p30] ∧
                                    Call Go.Proofs.Try.prog 117 [VV.lf (Lf.ptr a0), VV.lf (Lf.int IntKind.i64 a1), VV.lf (Lf.ptr p30)] h21 []
                                      fun (h31 : Heap) => ∃ (b32 : Nat), b32 < b3 ∧ I0 h31 b32
theorem eq109 (a0 : Option (Nat × Nat)) (a1 : Int) (a2 : Int) (h : Heap) (R : Heap → Prop) : vc109 a0 a1 a2 h R = vcFn Go.Proofs.Try.prog pl109 Go.Proofs.Try.f109 [.lf (.ptr a0), .lf (.int .i64 a1), .lf (.int .u64 a2)] h [] R := by kernel_rfl
theorem ok109 {a0 : Option (Nat × Nat)} {a1 : Int} {a2 : Int} {h : Heap} {R : Heap → Prop} (hv : vc109 a0 a1 a2 h R) : Call Go.Proofs.Try.prog 109 [.lf (.ptr a0), .lf (.int .i64 a1), .lf (.int .u64 a2)] h [] R := call_eq hng hmix Go.Proofs.Try.func109 (eq109 a0 a1 a2 h R) hv
/- 112: (*sediment.sedimentref11.Cache).find (c, key) · loop 3: i -/
def pl112 : Plan := {
  blk := fun _ => none
  seq := fun _ => none
  loop := fun | 3 => some ⟨[(6, .one (.int .i64))], [], []⟩ | _ => none
  live := fun | 0 => some [0, 1] | 1 => some [1, 5] | 2 => some [1, 5, 6] | 3 => some [1, 5, 6, 19] | 4 => some [1, 5, 6] | 5 => some [1, 5, 6, 39] | 6 => some [4] | 7 => some [4] | _ => none
  track := fun | _ => false
  draw := fun | 1 => .still 0 (.still 1 (.still 2 (.still 3 (.still 4 (.still 5 (.mem 6 (.still 7 (.still 8 (.still 9 (.done)))))))))) | _ => .done
  iter := fun | _ => none }
def vc112 (a0 : Option (Nat × Nat)) (a1 : ByteArray) (h : Heap) (R : Option (Nat × Nat) → Heap → Prop) : Prop :=
  NilC a0 fun (b0 b1 : Nat) =>
    ∃ (s2 : Slc),
      cellsAt h b0 (b1 + 3) [Lf.slc s2] ∧
        Call Go.Proofs.Try.prog 26 [VV.lf (Lf.ptr a0), VV.lf (Lf.str a1)] h [VT.one (LT.int IntKind.i64)] fun (i3 : Int) (h4 : Heap) =>
          cellsAt h4 b0 (b1 + 3) [Lf.slc s2] ∧
            IxC s2 i3 1 fun (b5 b6 : Nat) =>
              ∃ (s7 : Slc),
                cellsAt h4 b5 b6 [Lf.slc s7] ∧
                  ∃ (I8 : Int → Heap → Nat → Prop),
                    (∃ (b9 : Nat), I8 (0 : Int) h4 b9) ∧
                      ∀ (i10 : Int) (h11 : Heap) (b12 : Nat),
                        I8 i10 h11 b12 →
                          Br (Decidable.decide (i10 < (↑(Slc.len s7) : Int)))
                            (IxC s7 i10 1 fun (b13 b14 : Nat) =>
                              ∃ (p15 : Option (Nat × Nat)),
                                cellsAt h11 b13 b14 [Lf.ptr p15] ∧
                                  NilC p15 fun (b16 b17 : Nat) =>
                                    ∃ (c18 : Bool),
                                      cellsAt h11 b16 (b17 + 3) [Lf.bool c18] ∧
                                        Br c18
                                          (IxC s7 i10 1 fun (b19 b20 : Nat) =>
                                            ∃ (p21 : Option (Nat × Nat)),
                                              cellsAt h11 b19 b20 [Lf.ptr p21] ∧
                                                NilC p21 fun (b22 b23 : Nat) =>
                                                  ∃ (t24 : ByteArray),
                                                    cellsAt h11 b22 (b23 + 0) [Lf.str t24] ∧
                                                      Br (strEq t24 a1)
                                                        (IxC s7 i10 1 fun (b25 b26 : Nat) => ∃ (p27 : Option (Nat × Nat)), cellsAt h11 b25 b26 [Lf.ptr p27] ∧ R p27 h11)
                                                        (∃ (b28 : Nat), b28 < b12 ∧ I8 (IntKind.wrap IntKind.i64 (i10 + (1 : Int))) h11 b28))
                                          (∃ (b29 : Nat), b29 < b12 ∧ I8 (IntKind.wrap IntKind.i64 (i10 + (1 : Int))) h11 b29))
                            (R Option.none h11)
theorem eq112 (a0 : Option (Nat × Nat)) (a1 : ByteArray) (h : Heap) (R : Option (Nat × Nat) → Heap → Prop) : vc112 a0 a1 h R = vcFn Go.Proofs.Try.prog pl112 Go.Proofs.Try.f112 [.lf (.ptr a0), .lf (.str a1)] h [.one .ptr] R := by kernel_rfl
theorem ok112 {a0 : Option (Nat × Nat)} {a1 : ByteArray} {h : Heap} {R : Option (Nat × Nat) → Heap → Prop} (hv : vc112 a0 a1 h R) : Call Go.Proofs.Try.prog 112 [.lf (.ptr a0), .lf (.str a1)] h [.one .ptr] R := call_eq hng hmix Go.Proofs.Try.func112 (eq112 a0 a1 h R) hv
/- 116: (*sediment.sedimentref11.Cache).pin (c, n) -/
def pl116 : Plan := {
  blk := fun _ => none
  seq := fun _ => none
  loop := fun _ => none
  live := fun | 0 => some [0, 1] | 1 => some [0, 1, 15] | 2 => some [4] | 3 => some [4] | _ => none
  track := fun | _ => false
  draw := fun | _ => .done
  iter := fun | _ => none }
def vc116 (a0 : Option (Nat × Nat)) (a1 : Int) (h : Heap) (R : Option (Nat × Nat) → Heap → Prop) : Prop :=
  Br (Decidable.decide (a1 < (1 : Int))) (R Option.none h)
    (NilC a0 fun (b0 b1 : Nat) =>
      ∃ (s2 : Slc),
        cellsAt h b0 (b1 + 5) [Lf.slc s2] ∧
          Br (Decidable.decide (a1 > (↑(Slc.len s2) : Int))) (R Option.none h)
            (NilC a0 fun (b3 b4 : Nat) =>
              ∃ (s5 : Slc),
                cellsAt h b3 (b4 + 5) [Lf.slc s5] ∧
                  IxC s5 (IntKind.wrap IntKind.i64 (a1 - (1 : Int))) 1 fun (b6 b7 : Nat) => ∃ (p8 : Option (Nat × Nat)), cellsAt h b6 b7 [Lf.ptr p8] ∧ R p8 h))
theorem eq116 (a0 : Option (Nat × Nat)) (a1 : Int) (h : Heap) (R : Option (Nat × Nat) → Heap → Prop) : vc116 a0 a1 h R = vcFn Go.Proofs.Try.prog pl116 Go.Proofs.Try.f116 [.lf (.ptr a0), .lf (.int .i64 a1)] h [.one .ptr] R := by kernel_rfl
theorem ok116 {a0 : Option (Nat × Nat)} {a1 : Int} {h : Heap} {R : Option (Nat × Nat) → Heap → Prop} (hv : vc116 a0 a1 h R) : Call Go.Proofs.Try.prog 116 [.lf (.ptr a0), .lf (.int .i64 a1)] h [.one .ptr] R := call_eq hng hmix Go.Proofs.Try.func116 (eq116 a0 a1 h R) hv
end Go.V.Yteojmnnobmpdiaa
set_option linter.unusedVariables false
set_option maxRecDepth 100000
namespace Go.V.Yteojmnnobmpdiaa
open Go Go.V
/- 113: (*sediment.sedimentref11.Cache).out (c, s, x) -/
def pl113 : Plan := {
  blk := fun _ => none
  seq := fun _ => none
  loop := fun _ => none
  live := fun | 0 => some [0, 1, 2] | 1 => some [0, 1, 2, 13] | 2 => some [] | _ => none
  track := fun | _ => false
  draw := fun | _ => .done
  iter := fun | _ => none }
def vc113 (a0 : Option (Nat × Nat)) (a1 : Int) (a2 : Option (Nat × Nat)) (h : Heap) (R : Heap → Prop) : Prop :=
  NilC a2 fun (b0 b1 : Nat) =>
    StC h b0 (b1 + 3) [Lf.bool Bool.false] fun (h2 : Heap) =>
      NilC a2 fun (b3 b4 : Nat) =>
        ∃ (i5 : Int),
          cellsAt h2 b3 (b4 + 4) [Lf.int IntKind.i64 i5] ∧
            Br (i5 == (0 : Int))
              (Call Go.Proofs.Try.prog 117 [VV.lf (Lf.ptr a0), VV.lf (Lf.int IntKind.i64 a1), VV.lf (Lf.ptr a2)] h2 [] fun (h6 : Heap) => R h6)
              (R h2)
theorem eq113 (a0 : Option (Nat × Nat)) (a1 : Int) (a2 : Option (Nat × Nat)) (h : Heap) (R : Heap → Prop) : vc113 a0 a1 a2 h R = vcFn Go.Proofs.Try.prog pl113 Go.Proofs.Try.f113 [.lf (.ptr a0), .lf (.int .i64 a1), .lf (.ptr a2)] h [] R := by kernel_rfl
theorem ok113 {a0 : Option (Nat × Nat)} {a1 : Int} {a2 : Option (Nat × Nat)} {h : Heap} {R : Heap → Prop} (hv : vc113 a0 a1 a2 h R) : Call Go.Proofs.Try.prog 113 [.lf (.ptr a0), .lf (.int .i64 a1), .lf (.ptr a2)] h [] R := call_eq hng hmix Go.Proofs.Try.func113 (eq113 a0 a1 a2 h R) hv
/- 114: (*sediment.sedimentref11.Cache).pins (c, x) -/
def pl114 : Plan := {
  blk := fun _ => none
  seq := fun _ => none
  loop := fun _ => none
  live := fun | 0 => some [0, 1] | 1 => some [0, 1] | 2 => some [0] | 3 => some [4] | _ => none
  track := fun | _ => false
  draw := fun | _ => .done
  iter := fun | _ => none }
def vc114 (a0 : Option (Nat × Nat)) (a1 : Option (Nat × Nat)) (h : Heap) (R : Int → Heap → Prop) : Prop :=
  NilC a1 fun (b0 b1 : Nat) =>
    ∃ (i2 : Int),
      cellsAt h b0 (b1 + 4) [Lf.int IntKind.i64 i2] ∧
        NilC a1 fun (b3 b4 : Nat) =>
          StC h b3 (b4 + 4) [Lf.int IntKind.i64 (IntKind.wrap IntKind.i64 (i2 + (1 : Int)))] fun (h5 : Heap) =>
            NilC a0 fun (b6 b7 : Nat) =>
              ∃ (s8 : Slc),
                cellsAt h5 b6 (b7 + 5) [Lf.slc s8] ∧
                  New 134 [Lf.ptr a1] h5 fun (b9 : Nat) (h10 : Heap) =>
                    AppC 134 [Lf.ptr Option.none] 1 8 s8 (Slc.mk (Option.some (b9, 0)) 1 1) h10
                      fun (s11 : Slc) (h12 : Heap) =>
                      NilC a0 fun (b13 b14 : Nat) =>
                        StC h12 b13 (b14 + 5) [Lf.slc s11] fun (h15 : Heap) =>
                          NilC a0 fun (b16 b17 : Nat) => ∃ (s18 : Slc), cellsAt h15 b16 (b17 + 5) [Lf.slc s18] ∧ R (↑(Slc.len s18) : Int) h15
theorem eq114 (a0 : Option (Nat × Nat)) (a1 : Option (Nat × Nat)) (h : Heap) (R : Int → Heap → Prop) : vc114 a0 a1 h R = vcFn Go.Proofs.Try.prog pl114 Go.Proofs.Try.f114 [.lf (.ptr a0), .lf (.ptr a1)] h [.one (.int .i64)] R := by kernel_rfl
theorem ok114 {a0 : Option (Nat × Nat)} {a1 : Option (Nat × Nat)} {h : Heap} {R : Int → Heap → Prop} (hv : vc114 a0 a1 h R) : Call Go.Proofs.Try.prog 114 [.lf (.ptr a0), .lf (.ptr a1)] h [.one (.int .i64)] R := call_eq hng hmix Go.Proofs.Try.func114 (eq114 a0 a1 h R) hv
/- 76: (*sediment.sedimentref11.Cache).Put () · seq 6: #44 · seq 10:  -/
def pl76 : Plan := {
  blk := fun _ => none
  seq := fun | 6 => some ⟨[(44, .one .bool)], [], []⟩ | 10 => some ⟨[], [], []⟩ | _ => none
  loop := fun _ => none
  live := fun | 0 => some [0, 1, 2, 3] | 1 => some [0, 1, 2, 3, 15] | 2 => some [8, 9] | 3 => some [0, 1, 2, 3, 10] | 4 => some [0, 1, 2, 3, 10] | 5 => some [0, 1, 2, 3, 10, 44] | 6 => some [8, 9] | 7 => some [0, 1, 2, 3, 10, 11] | 8 => some [0, 1, 2, 3, 10, 11, 49] | 9 => some [0, 1, 2, 3, 10] | 10 => some [0, 10, 12] | 11 => some [0, 12] | 12 => some [8, 9] | _ => none
  track := fun | _ => false
  draw := fun | 5 => .still 0 (.still 1 (.still 2 (.still 3 (.still 4 (.still 5 (.still 6 (.still 8 (.still 10 (.still 11 (.still 12 (.still 13 (.still 14 (.still 15 (.still 16 (.still 17 (.still 18 (.still 19 (.mem 7 (.mem 9 (.still 20 (.still 21 (.done)))))))))))))))))))))) | 11 => .still 0 (.still 1 (.still 2 (.still 3 (.still 4 (.still 6 (.still 7 (.still 8 (.still 9 (.still 10 (.still 11 (.still 12 (.still 14 (.alt 5 (.alt 13 (.mem 15 (.mem 16 (.still 17 (.mem 18 (.done))))) (.mem 15 (.mem 13 (.mem 16 (.still 17 (.mem 18 (.done))))))) (.mem 15 (.mem 5 (.mem 13 (.mem 16 (.still 17 (.mem 18 (.done)))))))))))))))))))) | _ => .done
  iter := fun | _ => none }
def vc76 (a0 : Option (Nat × Nat)) (a1 : ByteArray) (a2 : Int) (a3 : Int) (h : Heap) (R : Int → Int → Heap → Prop) : Prop :=
  Br (Decidable.decide ((↑(ByteArray.size a1) : Int) > (1024 : Int))) (R (0 : Int) (2 : Int) h)
    (Call Go.Proofs.Try.prog 26 [VV.lf (Lf.ptr a0), VV.lf (Lf.str a1)] h [VT.one (LT.int IntKind.i64)] fun (i0 : Int) (h1 : Heap) =>
      Call Go.Proofs.Try.prog 109 [VV.lf (Lf.ptr a0), VV.lf (Lf.int IntKind.i64 i0), VV.lf (Lf.int IntKind.u64 a3)] h1 [] fun (h2 : Heap) =>
        ∃ (I3 : Bool → Heap → Prop),
          (NilC a0 fun (b4 b5 : Nat) =>
              ∃ (c6 : Bool),
                cellsAt h2 b4 (b5 + 2) [Lf.bool c6] ∧
                  Br c6
                    (NilC a0 fun (b7 b8 : Nat) =>
                      ∃ (i9 : Int),
                        cellsAt h2 b7 (b8 + 1) [Lf.int IntKind.u64 i9] ∧
                          NilC a0 fun (b10 b11 : Nat) =>
                            ∃ (i12 : Int),
                              cellsAt h2 b10 (b11 + 0) [Lf.int IntKind.i64 i12] ∧
                                (IntKind.wrap IntKind.u64 i12 = (0 : Int) → False) ∧
                                  Call Go.Proofs.Try.prog 111 [VV.lf (Lf.ptr a0), VV.lf (Lf.int IntKind.i64 i0)] h2 [VT.one (LT.int IntKind.u64)]
                                    fun (i13 : Int) (h14 : Heap) =>
                                    cellsAt h14 b10 (b11 + 0) [Lf.int IntKind.i64 i12] ∧
                                      cellsAt h14 b7 (b8 + 1) [Lf.int IntKind.u64 i9] ∧
                                        Call Go.Proofs.Try.prog 110 [VV.lf (Lf.int IntKind.u64 i13), VV.lf (Lf.int IntKind.u64 a3)] h14
                                          [VT.one (LT.int IntKind.u64)] fun (i15 : Int) (h16 : Heap) =>
                                          cellsAt h16 b10 (b11 + 0) [Lf.int IntKind.i64 i12] ∧
                                            cellsAt h16 b7 (b8 + 1) [Lf.int IntKind.u64 i9] ∧
                                              I3 (Decidable.decide (i15 > IntKind.wrap IntKind.u64 (Int.tdiv i9 (IntKind.wrap IntKind.u64 i12)))) h16)
                    (I3 Bool.false h2)) ∧
            ∀ (c17 : Bool) (h18 : Heap),
              I3 c17 h18 →
                Br c17 (R (0 : Int) (110 : Int) h18)
                  (∃ (I19 : Heap → Prop),
                    (Call Go.Proofs.Try.prog 112 [VV.lf (Lf.ptr a0), VV.lf (Lf.str a1)] h18 [VT.one LT.ptr]
                        fun (p20 : Option (Nat × Nat)) (h21 : Heap) =>
                        Br (!Option.isNone p20)
                          (Call Go.Proofs.Try.prog 113 [VV.lf (Lf.ptr a0), VV.lf (Lf.int IntKind.i64 i0), VV.lf (Lf.ptr p20)] h21 []
                            fun (h22 : Heap) => I19 h22)
                          (I19 h21)) ∧
                      ∀ (h23 : Heap),
                        I19 h23 →
                          New 133 [Lf.str a1, Lf.int IntKind.u64 a2, Lf.int IntKind.u64 a3, Lf.bool Bool.true, Lf.int IntKind.i64 (0 : Int)] h23
                            fun (b24 : Nat) (h25 : Heap) =>
                            NilC a0 fun (b26 b27 : Nat) =>
                              ∃ (s28 : Slc),
                                cellsAt h25 b26 (b27 + 3) [Lf.slc s28] ∧
                                  NilC a0 fun (b29 b30 : Nat) =>
                                    ∃ (s31 : Slc),
                                      cellsAt h25 b29 (b30 + 3) [Lf.slc s31] ∧
                                        IxC s31 i0 1 fun (b32 b33 : Nat) =>
                                          ∃ (s34 : Slc),
                                            cellsAt h25 b32 b33 [Lf.slc s34] ∧
                                              (New 134 [] h25 fun (b35 : Nat) (h36 : Heap) =>
                                                  cellsAt h36 b32 b33 [Lf.slc s34] ∧
                                                    cellsAt h36 b29 (b30 + 3) [Lf.slc s31] ∧
                                                      cellsAt h36 b26 (b27 + 3) [Lf.slc s28] ∧
                                                        (AppC 134 [Lf.ptr Option.none] 1 8 (Slc.mk (Option.some (b35, 0)) 0 0) s34 h36
                                                            fun (s37 : Slc) (h38 : Heap) =>
                                                            cellsAt h38 b26 (b27 + 3) [Lf.slc s28] ∧
                                                              New 134 [Lf.ptr (Option.some (b24, 0))] h38 fun (b39 : Nat) (h40 : Heap) =>
                                                                cellsAt h40 b26 (b27 + 3) [Lf.slc s28] ∧
                                                                  AppC 134 [Lf.ptr Option.none] 1 8 s37 (Slc.mk (Option.some (b39, 0)) 1 1)
                                                                    h40 fun (s41 : Slc) (h42 : Heap) =>
                                                                    cellsAt h42 b26 (b27 + 3) [Lf.slc s28] ∧
                                                                      IxC s28 i0 1 fun (b43 b44 : Nat) =>
                                                                        StC h42 b43 b44 [Lf.slc s41] fun (h45 : Heap) =>
                                                                          Call Go.Proofs.Try.prog 114 [VV.lf (Lf.ptr a0), VV.lf (Lf.ptr (Option.some (b24, 0)))]
                                                                            h45 [VT.one (LT.int IntKind.i64)] fun (i46 : Int) (h47 : Heap) => R i46 (0 : Int) h47) ∧
                                                          New 134 [Lf.ptr (Option.some (b24, 0))] h36 fun (b48 : Nat) (h49 : Heap) =>
                                                            cellsAt h49 b32 b33 [Lf.slc s34] ∧
                                                              cellsAt h49 b29 (b30 + 3) [Lf.slc s31] ∧
                                                                cellsAt h49 b26 (b27 + 3) [Lf.slc s28] ∧
                                                                  AppC 134 [Lf.ptr Option.none] 1 8 (Slc.mk (Option.some (b35, 0)) 0 0) s34
                                                                    h49 fun (s50 : Slc) (h51 : Heap) =>
                                                                    cellsAt h51 b26 (b27 + 3) [Lf.slc s28] ∧
                                                                      AppC 134 [Lf.ptr Option.none] 1 8 s50
                                                                        (Slc.mk (Option.some (b48, 0)) 1 1) h51 fun (s52 : Slc) (h53 : Heap) =>
                                                                        cellsAt h53 b26 (b27 + 3) [Lf.slc s28] ∧
                                                                          IxC s28 i0 1 fun (b54 b55 : Nat) =>
                                                                            StC h53 b54 b55 [Lf.slc s52] fun (h56 : Heap) =>
                                                                              Call Go.Proofs.Try.prog 114
                                                                                [VV.lf (Lf.ptr a0), VV.lf (Lf.ptr (Option.some (b24, 0)))] h56
                                                                                [VT.one (LT.int IntKind.i64)] fun (i57 : Int) (h58 : Heap) => R i57 (0 : Int) h58) ∧
                                                New 134 [Lf.ptr (Option.some (b24, 0))] h25 fun (b59 : Nat) (h60 : Heap) =>
                                                  cellsAt h60 b32 b33 [Lf.slc s34] ∧
                                                    cellsAt h60 b29 (b30 + 3) [Lf.slc s31] ∧
                                                      cellsAt h60 b26 (b27 + 3) [Lf.slc s28] ∧
                                                        New 134 [] h60 fun (b61 : Nat) (h62 : Heap) =>
                                                          cellsAt h62 b32 b33 [Lf.slc s34] ∧
                                                            cellsAt h62 b29 (b30 + 3) [Lf.slc s31] ∧
                                                              cellsAt h62 b26 (b27 + 3) [Lf.slc s28] ∧
                                                                AppC 134 [Lf.ptr Option.none] 1 8 (Slc.mk (Option.some (b61, 0)) 0 0) s34
                                                                  h62 fun (s63 : Slc) (h64 : Heap) =>
                                                                  cellsAt h64 b26 (b27 + 3) [Lf.slc s28] ∧
                                                                    AppC 134 [Lf.ptr Option.none] 1 8 s63
                                                                      (Slc.mk (Option.some (b59, 0)) 1 1) h64 fun (s65 : Slc) (h66 : Heap) =>
                                                                      cellsAt h66 b26 (b27 + 3) [Lf.slc s28] ∧
                                                                        IxC s28 i0 1 fun (b67 b68 : Nat) =>
                                                                          StC h66 b67 b68 [Lf.slc s65] fun (h69 : Heap) =>
                                                                            Call Go.Proofs.Try.prog 114
                                                                              [VV.lf (Lf.ptr a0), VV.lf (Lf.ptr (Option.some (b24, 0)))] h69
                                                                              [VT.one (LT.int IntKind.i64)] fun (i70 : Int) (h71 : Heap) => R i70 (0 : Int) h71))
theorem eq76 (a0 : Option (Nat × Nat)) (a1 : ByteArray) (a2 : Int) (a3 : Int) (h : Heap) (R : Int → Int → Heap → Prop) : vc76 a0 a1 a2 a3 h R = vcFn Go.Proofs.Try.prog pl76 Go.Proofs.Try.f76 [.lf (.ptr a0), .lf (.str a1), .lf (.int .u64 a2), .lf (.int .u64 a3)] h [.one (.int .i64), .one (.int .i64)] R := by kernel_rfl
theorem ok76 {a0 : Option (Nat × Nat)} {a1 : ByteArray} {a2 : Int} {a3 : Int} {h : Heap} {R : Int → Int → Heap → Prop} (hv : vc76 a0 a1 a2 a3 h R) : Call Go.Proofs.Try.prog 76 [.lf (.ptr a0), .lf (.str a1), .lf (.int .u64 a2), .lf (.int .u64 a3)] h [.one (.int .i64), .one (.int .i64)] R := call_eq hng hmix Go.Proofs.Try.func76 (eq76 a0 a1 a2 a3 h R) hv
/- 77: (*sediment.sedimentref11.Cache).Get (c, key) -/
def pl77 : Plan := {
  blk := fun _ => none
  seq := fun _ => none
  loop := fun _ => none
  live := fun | 0 => some [0, 1] | 1 => some [0, 1, 7] | 2 => some [0, 1, 7, 13] | 3 => some [4, 5, 6] | 4 => some [0, 7, 8] | 5 => some [0, 7] | 6 => some [4, 5, 6] | _ => none
  track := fun | _ => false
  draw := fun | 5 => .still 0 (.still 1 (.still 2 (.still 3 (.still 4 (.still 5 (.still 6 (.still 7 (.still 8 (.still 9 (.still 10 (.still 11 (.still 12 (.mem 13 (.still 14 (.mem 15 (.done)))))))))))))))) | 6 => .still 0 (.still 1 (.still 3 (.still 4 (.still 5 (.still 6 (.mem 2 (.still 7 (.still 8 (.still 9 (.done)))))))))) | _ => .done
  iter := fun | _ => none }
def vc77 (a0 : Option (Nat × Nat)) (a1 : ByteArray) (h : Heap) (R : Int → Int → Bool → Heap → Prop) : Prop :=
  Call Go.Proofs.Try.prog 112 [VV.lf (Lf.ptr a0), VV.lf (Lf.str a1)] h [VT.one LT.ptr] fun (p0 : Option (Nat × Nat)) (h1 : Heap) =>
    Br (Option.isNone p0) (R (0 : Int) (0 : Int) Bool.false h1)
      (Call Go.Proofs.Try.prog 26 [VV.lf (Lf.ptr a0), VV.lf (Lf.str a1)] h1 [VT.one (LT.int IntKind.i64)] fun (i2 : Int) (h3 : Heap) =>
        NilC a0 fun (b4 b5 : Nat) =>
          ∃ (s6 : Slc),
            cellsAt h3 b4 (b5 + 4) [Lf.slc s6] ∧
              NilC a0 fun (b7 b8 : Nat) =>
                ∃ (s9 : Slc),
                  cellsAt h3 b7 (b8 + 4) [Lf.slc s9] ∧
                    IxC s9 i2 1 fun (b10 b11 : Nat) =>
                      ∃ (s12 : Slc),
                        cellsAt h3 b10 b11 [Lf.slc s12] ∧
                          Call Go.Proofs.Try.prog 115 [VV.lf (Lf.slc s12), VV.lf (Lf.ptr p0)] h3 [VT.one LT.slc] fun (s13 : Slc) (h14 : Heap) =>
                            cellsAt h14 b4 (b5 + 4) [Lf.slc s6] ∧
                              IxC s6 i2 1 fun (b15 b16 : Nat) =>
                                StC h14 b15 b16 [Lf.slc s13] fun (h17 : Heap) =>
                                  NilC p0 fun (b18 b19 : Nat) =>
                                    ∃ (i20 : Int),
                                      cellsAt h17 b18 (b19 + 1) [Lf.int IntKind.u64 i20] ∧
                                        Call Go.Proofs.Try.prog 114 [VV.lf (Lf.ptr a0), VV.lf (Lf.ptr p0)] h17 [VT.one (LT.int IntKind.i64)]
                                          fun (i21 : Int) (h22 : Heap) => cellsAt h22 b18 (b19 + 1) [Lf.int IntKind.u64 i20] ∧ R i21 i20 Bool.true h22)
theorem eq77 (a0 : Option (Nat × Nat)) (a1 : ByteArray) (h : Heap) (R : Int → Int → Bool → Heap → Prop) : vc77 a0 a1 h R = vcFn Go.Proofs.Try.prog pl77 Go.Proofs.Try.f77 [.lf (.ptr a0), .lf (.str a1)] h [.one (.int .i64), .one (.int .u64), .one .bool] R := by kernel_rfl
theorem ok77 {a0 : Option (Nat × Nat)} {a1 : ByteArray} {h : Heap} {R : Int → Int → Bool → Heap → Prop} (hv : vc77 a0 a1 h R) : Call Go.Proofs.Try.prog 77 [.lf (.ptr a0), .lf (.str a1)] h [.one (.int .i64), .one (.int .u64), .one .bool] R := call_eq hng hmix Go.Proofs.Try.func77 (eq77 a0 a1 h R) hv
/- 78: (*sediment.sedimentref11.Cache).Free () -/
def pl78 : Plan := {
  blk := fun _ => none
  seq := fun _ => none
  loop := fun _ => none
  live := fun | 0 => some [0, 1] | 1 => some [0, 1, 5] | 2 => some [0, 1, 5, 12] | 3 => some [4] | 4 => some [0, 1, 5, 6] | 5 => some [0, 5, 6] | 6 => some [0, 5] | 7 => some [0, 5] | 8 => some [0, 5, 38] | 9 => some [4] | 10 => some [0, 5, 7] | 11 => some [0, 5, 7, 49] | 12 => some [] | 13 => some [4] | 14 => some [0, 7] | 15 => some [] | 16 => some [4] | _ => none
  track := fun | _ => false
  draw := fun | 14 => .still 0 (.still 1 (.still 2 (.still 3 (.still 4 (.still 6 (.still 7 (.still 8 (.still 9 (.still 10 (.still 11 (.still 12 (.still 14 (.alt 5 (.alt 13 (.mem 15 (.mem 16 (.still 17 (.mem 18 (.done))))) (.mem 15 (.mem 13 (.mem 16 (.still 17 (.mem 18 (.done))))))) (.mem 15 (.mem 5 (.mem 13 (.mem 16 (.still 17 (.mem 18 (.done)))))))))))))))))))) | _ => .done
  iter := fun | _ => none }
def vc78 (a0 : Option (Nat × Nat)) (a1 : Int) (h : Heap) (R : Int → Heap → Prop) : Prop :=
  Call Go.Proofs.Try.prog 116 [VV.lf (Lf.ptr a0), VV.lf (Lf.int IntKind.i64 a1)] h [VT.one LT.ptr] fun (p0 : Option (Nat × Nat)) (h1 : Heap) =>
    Br (Option.isNone p0) (R (111 : Int) h1)
      (New 134 [] h1 fun (b2 : Nat) (h3 : Heap) =>
        NilC a0 fun (b4 b5 : Nat) =>
          ∃ (s6 : Slc),
            cellsAt h3 b4 (b5 + 5) [Lf.slc s6] ∧
              AppC 134 [Lf.ptr Option.none] 1 8 (Slc.mk (Option.some (b2, 0)) 0 0) s6 h3 fun (s7 : Slc) (h8 : Heap) =>
                IxC s7 (IntKind.wrap IntKind.i64 (a1 - (1 : Int))) 1 fun (b9 b10 : Nat) =>
                  StC h8 b9 b10 [Lf.ptr Option.none] fun (h11 : Heap) =>
                    NilC a0 fun (b12 b13 : Nat) =>
                      StC h11 b12 (b13 + 5) [Lf.slc s7] fun (h14 : Heap) =>
                        NilC p0 fun (b15 b16 : Nat) =>
                          ∃ (i17 : Int),
                            cellsAt h14 b15 (b16 + 4) [Lf.int IntKind.i64 i17] ∧
                              NilC p0 fun (b18 b19 : Nat) =>
                                StC h14 b18 (b19 + 4) [Lf.int IntKind.i64 (IntKind.wrap IntKind.i64 (i17 - (1 : Int)))] fun (h20 : Heap) =>
                                  NilC p0 fun (b21 b22 : Nat) =>
                                    ∃ (i23 : Int),
                                      cellsAt h20 b21 (b22 + 4) [Lf.int IntKind.i64 i23] ∧
                                        Br (Decidable.decide (i23 > (0 : Int))) (R (0 : Int) h20)
                                          (NilC p0 fun (b24 b25 : Nat) =>
                                            ∃ (t26 : ByteArray),
                                              cellsAt h20 b24 (b25 + 0) [Lf.str t26] ∧
                                                Call Go.Proofs.Try.prog 26 [VV.lf (Lf.ptr a0), VV.lf (Lf.str t26)] h20 [VT.one (LT.int IntKind.i64)]
                                                  fun (i27 : Int) (h28 : Heap) =>
                                                  NilC p0 fun (b29 b30 : Nat) =>
                                                    ∃ (c31 : Bool),
                                                      cellsAt h28 b29 (b30 + 3) [Lf.bool c31] ∧
                                                        Br (!c31)
                                                          (Call Go.Proofs.Try.prog 117
                                                            [VV.lf (Lf.ptr a0), VV.lf (Lf.int IntKind.i64 i27), VV.lf (Lf.ptr p0)] h28 [] fun (h32 : Heap) =>
                                                            R (0 : Int) h32)
                                                          (NilC a0 fun (b33 b34 : Nat) =>
                                                            ∃ (s35 : Slc),
                                                              cellsAt h28 b33 (b34 + 4) [Lf.slc s35] ∧
                                                                NilC a0 fun (b36 b37 : Nat) =>
                                                                  ∃ (s38 : Slc),
                                                                    cellsAt h28 b36 (b37 + 4) [Lf.slc s38] ∧
                                                                      IxC s38 i27 1 fun (b39 b40 : Nat) =>
                                                                        ∃ (s41 : Slc),
                                                                          cellsAt h28 b39 b40 [Lf.slc s41] ∧
                                                                            (New 134 [] h28 fun (b42 : Nat) (h43 : Heap) =>
                                                                                cellsAt h43 b39 b40 [Lf.slc s41] ∧
                                                                                  cellsAt h43 b36 (b37 + 4) [Lf.slc s38] ∧
                                                                                    cellsAt h43 b33 (b34 + 4) [Lf.slc s35] ∧
                                                                                      (AppC 134 [Lf.ptr Option.none] 1 8
                                                                                          (Slc.mk (Option.some (b42, 0)) 0 0) s41 h43
                                                                                          fun (s44 : Slc) (h45 : Heap) =>
                                                                                          cellsAt h45 b33 (b34 + 4) [Lf.slc s35] ∧
                                                                                            New 134 [Lf.ptr p0] h45 fun (b46 : Nat) (h47 : Heap) =>
                                                                                              cellsAt h47 b33 (b34 + 4) [Lf.slc s35] ∧
                                                                                                AppC 134 [Lf.ptr Option.none] 1 8 s44
                                                                                                  (Slc.mk (Option.some (b46, 0)) 1 1) h47
                                                                                                  fun (s48 : Slc) (h49 : Heap) =>
                                                                                                  cellsAt h49 b33 (b34 + 4) [Lf.slc s35] ∧
                                                                                                    IxC s35 i27 1 fun (b50 b51 : Nat) =>
                                                                                                      StC h49 b50 b51 [Lf.slc s48] fun (h52 : Heap) =>
                                                                                                        Call Go.Proofs.Try.prog 109
                                                                                                          [VV.lf (Lf.ptr a0), VV.lf (Lf.int IntKind.i64 i27),
                                                                                                            VV.lf (Lf.int IntKind.u64 (0 : Int))]
                                                                                                          h52 [] fun (h53 : Heap) => R (0 : Int) h53) ∧
                                                                                        New 134 [Lf.ptr p0] h43 fun (b54 : Nat) (h55 : Heap) =>
                                                                                          cellsAt h55 b39 b40 [Lf.slc s41] ∧
                                                                                            cellsAt h55 b36 (b37 + 4) [Lf.slc s38] ∧
                                                                                              cellsAt h55 b33 (b34 + 4) [Lf.slc s35] ∧
                                                                                                AppC 134 [Lf.ptr Option.none] 1 8
                                                                                                  (Slc.mk (Option.some (b42, 0)) 0 0) s41 h55
                                                                                                  fun (s56 : Slc) (h57 : Heap) =>
                                                                                                  cellsAt h57 b33 (b34 + 4) [Lf.slc s35] ∧
                                                                                                    AppC 134 [Lf.ptr Option.none] 1 8 s56
                                                                                                      (Slc.mk (Option.some (b54, 0)) 1 1) h57
                                                                                                      fun (s58 : Slc) (h59 : Heap) =>
                                                                                                      cellsAt h59 b33 (b34 + 4) [Lf.slc s35] ∧
                                                                                                        IxC s35 i27 1 fun (b60 b61 : Nat) =>
                                                                                                          StC h59 b60 b61 [Lf.slc s58] fun (h62 : Heap) =>
                                                                                                            Call Go.Proofs.Try.prog 109
                                                                                                              [VV.lf (Lf.ptr a0), VV.lf (Lf.int IntKind.i64 i27),
                                                                                                                VV.lf (Lf.int IntKind.u64 (0 : Int))]
                                                                                                              h62 [] fun (h63 : Heap) => R (0 : Int) h63) ∧
                                                                              New 134 [Lf.ptr p0] h28 fun (b64 : Nat) (h65 : Heap) =>
                                                                                cellsAt h65 b39 b40 [Lf.slc s41] ∧
                                                                                  cellsAt h65 b36 (b37 + 4) [Lf.slc s38] ∧
                                                                                    cellsAt h65 b33 (b34 + 4) [Lf.slc s35] ∧
                                                                                      New 134 [] h65 fun (b66 : Nat) (h67 : Heap) =>
                                                                                        cellsAt h67 b39 b40 [Lf.slc s41] ∧
                                                                                          cellsAt h67 b36 (b37 + 4) [Lf.slc s38] ∧
                                                                                            cellsAt h67 b33 (b34 + 4) [Lf.slc s35] ∧
                                                                                              AppC 134 [Lf.ptr Option.none] 1 8
                                                                                                (Slc.mk (Option.some (b66, 0)) 0 0) s41 h67
                                                                                                fun (s68 : Slc) (h69 : Heap) =>
                                                                                                cellsAt h69 b33 (b34 + 4) [Lf.slc s35] ∧
                                                                                                  AppC 134 [Lf.ptr Option.none] 1 8 s68
                                                                                                    (Slc.mk (Option.some (b64, 0)) 1 1) h69
                                                                                                    fun (s70 : Slc) (h71 : Heap) =>
                                                                                                    cellsAt h71 b33 (b34 + 4) [Lf.slc s35] ∧
                                                                                                      IxC s35 i27 1 fun (b72 b73 : Nat) =>
                                                                                                        StC h71 b72 b73 [Lf.slc s70] fun (h74 : Heap) =>
                                                                                                          Call Go.Proofs.Try.prog 109
                                                                                                            [VV.lf (Lf.ptr a0), VV.lf (Lf.int IntKind.i64 i27),
                                                                                                              VV.lf (Lf.int IntKind.u64 (0 : Int))]
                                                                                                            h74 [] fun (h75 : Heap) => R (0 : Int) h75)))
theorem eq78 (a0 : Option (Nat × Nat)) (a1 : Int) (h : Heap) (R : Int → Heap → Prop) : vc78 a0 a1 h R = vcFn Go.Proofs.Try.prog pl78 Go.Proofs.Try.f78 [.lf (.ptr a0), .lf (.int .i64 a1)] h [.one (.int .i64)] R := by kernel_rfl
theorem ok78 {a0 : Option (Nat × Nat)} {a1 : Int} {h : Heap} {R : Int → Heap → Prop} (hv : vc78 a0 a1 h R) : Call Go.Proofs.Try.prog 78 [.lf (.ptr a0), .lf (.int .i64 a1)] h [.one (.int .i64)] R := call_eq hng hmix Go.Proofs.Try.func78 (eq78 a0 a1 h R) hv
/- 79: (*sediment.sedimentref11.Cache).Value (c, n) -/
def pl79 : Plan := {
  blk := fun _ => none
  seq := fun _ => none
  loop := fun _ => none
  live := fun | 0 => some [0, 1] | 1 => some [6] | 2 => some [6, 11] | 3 => some [4, 5] | 4 => some [4, 5] | _ => none
  track := fun | _ => false
  draw := fun | _ => .done
  iter := fun | _ => none }
def vc79 (a0 : Option (Nat × Nat)) (a1 : Int) (h : Heap) (R : Int → Int → Heap → Prop) : Prop :=
  Call Go.Proofs.Try.prog 116 [VV.lf (Lf.ptr a0), VV.lf (Lf.int IntKind.i64 a1)] h [VT.one LT.ptr] fun (p0 : Option (Nat × Nat)) (h1 : Heap) =>
    Br (Option.isNone p0) (R (0 : Int) (111 : Int) h1) (NilC p0 fun (b2 b3 : Nat) => ∃ (i4 : Int), cellsAt h1 b2 (b3 + 1) [Lf.int IntKind.u64 i4] ∧ R i4 (0 : Int) h1)
theorem eq79 (a0 : Option (Nat × Nat)) (a1 : Int) (h : Heap) (R : Int → Int → Heap → Prop) : vc79 a0 a1 h R = vcFn Go.Proofs.Try.prog pl79 Go.Proofs.Try.f79 [.lf (.ptr a0), .lf (.int .i64 a1)] h [.one (.int .u64), .one (.int .i64)] R := by kernel_rfl
theorem ok79 {a0 : Option (Nat × Nat)} {a1 : Int} {h : Heap} {R : Int → Int → Heap → Prop} (hv : vc79 a0 a1 h R) : Call Go.Proofs.Try.prog 79 [.lf (.ptr a0), .lf (.int .i64 a1)] h [.one (.int .u64), .one (.int .i64)] R := call_eq hng hmix Go.Proofs.Try.func79 (eq79 a0 a1 h R) hv
/- 80: (*sediment.sedimentref11.Cache).Drop (c, key) -/
def pl80 : Plan := {
  blk := fun _ => none
  seq := fun _ => none
  loop := fun _ => none
  live := fun | 0 => some [0, 1] | 1 => some [0, 1, 5] | 2 => some [0, 1, 5, 10] | 3 => some [4] | 4 => some [] | 5 => some [4] | _ => none
  track := fun | _ => false
  draw := fun | _ => .done
  iter := fun | _ => none }
def vc80 (a0 : Option (Nat × Nat)) (a1 : ByteArray) (h : Heap) (R : Bool → Heap → Prop) : Prop :=
  Call Go.Proofs.Try.prog 112 [VV.lf (Lf.ptr a0), VV.lf (Lf.str a1)] h [VT.one LT.ptr] fun (p0 : Option (Nat × Nat)) (h1 : Heap) =>
    Br (Option.isNone p0) (R Bool.false h1)
      (Call Go.Proofs.Try.prog 26 [VV.lf (Lf.ptr a0), VV.lf (Lf.str a1)] h1 [VT.one (LT.int IntKind.i64)] fun (i2 : Int) (h3 : Heap) =>
        Call Go.Proofs.Try.prog 113 [VV.lf (Lf.ptr a0), VV.lf (Lf.int IntKind.i64 i2), VV.lf (Lf.ptr p0)] h3 [] fun (h4 : Heap) => R Bool.true h4)
theorem eq80 (a0 : Option (Nat × Nat)) (a1 : ByteArray) (h : Heap) (R : Bool → Heap → Prop) : vc80 a0 a1 h R = vcFn Go.Proofs.Try.prog pl80 Go.Proofs.Try.f80 [.lf (.ptr a0), .lf (.str a1)] h [.one .bool] R := by kernel_rfl
theorem ok80 {a0 : Option (Nat × Nat)} {a1 : ByteArray} {h : Heap} {R : Bool → Heap → Prop} (hv : vc80 a0 a1 h R) : Call Go.Proofs.Try.prog 80 [.lf (.ptr a0), .lf (.str a1)] h [.one .bool] R := call_eq hng hmix Go.Proofs.Try.func80 (eq80 a0 a1 h R) hv
/- 81: (*sediment.sedimentref11.Cache).Room (c, room) · loop 2: s -/
def pl81 : Plan := {
  blk := fun _ => none
  seq := fun _ => none
  loop := fun | 2 => some ⟨[(4, .one (.int .i64))], [], []⟩ | _ => none
  live := fun | 0 => some [0] | 1 => some [0, 4] | 2 => some [0, 4, 14] | 3 => some [0, 4] | 4 => some [0, 4] | _ => none
  track := fun | _ => false
  draw := fun | _ => .done
  iter := fun | _ => none }
def vc81 (a0 : Option (Nat × Nat)) (a1 : Int) (h : Heap) (R : Heap → Prop) : Prop :=
  NilC a0 fun (b0 b1 : Nat) =>
    StC h b0 (b1 + 1) [Lf.int IntKind.u64 a1] fun (h2 : Heap) =>
      ∃ (I3 : Int → Heap → Nat → Prop),
        (∃ (b4 : Nat), I3 (0 : Int) h2 b4) ∧
          ∀ (i5 : Int) (h6 : Heap) (b7 : Nat),
            I3 i5 h6 b7 →
              NilC a0 fun (b8 b9 : Nat) =>
                ∃ (i10 : Int),
                  cellsAt h6 b8 (b9 + 0) [Lf.int IntKind.i64 i10] ∧
                    Br (Decidable.decide (i5 < i10))
                      (Call Go.Proofs.Try.prog 109 [VV.lf (Lf.ptr a0), VV.lf (Lf.int IntKind.i64 i5), VV.lf (Lf.int IntKind.u64 (0 : Int))] h6 []
                        fun (h11 : Heap) => ∃ (b12 : Nat), b12 < b7 ∧ I3 (IntKind.wrap IntKind.i64 (i5 + (1 : Int))) h11 b12)
                      (R h6)
theorem eq81 (a0 : Option (Nat × Nat)) (a1 : Int) (h : Heap) (R : Heap → Prop) : vc81 a0 a1 h R = vcFn Go.Proofs.Try.prog pl81 Go.Proofs.Try.f81 [.lf (.ptr a0), .lf (.int .u64 a1)] h [] R := by kernel_rfl
theorem ok81 {a0 : Option (Nat × Nat)} {a1 : Int} {h : Heap} {R : Heap → Prop} (hv : vc81 a0 a1 h R) : Call Go.Proofs.Try.prog 81 [.lf (.ptr a0), .lf (.int .u64 a1)] h [] R := call_eq hng hmix Go.Proofs.Try.func81 (eq81 a0 a1 h R) hv
/- 82: (*sediment.sedimentref11.Cache).Sums () · loop 3: #5, #6, #7, #8 · loop 6: #5, #6, #7, #9 -/
def pl82 : Plan := {
  blk := fun _ => none
  seq := fun _ => none
  loop := fun | 3 => some ⟨[(5, .one (.int .u64)), (6, .one (.int .u64)), (7, .one (.int .i64)), (8, .one (.int .i64))], [], []⟩ | 6 => some ⟨[(5, .one (.int .u64)), (6, .one (.int .u64)), (7, .one (.int .i64)), (9, .one (.int .i64))], [], []⟩ | _ => none
  live := fun | 0 => some [0] | 1 => some [0, 5, 6, 7] | 2 => some [0, 5, 6, 7, 8] | 3 => some [0, 5, 6, 7, 8, 16] | 4 => some [0, 5, 6, 7, 8] | 5 => some [0, 5, 6, 7, 8, 9] | 6 => some [0, 5, 6, 7, 8, 9, 28] | 7 => some [0, 5, 6, 7, 8, 9] | 8 => some [0, 5, 6, 7, 8, 9, 10] | 9 => some [0, 5, 6, 7, 8, 9, 10] | 10 => some [0, 5, 6, 7, 8, 9, 10, 51] | 11 => some [0, 5, 6, 7, 8, 9, 10] | 12 => some [0, 5, 6, 7, 8, 9, 61] | 13 => some [0, 5, 6, 7, 8, 9] | 14 => some [2, 3, 4] | _ => none
  track := fun | _ => false
  draw := fun | _ => .done
  iter := fun | _ => none }
def vc82 (a0 : Option (Nat × Nat)) (h : Heap) (R : Int → Int → Int → Heap → Prop) : Prop :=
  ∃ (I0 : Int → Int → Int → Int → Heap → Nat → Prop),
    (∃ (b1 : Nat), I0 (0 : Int) (0 : Int) (0 : Int) (0 : Int) h b1) ∧
      ∀ (i2 i3 i4 i5 : Int) (h6 : Heap) (b7 : Nat),
        I0 i2 i3 i4 i5 h6 b7 →
          NilC a0 fun (b8 b9 : Nat) =>
            ∃ (i10 : Int),
              cellsAt h6 b8 (b9 + 0) [Lf.int IntKind.i64 i10] ∧
                Br (Decidable.decide (i5 < i10))
                  (∃ (I11 : Int → Int → Int → Int → Heap → Nat → Prop),
                    (∃ (b12 : Nat), I11 i2 i3 i4 (0 : Int) h6 b12) ∧
                      ∀ (i13 i14 i15 i16 : Int) (h17 : Heap) (b18 : Nat),
                        I11 i13 i14 i15 i16 h17 b18 →
                          NilC a0 fun (b19 b20 : Nat) =>
                            ∃ (s21 : Slc),
                              cellsAt h17 b19 (b20 + 3) [Lf.slc s21] ∧
                                IxC s21 i5 1 fun (b22 b23 : Nat) =>
                                  ∃ (s24 : Slc),
                                    cellsAt h17 b22 b23 [Lf.slc s24] ∧
                                      Br (Decidable.decide (i16 < (↑(Slc.len s24) : Int)))
                                        (NilC a0 fun (b25 b26 : Nat) =>
                                          ∃ (s27 : Slc),
                                            cellsAt h17 b25 (b26 + 3) [Lf.slc s27] ∧
                                              IxC s27 i5 1 fun (b28 b29 : Nat) =>
                                                ∃ (s30 : Slc),
                                                  cellsAt h17 b28 b29 [Lf.slc s30] ∧
                                                    IxC s30 i16 1 fun (b31 b32 : Nat) =>
                                                      ∃ (p33 : Option (Nat × Nat)),
                                                        cellsAt h17 b31 b32 [Lf.ptr p33] ∧
                                                          NilC p33 fun (b34 b35 : Nat) =>
                                                            ∃ (i36 : Int),
                                                              cellsAt h17 b34 (b35 + 2) [Lf.int IntKind.u64 i36] ∧
                                                                Call Go.Proofs.Try.prog 110 [VV.lf (Lf.int IntKind.u64 i13), VV.lf (Lf.int IntKind.u64 i36)] h17
                                                                  [VT.one (LT.int IntKind.u64)] fun (i37 : Int) (h38 : Heap) =>
                                                                  NilC p33 fun (b39 b40 : Nat) =>
                                                                    ∃ (i41 : Int),
                                                                      cellsAt h38 b39 (b40 + 4) [Lf.int IntKind.i64 i41] ∧
                                                                        Br (Decidable.decide (i41 > (0 : Int)))
                                                                          (NilC p33 fun (b42 b43 : Nat) =>
                                                                            ∃ (i44 : Int),
                                                                              cellsAt h38 b42 (b43 + 2) [Lf.int IntKind.u64 i44] ∧
                                                                                Call Go.Proofs.Try.prog 110
                                                                                  [VV.lf (Lf.int IntKind.u64 i14), VV.lf (Lf.int IntKind.u64 i44)] h38
                                                                                  [VT.one (LT.int IntKind.u64)] fun (i45 : Int) (h46 : Heap) =>
                                                                                  NilC p33 fun (b47 b48 : Nat) =>
                                                                                    ∃ (c49 : Bool),
                                                                                      cellsAt h46 b47 (b48 + 3) [Lf.bool c49] ∧
                                                                                        Br c49
                                                                                          (∃ (b50 : Nat),
                                                                                            b50 < b18 ∧
                                                                                              I11 i37 i45 (IntKind.wrap IntKind.i64 (i15 + (1 : Int)))
                                                                                                (IntKind.wrap IntKind.i64 (i16 + (1 : Int))) h46 b50)
                                                                                          (∃ (b51 : Nat), b51 < b18 ∧ I11 i37 i45 i15 (IntKind.wrap IntKind.i64 (i16 + (1 : Int))) h46 b51))
                                                                          (NilC p33 fun (b52 b53 : Nat) =>
                                                                            ∃ (c54 : Bool),
                                                                              cellsAt h38 b52 (b53 + 3) [Lf.bool c54] ∧
                                                                                Br c54
                                                                                  (∃ (b55 : Nat),
                                                                                    b55 < b18 ∧
                                                                                      I11 i37 i14 (IntKind.wrap IntKind.i64 (i15 + (1 : Int))) (IntKind.wrap IntKind.i64 (i16 + (1 : Int)))
                                                                                        h38 b55)
                                                                                  (∃ (b56 : Nat), b56 < b18 ∧ I11 i37 i14 i15 (IntKind.wrap IntKind.i64 (i16 + (1 : Int))) h38 b56)))
                                        (∃ (b57 : Nat), b57 < b7 ∧ I0 i13 i14 i15 (IntKind.wrap IntKind.i64 (i5 + (1 : Int))) h17 b57))
                  (R i2 i3 i4 h6)
theorem eq82 (a0 : Option (Nat × Nat)) (h : Heap) (R : Int → Int → Int → Heap → Prop) : vc82 a0 h R = vcFn Go.Proofs.Try.prog pl82 Go.Proofs.Try.f82 [.lf (.ptr a0)] h [.one (.int .u64), .one (.int .u64), .one (.int .i64)] R := by kernel_rfl
theorem ok82 {a0 : Option (Nat × Nat)} {h : Heap} {R : Int → Int → Int → Heap → Prop} (hv : vc82 a0 h R) : Call Go.Proofs.Try.prog 82 [.lf (.ptr a0)] h [.one (.int .u64), .one (.int .u64), .one (.int .i64)] R := call_eq hng hmix Go.Proofs.Try.func82 (eq82 a0 h R) hv
end Go.V.Yteojmnnobmpdiaa
set_option linter.unusedVariables false
set_option maxRecDepth 100000
namespace Go.V.Yteojmnnobmpdiaa
open Go Go.V
/- 25: sediment.sedimentlaw11.does () -/
def pl25 : Plan := {
  blk := fun _ => none
  seq := fun _ => none
  loop := fun _ => none
  live := fun | 0 => some [0, 1, 5] | 1 => some [0, 1, 5, 7] | 2 => some [0, 1, 5, 7, 31] | 3 => some [0, 1, 5, 7, 31, 32] | 4 => some [1, 5, 8, 9] | 5 => some [8, 9, 10, 11] | 6 => some [6] | 7 => some [0, 1, 5, 7, 31, 64] | 8 => some [1, 5, 12, 13, 14] | 9 => some [12, 13, 14, 15, 16, 17] | 10 => some [6] | 11 => some [0, 1, 5, 7, 31, 95] | 12 => some [6] | 13 => some [0, 1, 5, 7, 31, 104] | 14 => some [1, 7, 18, 19] | 15 => some [18, 19, 20, 21] | 16 => some [6] | 17 => some [0, 1, 5, 31, 126] | 18 => some [6] | 19 => some [0, 1, 5, 137] | 20 => some [1, 5] | 21 => some [] | 22 => some [6] | _ => none
  track := fun | 5 => true | _ => false
  draw := fun | 1 => .still 0 (.still 1 (.still 2 (.still 3 (.still 4 (.still 5 (.still 6 (.still 7 (.still 8 (.done))))))))) | 18 => .still 0 (.still 1 (.still 2 (.still 4 (.still 5 (.still 6 (.mem 3 (.mem 7 (.still 8 (.still 9 (.done)))))))))) | _ => .done
  iter := fun | _ => none }
def vc25 (a0 : Option (Nat × Nat)) (a1 : Option (Nat × Nat)) (a2 : Int) (a3 : Int) (a4 : ByteArray) (a5 : Int) (a6 : Int) (h : Heap) (R : Bool → Heap → Prop) : Prop :=
  New 33 [Lf.int IntKind.i64 a2, Lf.int IntKind.i64 a3, Lf.str a4, Lf.int IntKind.u64 a5, Lf.int IntKind.u64 a6] h fun (b0 : Nat) (h1 : Heap) =>
    NilC a1 fun (b2 b3 : Nat) =>
      ∃ (s4 : Slc),
        cellsAt h1 b2 (b3 + 5) [Lf.slc s4] ∧
          Br (a2 == (0 : Int))
            (Call Go.Proofs.Try.prog 14 [VV.lf (Lf.ptr a0), VV.lf (Lf.str a4), VV.lf (Lf.int IntKind.u64 a5), VV.lf (Lf.int IntKind.u64 a6)] h1
              [VT.one (LT.int IntKind.i64), VT.one (LT.int IntKind.i64)] fun (i5 i6 : Int) (h7 : Heap) =>
              keepB h1 h7 [b0] ∧
                Call Go.Proofs.Try.prog 76 [VV.lf (Lf.ptr a1), VV.lf (Lf.str a4), VV.lf (Lf.int IntKind.u64 a5), VV.lf (Lf.int IntKind.u64 a6)]
                  h7 [VT.one (LT.int IntKind.i64), VT.one (LT.int IntKind.i64)] fun (i8 i9 : Int) (h10 : Heap) =>
                  keepB h7 h10 [b0] ∧ Br (i5 == i8) (R (i6 == i9) h10) (R Bool.false h10))
            (Br (a2 == (1 : Int))
              (Call Go.Proofs.Try.prog 20 [VV.lf (Lf.ptr a0), VV.lf (Lf.str a4)] h1
                [VT.one (LT.int IntKind.i64), VT.one (LT.int IntKind.u64), VT.one LT.bool] fun (i11 i12 : Int) (c13 : Bool) (h14 : Heap) =>
                keepB h1 h14 [b0] ∧
                  Call Go.Proofs.Try.prog 77 [VV.lf (Lf.ptr a1), VV.lf (Lf.str a4)] h14
                    [VT.one (LT.int IntKind.i64), VT.one (LT.int IntKind.u64), VT.one LT.bool] fun (i15 i16 : Int) (c17 : Bool) (h18 : Heap) =>
                    keepB h14 h18 [b0] ∧ Br (i11 == i15) (Br (i12 == i16) (R (c13 == c17) h18) (R Bool.false h18)) (R Bool.false h18))
              (Br (a2 == (2 : Int))
                (Call Go.Proofs.Try.prog 16 [VV.lf (Lf.ptr a0), VV.lf (Lf.int IntKind.i64 (IntKind.wrap IntKind.i64 ((↑(Slc.len s4) : Int) - a3)))] h1
                  [VT.one (LT.int IntKind.i64)] fun (i19 : Int) (h20 : Heap) =>
                  keepB h1 h20 [b0] ∧
                    Call Go.Proofs.Try.prog 78 [VV.lf (Lf.ptr a1), VV.lf (Lf.int IntKind.i64 (IntKind.wrap IntKind.i64 ((↑(Slc.len s4) : Int) - a3)))] h20
                      [VT.one (LT.int IntKind.i64)] fun (i21 : Int) (h22 : Heap) => keepB h20 h22 [b0] ∧ R (i19 == i21) h22)
                (Br (a2 == (3 : Int))
                  (Call Go.Proofs.Try.prog 23 [VV.lf (Lf.ptr a0), VV.lf (Lf.int IntKind.i64 (IntKind.wrap IntKind.i64 ((↑(Slc.len s4) : Int) - a3)))] h1
                    [VT.one (LT.int IntKind.u64), VT.one (LT.int IntKind.i64)] fun (i23 i24 : Int) (h25 : Heap) =>
                    keepB h1 h25 [b0] ∧
                      Call Go.Proofs.Try.prog 79 [VV.lf (Lf.ptr a1), VV.lf (Lf.int IntKind.i64 (IntKind.wrap IntKind.i64 ((↑(Slc.len s4) : Int) - a3)))]
                        h25 [VT.one (LT.int IntKind.u64), VT.one (LT.int IntKind.i64)] fun (i26 i27 : Int) (h28 : Heap) =>
                        Br (i23 == i26) (R (i24 == i27) h28) (R Bool.false h28))
                  (Br (a2 == (4 : Int))
                    (Call Go.Proofs.Try.prog 21 [VV.lf (Lf.ptr a0), VV.lf (Lf.str a4)] h1 [VT.one LT.bool] fun (c29 : Bool) (h30 : Heap) =>
                      keepB h1 h30 [b0] ∧
                        Call Go.Proofs.Try.prog 80 [VV.lf (Lf.ptr a1), VV.lf (Lf.str a4)] h30 [VT.one LT.bool] fun (c31 : Bool) (h32 : Heap) =>
                          keepB h30 h32 [b0] ∧ R (c29 == c31) h32)
                    (Br (a2 == (5 : Int))
                      (Call Go.Proofs.Try.prog 22 [VV.lf (Lf.ptr a0), VV.lf (Lf.int IntKind.u64 a6)] h1 [] fun (h33 : Heap) =>
                        keepB h1 h33 [b0] ∧
                          Call Go.Proofs.Try.prog 81 [VV.lf (Lf.ptr a1), VV.lf (Lf.int IntKind.u64 a6)] h33 [] fun (h34 : Heap) =>
                            keepB h33 h34 [b0] ∧ R Bool.true h34)
                      (R Bool.true h1))))))
theorem eq25 (a0 : Option (Nat × Nat)) (a1 : Option (Nat × Nat)) (a2 : Int) (a3 : Int) (a4 : ByteArray) (a5 : Int) (a6 : Int) (h : Heap) (R : Bool → Heap → Prop) : vc25 a0 a1 a2 a3 a4 a5 a6 h R = vcFn Go.Proofs.Try.prog pl25 Go.Proofs.Try.f25 [.lf (.ptr a0), .lf (.ptr a1), .agg [.int .i64 a2, .int .i64 a3, .str a4, .int .u64 a5, .int .u64 a6]] h [.one .bool] R := by kernel_rfl
theorem ok25 {a0 : Option (Nat × Nat)} {a1 : Option (Nat × Nat)} {a2 : Int} {a3 : Int} {a4 : ByteArray} {a5 : Int} {a6 : Int} {h : Heap} {R : Bool → Heap → Prop} (hv : vc25 a0 a1 a2 a3 a4 a5 a6 h R) : Call Go.Proofs.Try.prog 25 [.lf (.ptr a0), .lf (.ptr a1), .agg [.int .i64 a2, .int .i64 a3, .str a4, .int .u64 a5, .int .u64 a6]] h [.one .bool] R := call_eq hng hmix Go.Proofs.Try.func25 (eq25 a0 a1 a2 a3 a4 a5 a6 h R) hv
/- 27: sediment.sedimentlaw11.tells () · seq 3: #48 · loop 5: #8 · loop 11: #10 -/
def pl27 : Plan := {
  blk := fun _ => none
  seq := fun | 3 => some ⟨[(48, .one .bool)], [], []⟩ | _ => none
  loop := fun | 5 => some ⟨[(8, .one (.int .i64))], [], []⟩ | 11 => some ⟨[(10, .one (.int .i64))], [], []⟩ | _ => none
  live := fun | 0 => some [0, 1] | 1 => some [0, 1, 5, 6, 7] | 2 => some [0, 1, 48] | 3 => some [4] | 4 => some [0, 1, 8] | 5 => some [0, 1, 8, 54] | 6 => some [0, 1, 8] | 7 => some [0, 1, 8, 9] | 8 => some [0, 1, 8, 9, 70] | 9 => some [4] | 10 => some [0, 1, 8, 9, 10] | 11 => some [0, 1, 8, 9, 10, 74] | 12 => some [0, 1, 8, 9, 10] | 13 => some [0, 1, 8, 9, 10, 94] | 14 => some [4] | 15 => some [4] | _ => none
  track := fun | _ => false
  draw := fun | 13 => .still 0 (.still 1 (.still 2 (.still 3 (.still 4 (.still 5 (.still 6 (.still 7 (.still 8 (.still 9 (.still 10 (.still 11 (.still 12 (.still 13 (.still 14 (.still 15 (.still 16 (.still 17 (.done)))))))))))))))))) | _ => .done
  iter := fun | _ => none }
def vc27 (a0 : Option (Nat × Nat)) (a1 : Option (Nat × Nat)) (h : Heap) (R : Bool → Heap → Prop) : Prop :=
  Call Go.Proofs.Try.prog 82 [VV.lf (Lf.ptr a1)] h [VT.one (LT.int IntKind.u64), VT.one (LT.int IntKind.u64), VT.one (LT.int IntKind.i64)]
    fun (i0 i1 i2 : Int) (h3 : Heap) =>
    ∃ (I4 : Bool → Heap → Prop),
      (Call Go.Proofs.Try.prog 15 [VV.lf (Lf.ptr a0)] h3 [VT.one (LT.int IntKind.u64)] fun (i5 : Int) (h6 : Heap) =>
          Br (i5 != i0) (I4 Bool.true h6)
            (Call Go.Proofs.Try.prog 17 [VV.lf (Lf.ptr a0)] h6 [VT.one (LT.int IntKind.u64)] fun (i7 : Int) (h8 : Heap) =>
              Br (i7 != i1) (I4 Bool.true h8)
                (Call Go.Proofs.Try.prog 83 [VV.lf (Lf.ptr a0)] h8 [VT.one (LT.int IntKind.i64)] fun (i9 : Int) (h10 : Heap) =>
                  Br (i9 != i2) (I4 Bool.true h10)
                    (Call Go.Proofs.Try.prog 19 [VV.lf (Lf.ptr a0), VV.lf (Lf.int IntKind.i64 (-1 : Int))] h10 [VT.one LT.slc]
                      fun (s11 : Slc) (h12 : Heap) =>
                      Br ((↑(Slc.len s11) : Int) != (0 : Int)) (I4 Bool.true h12)
                        (NilC a1 fun (b13 b14 : Nat) =>
                          ∃ (i15 : Int),
                            cellsAt h12 b13 (b14 + 0) [Lf.int IntKind.i64 i15] ∧
                              Call Go.Proofs.Try.prog 19 [VV.lf (Lf.ptr a0), VV.lf (Lf.int IntKind.i64 i15)] h12 [VT.one LT.slc]
                                fun (s16 : Slc) (h17 : Heap) => I4 ((↑(Slc.len s16) : Int) != (0 : Int)) h17))))) ∧
        ∀ (c18 : Bool) (h19 : Heap),
          I4 c18 h19 →
            Br c18 (R Bool.false h19)
              (∃ (I20 : Int → Heap → Nat → Prop),
                (∃ (b21 : Nat), I20 (0 : Int) h19 b21) ∧
                  ∀ (i22 : Int) (h23 : Heap) (b24 : Nat),
                    I20 i22 h23 b24 →
                      NilC a1 fun (b25 b26 : Nat) =>
                        ∃ (i27 : Int),
                          cellsAt h23 b25 (b26 + 0) [Lf.int IntKind.i64 i27] ∧
                            Br (Decidable.decide (i22 < i27))
                              (Call Go.Proofs.Try.prog 19 [VV.lf (Lf.ptr a0), VV.lf (Lf.int IntKind.i64 i22)] h23 [VT.one LT.slc]
                                fun (s28 : Slc) (h29 : Heap) =>
                                NilC a1 fun (b30 b31 : Nat) =>
                                  ∃ (s32 : Slc),
                                    cellsAt h29 b30 (b31 + 4) [Lf.slc s32] ∧
                                      IxC s32 i22 1 fun (b33 b34 : Nat) =>
                                        ∃ (s35 : Slc),
                                          cellsAt h29 b33 b34 [Lf.slc s35] ∧
                                            Br ((↑(Slc.len s28) : Int) != (↑(Slc.len s35) : Int)) (R Bool.false h29)
                                              (∃ (I36 : Int → Heap → Nat → Prop),
                                                (∃ (b37 : Nat), I36 (0 : Int) h29 b37) ∧
                                                  ∀ (i38 : Int) (h39 : Heap) (b40 : Nat),
                                                    I36 i38 h39 b40 →
                                                      Br (Decidable.decide (i38 < (↑(Slc.len s28) : Int)))
                                                        (IxC s28 i38 1 fun (b41 b42 : Nat) =>
                                                          ∃ (t43 : ByteArray),
                                                            cellsAt h39 b41 b42 [Lf.str t43] ∧
                                                              NilC a1 fun (b44 b45 : Nat) =>
                                                                ∃ (s46 : Slc),
                                                                  cellsAt h39 b44 (b45 + 4) [Lf.slc s46] ∧
                                                                    IxC s46 i22 1 fun (b47 b48 : Nat) =>
                                                                      ∃ (s49 : Slc),
                                                                        cellsAt h39 b47 b48 [Lf.slc s49] ∧
                                                                          IxC s49 i38 1 fun (b50 b51 : Nat) =>
                                                                            ∃ (p52 : Option (Nat × Nat)),
                                                                              cellsAt h39 b50 b51 [Lf.ptr p52] ∧
                                                                                NilC p52 fun (b53 b54 : Nat) =>
                                                                                  ∃ (t55 : ByteArray),
                                                                                    cellsAt h39 b53 (b54 + 0) [Lf.str t55] ∧
                                                                                      Br (!strEq t43 t55) (R Bool.false h39)
                                                                                        (∃ (b56 : Nat), b56 < b40 ∧ I36 (IntKind.wrap IntKind.i64 (i38 + (1 : Int))) h39 b56))
                                                        (∃ (b57 : Nat), b57 < b24 ∧ I20 (IntKind.wrap IntKind.i64 (i22 + (1 : Int))) h39 b57)))
                              (R Bool.true h23))
theorem eq27 (a0 : Option (Nat × Nat)) (a1 : Option (Nat × Nat)) (h : Heap) (R : Bool → Heap → Prop) : vc27 a0 a1 h R = vcFn Go.Proofs.Try.prog pl27 Go.Proofs.Try.f27 [.lf (.ptr a0), .lf (.ptr a1)] h [.one .bool] R := by kernel_rfl
theorem ok27 {a0 : Option (Nat × Nat)} {a1 : Option (Nat × Nat)} {h : Heap} {R : Bool → Heap → Prop} (hv : vc27 a0 a1 h R) : Call Go.Proofs.Try.prog 27 [.lf (.ptr a0), .lf (.ptr a1)] h [.one .bool] R := call_eq hng hmix Go.Proofs.Try.func27 (eq27 a0 a1 h R) hv
end Go.V.Yteojmnnobmpdiaa
set_option linter.unusedVariables false
set_option maxRecDepth 100000
namespace Go.V.Yteojmnnobmpdiaa
open Go Go.V
/- 6: sediment.sedimentlaw11.CacheActs () · seq 4: #39 · loop 8: #9 -/
def pl6 : Plan := {
  blk := fun _ => none
  seq := fun | 4 => some ⟨[(39, .one .bool)], [], [0]⟩ | _ => none
  loop := fun | 8 => some ⟨[(9, .one (.int .i64))], [], [0]⟩ | _ => none
  live := fun | 0 => some [1, 2] | 1 => some [1, 2, 5, 6] | 2 => some [1, 5, 6, 7, 8] | 3 => some [1, 5, 7, 39] | 4 => some [4] | 5 => some [1, 5, 7, 41] | 6 => some [4] | 7 => some [1, 5, 7, 9] | 8 => some [1, 5, 7, 9, 46] | 9 => some [1, 5, 7, 9] | 10 => some [1, 5, 7, 9, 84] | 11 => some [4] | 12 => some [4] | _ => none
  track := fun | 2 => true | _ => false
  draw := fun | 10 => .still 0 (.still 1 (.still 2 (.still 3 (.still 4 (.still 5 (.mem 6 (.still 7 (.still 8 (.still 9 (.still 10 (.still 11 (.still 12 (.still 13 (.still 14 (.still 16 (.still 17 (.still 18 (.still 19 (.still 20 (.still 21 (.mem 15 (.mem 22 (.still 23 (.still 24 (.still 25 (.still 26 (.still 27 (.still 28 (.still 29 (.still 30 (.still 31 (.mem 32 (.still 33 (.still 34 (.still 35 (.done)))))))))))))))))))))))))))))))))))) | _ => .done
  iter := fun | _ => none }
def vc6 (a0 : Int) (a1 : Int) (a2 : Bool) (a3 : Slc) (h : Heap) (R : Bool → Heap → Prop) : Prop :=
  New 24 [Lf.int IntKind.i64 a0, Lf.int IntKind.u64 a1, Lf.bool a2] h fun (b0 : Nat) (h1 : Heap) =>
    Call Go.Proofs.Try.prog 12 [VV.lf (Lf.int IntKind.i64 a0), VV.lf (Lf.int IntKind.u64 a1), VV.lf (Lf.bool a2)] h1
      [VT.one LT.ptr, VT.one (LT.int IntKind.i64)] fun (p2 : Option (Nat × Nat)) (i3 : Int) (h4 : Heap) =>
      keepB h1 h4 [b0] ∧
        Call Go.Proofs.Try.prog 24 [VV.lf (Lf.int IntKind.i64 a0), VV.lf (Lf.int IntKind.u64 a1), VV.lf (Lf.bool a2)] h4
          [VT.one LT.ptr, VT.one (LT.int IntKind.i64)] fun (p5 : Option (Nat × Nat)) (i6 : Int) (h7 : Heap) =>
          keepB h4 h7 [b0] ∧
            ∃ (I8 : Bool → Heap → Prop),
              Br (i3 != i6) (I8 Bool.true h7) (I8 (!Option.isNone p2 == Option.isNone p5) h7) ∧
                ∀ (c9 : Bool) (h10 : Heap),
                  I8 c9 h10 →
                    Br c9 (R Bool.false h10)
                      (Br (Option.isNone p2) (Call Go.Proofs.Try.prog 13 [] h10 [VT.one LT.bool] fun (c11 : Bool) (h12 : Heap) => R c11 h12)
                        (∃ (I13 : Int → Heap → Nat → Prop),
                          (∃ (b14 : Nat), I13 (0 : Int) h10 b14) ∧
                            ∀ (i15 : Int) (h16 : Heap) (b17 : Nat),
                              I13 i15 h16 b17 →
                                Br (Decidable.decide (i15 < (↑(Slc.len a3) : Int)))
                                  (IxC a3 i15 5 fun (b18 b19 : Nat) =>
                                    ∃ (i20 : Int),
                                      ∃ (i21 : Int),
                                        ∃ (t22 : ByteArray),
                                          ∃ (i23 : Int),
                                            ∃ (i24 : Int),
                                              cellsAt h16 b18 b19
                                                  [Lf.int IntKind.i64 i20, Lf.int IntKind.i64 i21, Lf.str t22, Lf.int IntKind.u64 i23, Lf.int IntKind.u64 i24] ∧
                                                Call Go.Proofs.Try.prog 25
                                                  [VV.lf (Lf.ptr p2), VV.lf (Lf.ptr p5),
                                                    VV.agg
                                                      [Lf.int IntKind.i64 i20, Lf.int IntKind.i64 i21, Lf.str t22, Lf.int IntKind.u64 i23, Lf.int IntKind.u64 i24]]
                                                  h16 [VT.one LT.bool] fun (c25 : Bool) (h26 : Heap) =>
                                                  Br (!c25) (R Bool.false h26)
                                                    (IxC a3 i15 5 fun (b27 b28 : Nat) =>
                                                      ∃ (t29 : ByteArray),
                                                        cellsAt h26 b27 (b28 + 2) [Lf.str t29] ∧
                                                          IxC a3 i15 5 fun (b30 b31 : Nat) =>
                                                            ∃ (t32 : ByteArray),
                                                              cellsAt h26 b30 (b31 + 2) [Lf.str t32] ∧
                                                                Call Go.Proofs.Try.prog 18 [VV.lf (Lf.ptr p2), VV.lf (Lf.str t29)] h26
                                                                  [VT.one (LT.int IntKind.i64)] fun (i33 : Int) (h34 : Heap) =>
                                                                  cellsAt h34 b30 (b31 + 2) [Lf.str t32] ∧
                                                                    Call Go.Proofs.Try.prog 26 [VV.lf (Lf.ptr p5), VV.lf (Lf.str t32)] h34
                                                                      [VT.one (LT.int IntKind.i64)] fun (i35 : Int) (h36 : Heap) =>
                                                                      Br (i33 != i35) (R Bool.false h36)
                                                                        (((4 : Int) = (0 : Int) → False) ∧
                                                                          Br (Int.tmod i15 (4 : Int) == (3 : Int))
                                                                            (Call Go.Proofs.Try.prog 27 [VV.lf (Lf.ptr p2), VV.lf (Lf.ptr p5)] h36
                                                                              [VT.one LT.bool] fun (c37 : Bool) (h38 : Heap) =>
                                                                              Br (!c37) (R Bool.false h38)
                                                                                (∃ (b39 : Nat), b39 < b17 ∧ I13 (IntKind.wrap IntKind.i64 (i15 + (1 : Int))) h38 b39))
                                                                            (∃ (b40 : Nat), b40 < b17 ∧ I13 (IntKind.wrap IntKind.i64 (i15 + (1 : Int))) h36 b40))))
                                  (Call Go.Proofs.Try.prog 27 [VV.lf (Lf.ptr p2), VV.lf (Lf.ptr p5)] h16 [VT.one LT.bool]
                                    fun (c41 : Bool) (h42 : Heap) =>
                                    Br c41 (Call Go.Proofs.Try.prog 13 [] h42 [VT.one LT.bool] fun (c43 : Bool) (h44 : Heap) => R c43 h44) (R Bool.false h42))))
theorem eq6 (a0 : Int) (a1 : Int) (a2 : Bool) (a3 : Slc) (h : Heap) (R : Bool → Heap → Prop) : vc6 a0 a1 a2 a3 h R = vcFn Go.Proofs.Try.prog pl6 Go.Proofs.Try.f6 [.agg [.int .i64 a0, .int .u64 a1, .bool a2], .lf (.slc a3)] h [.one .bool] R := by kernel_rfl
theorem ok6 {a0 : Int} {a1 : Int} {a2 : Bool} {a3 : Slc} {h : Heap} {R : Bool → Heap → Prop} (hv : vc6 a0 a1 a2 a3 h R) : Call Go.Proofs.Try.prog 6 [.agg [.int .i64 a0, .int .u64 a1, .bool a2], .lf (.slc a3)] h [.one .bool] R := call_eq hng hmix Go.Proofs.Try.func6 (eq6 a0 a1 a2 a3 h R) hv
end Go.V.Yteojmnnobmpdiaa
