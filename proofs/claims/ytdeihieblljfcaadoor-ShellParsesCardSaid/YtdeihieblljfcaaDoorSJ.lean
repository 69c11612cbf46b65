/- This text proves a part of the laws of seat YtdeihieblljfcaaDoor, under no condition: S1a. -/
import Derived.Test.YtdeihieblljfcaaDoorSC
import Derived.Eval
import Derived.Test.YtdeihieblljfcaaDoorChecked
import Derived.Test.YtdeihieblljfcaaDoorSE
set_option linter.unusedVariables false
set_option maxRecDepth 100000
namespace Go.V.YtdeihieblljfcaaDoor
open Go Go.V
/- 5: sediment.sedimentlaw30.ShellParses () · seq 4: #40 · seq 9: #85 · loop 6: #9 · loop 11: #10 -/
def pl5 : Plan := {
  blk := fun _ => none
  seq := fun | 4 => some ⟨[(40, .one .bool)], [], []⟩ | 9 => some ⟨[(85, .one .bool)], [], []⟩ | _ => none
  loop := fun | 6 => some ⟨[(9, .one (.int .i64))], [], []⟩ | 11 => some ⟨[(10, .one (.int .i64))], [], []⟩ | _ => none
  live := fun | 0 => some [0] | 1 => some [0, 3, 4, 5] | 2 => some [3, 4, 5, 6, 7, 8] | 3 => some [3, 6, 40] | 4 => some [2] | 5 => some [3, 6, 9] | 6 => some [3, 6, 9, 44] | 7 => some [3, 6, 9] | 8 => some [3, 6, 9, 85] | 9 => some [2] | 10 => some [3, 6, 9, 10] | 11 => some [3, 6, 9, 10, 93] | 12 => some [3, 6, 9, 10] | 13 => some [3, 6, 9, 10, 112] | 14 => some [2] | 15 => some [11, 13] | 16 => some [2] | _ => none
  track := fun | _ => false
  draw := fun | 8 => .still 0 (.still 1 (.still 2 (.still 3 (.still 4 (.still 5 (.still 6 (.still 7 (.still 8 (.still 9 (.still 10 (.still 11 (.still 12 (.still 13 (.still 14 (.still 15 (.still 16 (.still 17 (.still 18 (.still 19 (.still 20 (.still 21 (.still 22 (.still 23 (.still 24 (.still 25 (.still 26 (.still 27 (.still 28 (.still 29 (.still 30 (.still 31 (.still 32 (.still 33 (.still 34 (.still 35 (.still 36 (.still 37 (.still 38 (.done))))))))))))))))))))))))))))))))))))))) | 13 => .still 0 (.still 1 (.still 2 (.still 3 (.still 4 (.still 5 (.still 6 (.still 7 (.still 8 (.still 9 (.still 10 (.still 11 (.still 12 (.still 13 (.still 14 (.still 15 (.still 16 (.done))))))))))))))))) | _ => .done
  iter := fun | _ => none }
def vc5 (a0 : ByteArray) (h : Heap) (R : Bool → Heap → Prop) : Prop :=
  Call Go.Proofs.Tryd.prog 14 [VV.lf (Lf.str a0)] h [VT.one LT.slc, VT.one (LT.int IntKind.i64), VT.one (LT.int IntKind.i64)]
    fun (s0 : Slc) (i1 i2 : Int) (h3 : Heap) =>
    Call Go.Proofs.Tryd.prog 15 [VV.lf (Lf.str a0)] h3 [VT.one LT.slc, VT.one (LT.int IntKind.i64), VT.one (LT.int IntKind.i64)]
      fun (s4 : Slc) (i5 i6 : Int) (h7 : Heap) =>
      ∃ (I8 : Bool → Heap → Prop),
        Br (i1 != i5) (I8 Bool.true h7) (Br (i2 != i6) (I8 Bool.true h7) (I8 ((↑(Slc.len s0) : Int) != (↑(Slc.len s4) : Int)) h7)) ∧
          ∀ (c9 : Bool) (h10 : Heap),
            I8 c9 h10 →
              Br c9 (R Bool.false h10)
                (∃ (I11 : Int → Heap → Nat → Prop),
                  (∃ (b12 : Nat), I11 (0 : Int) h10 b12) ∧
                    ∀ (i13 : Int) (h14 : Heap) (b15 : Nat),
                      I11 i13 h14 b15 →
                        Br (Decidable.decide (i13 < (↑(Slc.len s0) : Int)))
                          (∃ (I16 : Bool → Heap → Prop),
                            (IxC s0 i13 3 fun (b17 b18 : Nat) =>
                                ∃ (i19 : Int),
                                  cellsAt h14 b17 (b18 + 0) [Lf.int IntKind.i64 i19] ∧
                                    IxC s4 i13 3 fun (b20 b21 : Nat) =>
                                      ∃ (i22 : Int),
                                        cellsAt h14 b20 (b21 + 0) [Lf.int IntKind.i64 i22] ∧
                                          Br (i19 != i22) (I16 Bool.true h14)
                                            (IxC s0 i13 3 fun (b23 b24 : Nat) =>
                                              ∃ (t25 : ByteArray),
                                                cellsAt h14 b23 (b24 + 1) [Lf.str t25] ∧
                                                  IxC s4 i13 3 fun (b26 b27 : Nat) =>
                                                    ∃ (t28 : ByteArray),
                                                      cellsAt h14 b26 (b27 + 1) [Lf.str t28] ∧
                                                        Br (!strEq t25 t28) (I16 Bool.true h14)
                                                          (IxC s0 i13 3 fun (b29 b30 : Nat) =>
                                                            ∃ (s31 : Slc),
                                                              cellsAt h14 b29 (b30 + 2) [Lf.slc s31] ∧
                                                                IxC s4 i13 3 fun (b32 b33 : Nat) =>
                                                                  ∃ (s34 : Slc),
                                                                    cellsAt h14 b32 (b33 + 2) [Lf.slc s34] ∧ I16 ((↑(Slc.len s31) : Int) != (↑(Slc.len s34) : Int)) h14))) ∧
                              ∀ (c35 : Bool) (h36 : Heap),
                                I16 c35 h36 →
                                  Br c35 (R Bool.false h36)
                                    (∃ (I37 : Int → Heap → Nat → Prop),
                                      (∃ (b38 : Nat), I37 (0 : Int) h36 b38) ∧
                                        ∀ (i39 : Int) (h40 : Heap) (b41 : Nat),
                                          I37 i39 h40 b41 →
                                            IxC s0 i13 3 fun (b42 b43 : Nat) =>
                                              ∃ (s44 : Slc),
                                                cellsAt h40 b42 (b43 + 2) [Lf.slc s44] ∧
                                                  Br (Decidable.decide (i39 < (↑(Slc.len s44) : Int)))
                                                    (IxC s0 i13 3 fun (b45 b46 : Nat) =>
                                                      ∃ (s47 : Slc),
                                                        cellsAt h40 b45 (b46 + 2) [Lf.slc s47] ∧
                                                          IxC s47 i39 1 fun (b48 b49 : Nat) =>
                                                            ∃ (t50 : ByteArray),
                                                              cellsAt h40 b48 b49 [Lf.str t50] ∧
                                                                IxC s4 i13 3 fun (b51 b52 : Nat) =>
                                                                  ∃ (s53 : Slc),
                                                                    cellsAt h40 b51 (b52 + 2) [Lf.slc s53] ∧
                                                                      IxC s53 i39 1 fun (b54 b55 : Nat) =>
                                                                        ∃ (t56 : ByteArray),
                                                                          cellsAt h40 b54 b55 [Lf.str t56] ∧
                                                                            Br (!strEq t50 t56) (R Bool.false h40)
                                                                              (∃ (b57 : Nat), b57 < b41 ∧ I37 (IntKind.wrap IntKind.i64 (i39 + (1 : Int))) h40 b57))
                                                    (∃ (b58 : Nat), b58 < b15 ∧ I11 (IntKind.wrap IntKind.i64 (i13 + (1 : Int))) h40 b58)))
                          (Call Go.Proofs.Tryd.prog 14 [VV.lf (Lf.str (ByteArray.mk #[(108 : UInt8), (97 : UInt8), (115 : UInt8), (116 : UInt8), (10 : UInt8)]))] h14
                            [VT.one LT.slc, VT.one (LT.int IntKind.i64), VT.one (LT.int IntKind.i64)] fun (s59 : Slc) (i60 i61 : Int) (h62 : Heap) =>
                            Br ((↑(Slc.len s59) : Int) == (1 : Int)) (R (i61 == (0 : Int)) h62) (R Bool.false h62)))
theorem eq5 (a0 : ByteArray) (h : Heap) (R : Bool → Heap → Prop) : vc5 a0 h R = vcFn Go.Proofs.Tryd.prog pl5 Go.Proofs.Tryd.f5 [.lf (.str a0)] h [.one .bool] R := by kernel_rfl
theorem ok5 {a0 : ByteArray} {h : Heap} {R : Bool → Heap → Prop} (hv : vc5 a0 h R) : Call Go.Proofs.Tryd.prog 5 [.lf (.str a0)] h [.one .bool] R := call_eq hng hmix Go.Proofs.Tryd.func5 (eq5 a0 h R) hv
/- 14: sediment.shell.Parse (text) -/
def pl14 : Plan := {
  blk := fun _ => none
  seq := fun _ => none
  loop := fun _ => none
  live := fun | 0 => some [0] | 1 => some [2, 3, 4] | _ => none
  track := fun | _ => false
  draw := fun | _ => .done
  iter := fun | _ => none }
def vc14 (a0 : ByteArray) (h : Heap) (R : Slc → Int → Int → Heap → Prop) : Prop :=
  Call Go.Proofs.Tryd.prog 20 [VV.lf (Lf.str a0)] h [VT.one LT.slc, VT.one (LT.int IntKind.i64), VT.one (LT.int IntKind.i64)]
    fun (s0 : Slc) (i1 i2 : Int) (h3 : Heap) => R s0 i1 i2 h3
theorem eq14 (a0 : ByteArray) (h : Heap) (R : Slc → Int → Int → Heap → Prop) : vc14 a0 h R = vcFn Go.Proofs.Tryd.prog pl14 Go.Proofs.Tryd.f14 [.lf (.str a0)] h [.one .slc, .one (.int .i64), .one (.int .i64)] R := by kernel_rfl
theorem ok14 {a0 : ByteArray} {h : Heap} {R : Slc → Int → Int → Heap → Prop} (hv : vc14 a0 h R) : Call Go.Proofs.Tryd.prog 14 [.lf (.str a0)] h [.one .slc, .one (.int .i64), .one (.int .i64)] R := call_eq hng hmix Go.Proofs.Tryd.func14 (eq14 a0 h R) hv
/- 20: sediment.shell.script (text) · blk 1: text, l · seq 11:  · loop 5: text, l, n -/
def pl20 : Plan := {
  blk := fun | 1 => some ⟨[(0, .one .str), (5, .one .slc)], [], []⟩ | _ => none
  seq := fun | 11 => some ⟨[], [], []⟩ | _ => none
  loop := fun | 5 => some ⟨[(0, .one .str), (5, .one .slc), (6, .one (.int .i64))], [], []⟩ | _ => none
  live := fun | 0 => some [0] | 1 => some [0, 12] | 2 => some [2, 3, 4] | 3 => some [0, 5] | 4 => some [0, 5, 6] | 5 => some [0, 5, 6, 14] | 6 => some [0, 5, 6] | 7 => some [0, 5, 6] | 8 => some [0, 5, 6, 7] | 9 => some [0, 5, 6, 8, 9] | 10 => some [0, 5, 6, 8, 9, 33] | 11 => some [0, 5, 6, 8, 40] | 12 => some [2, 3, 4] | 13 => some [0, 5, 6, 8] | 14 => some [0, 5, 6] | 15 => some [2, 3, 4] | _ => none
  track := fun | 8 => true | _ => false
  draw := fun | _ => .done
  iter := fun | _ => none }
def vc20 (a0 : ByteArray) (h : Heap) (R : Slc → Int → Int → Heap → Prop) : Prop :=
  Br (Decidable.decide ((↑(ByteArray.size a0) : Int) > (131072 : Int))) (R (Slc.mk Option.none 0 0) (0 : Int) (2 : Int) h)
    (∃ (I0 : ByteArray → Slc → Int → Heap → Nat → Prop),
      (∃ (b1 : Nat), I0 a0 (Slc.mk Option.none 0 0) (1 : Int) h b1) ∧
        ∀ (t2 : ByteArray) (s3 : Slc) (i4 : Int) (h5 : Heap) (b6 : Nat),
          I0 t2 s3 i4 h5 b6 →
            Br (!strEq t2 (ByteArray.mk #[]))
              (∃ (I7 : ByteArray → Slc → Heap → Prop),
                (Call Go.Proofs.Tryd.prog 29 [VV.lf (Lf.str t2), VV.lf (Lf.str (ByteArray.mk #[(10 : UInt8)]))] h5
                    [VT.one LT.str, VT.one LT.str, VT.one LT.bool] fun (t8 t9 : ByteArray) (c10 : Bool) (h11 : Heap) =>
                    Call Go.Proofs.Tryd.prog 30 [VV.lf (Lf.str t8)] h11 [VT.agg [LT.int IntKind.i64, LT.str, LT.slc], VT.one LT.bool]
                      fun (i12 : Int) (t13 : ByteArray) (s14 : Slc) (c15 : Bool) (h16 : Heap) =>
                      New 33 [Lf.int IntKind.i64 (0 : Int), Lf.str (ByteArray.mk #[]), Lf.slc (Slc.mk Option.none 0 0)] h16
                        fun (b17 : Nat) (h18 : Heap) =>
                        Set b17 33 [Lf.int IntKind.i64 i12, Lf.str t13, Lf.slc s14] h18 fun (h19 : Heap) =>
                          ∃ (I20 : Heap → Prop),
                            Br c15 (Br (strEq t13 (ByteArray.mk #[])) (I7 t9 s3 h19) (I20 h19)) (I20 h19) ∧
                              ∀ (h21 : Heap),
                                I20 h21 →
                                  Br (!c15) (R (Slc.mk Option.none 0 0) i4 (300 : Int) h21)
                                    (Br (Decidable.decide ((↑(Slc.len s3) : Int) ≥ (300 : Int))) (R (Slc.mk Option.none 0 0) i4 (300 : Int) h21)
                                      (Set b17 33 [Lf.int IntKind.i64 i4, Lf.str t13, Lf.slc s14] h21 fun (h22 : Heap) =>
                                        New 33 [Lf.int IntKind.i64 i4, Lf.str t13, Lf.slc s14] h22 fun (b23 : Nat) (h24 : Heap) =>
                                          AppC 33 [Lf.int IntKind.i64 (0 : Int), Lf.str (ByteArray.mk #[]), Lf.slc (Slc.mk Option.none 0 0)] 3
                                            48 s3 (Slc.mk (Option.some (b23, 0)) 1 1) h24 fun (s25 : Slc) (h26 : Heap) =>
                                            keepB h24 h26 [b17] ∧ I7 t9 s25 h26))) ∧
                  ∀ (t27 : ByteArray) (s28 : Slc) (h29 : Heap), I7 t27 s28 h29 → ∃ (b30 : Nat), b30 < b6 ∧ I0 t27 s28 (IntKind.wrap IntKind.i64 (i4 + (1 : Int))) h29 b30)
              (R s3 (0 : Int) (0 : Int) h5))
theorem eq20 (a0 : ByteArray) (h : Heap) (R : Slc → Int → Int → Heap → Prop) : vc20 a0 h R = vcFn Go.Proofs.Tryd.prog pl20 Go.Proofs.Tryd.f20 [.lf (.str a0)] h [.one .slc, .one (.int .i64), .one (.int .i64)] R := by kernel_rfl
theorem ok20 {a0 : ByteArray} {h : Heap} {R : Slc → Int → Int → Heap → Prop} (hv : vc20 a0 h R) : Call Go.Proofs.Tryd.prog 20 [.lf (.str a0)] h [.one .slc, .one (.int .i64), .one (.int .i64)] R := call_eq hng hmix Go.Proofs.Tryd.func20 (eq20 a0 h R) hv
/- 30: sediment.shell.parsed (line) · seq 3: #19 · seq 6: #37 · loop 8: #41 + variables [0] -/
def pl30 : Plan := {
  blk := fun _ => none
  seq := fun | 3 => some ⟨[(19, .one .bool)], [], []⟩ | 6 => some ⟨[(37, .one .bool)], [], []⟩ | _ => none
  loop := fun | 8 => some ⟨[(41, .one (.int .i64))], [(0, [.int .i64, .str, .slc])], []⟩ | _ => none
  live := fun | 0 => some [0, 2] | 1 => some [2, 4] | 2 => some [2, 4, 19] | 3 => some [2, 3] | 4 => some [2, 4, 5, 6] | 5 => some [2, 4, 5, 37] | 6 => some [2, 3] | 7 => some [2, 4, 5, 40, 41] | 8 => some [2, 4, 5, 40, 41, 42] | 9 => some [2, 4, 5, 7, 40, 41] | 10 => some [2, 4, 5, 40, 41, 53] | 11 => some [2, 3] | 12 => some [2, 4, 5, 40, 41] | 13 => some [2, 3] | _ => none
  track := fun | 2 => true | _ => false
  draw := fun | 10 => .still 0 (.still 1 (.still 2 (.still 3 (.still 4 (.still 5 (.still 6 (.still 7 (.mem 8 (.still 9 (.done)))))))))) | 13 => .still 0 (.still 1 (.still 2 (.still 3 (.still 4 (.still 5 (.mem 6 (.still 7 (.done)))))))) | _ => .done
  iter := fun | _ => none }
def vc30 (a0 : ByteArray) (h : Heap) (R : Int → ByteArray → Slc → Bool → Heap → Prop) : Prop :=
  New 33 [Lf.int IntKind.i64 (0 : Int), Lf.str (ByteArray.mk #[]), Lf.slc (Slc.mk Option.none 0 0)] h fun (b0 : Nat) (h1 : Heap) =>
    Call Go.Proofs.Tryd.prog 45 [VV.lf (Lf.str a0), VV.lf (Lf.raw (Value.func (Fn.func 46) #[] #[]))] h1 [VT.one LT.slc]
      fun (s2 : Slc) (h3 : Heap) =>
      keepB h1 h3 [b0] ∧
        ∃ (I4 : Bool → Heap → Prop),
          Br ((↑(Slc.len s2) : Int) == (0 : Int)) (I4 Bool.true h3)
              (IxC s2 (0 : Int) 1 fun (b5 b6 : Nat) =>
                ∃ (t7 : ByteArray), cellsAt h3 b5 b6 [Lf.str t7] ∧ (0 : Int) ≤ (0 : Int) ∧ (0 : Int) < (↑(ByteArray.size t7) : Int) ∧ I4 (bt t7 (0 : Int) == (35 : Int)) h3) ∧
            ∀ (c8 : Bool) (h9 : Heap),
              I4 c8 h9 →
                Br c8
                  (Set b0 33 [Lf.int IntKind.i64 (0 : Int), Lf.str (ByteArray.mk #[]), Lf.slc (Slc.mk Option.none 0 0)] h9
                    fun (h10 : Heap) => R (0 : Int) (ByteArray.mk #[]) (Slc.mk Option.none 0 0) Bool.true h10)
                  (IxC s2 (0 : Int) 1 fun (b11 b12 : Nat) =>
                    ∃ (t13 : ByteArray),
                      cellsAt h9 b11 b12 [Lf.str t13] ∧
                        Call Go.Proofs.Tryd.prog 47 [VV.lf (Lf.str t13)] h9 [VT.one LT.str, VT.one LT.bool]
                          fun (t14 : ByteArray) (c15 : Bool) (h16 : Heap) =>
                          keepB h9 h16 [b0] ∧
                            ∃ (I17 : Bool → Heap → Prop),
                              Br (!c15) (I17 Bool.true h16) (I17 ((↑(ByteArray.size t14) : Int) != IntKind.wrap IntKind.i64 ((↑(Slc.len s2) : Int) - (1 : Int))) h16) ∧
                                ∀ (c18 : Bool) (h19 : Heap),
                                  I17 c18 h19 →
                                    Br c18
                                      (Set b0 33 [Lf.int IntKind.i64 (0 : Int), Lf.str (ByteArray.mk #[]), Lf.slc (Slc.mk Option.none 0 0)] h19
                                        fun (h20 : Heap) => R (0 : Int) (ByteArray.mk #[]) (Slc.mk Option.none 0 0) Bool.false h20)
                                      (∃ (I21 : Int → Int → ByteArray → Slc → Heap → Nat → Prop),
                                        (∃ (b22 : Nat), I21 (0 : Int) (0 : Int) (ByteArray.mk #[]) (Slc.mk Option.none 0 0) h19 b22) ∧
                                          ∀ (i23 i24 : Int) (t25 : ByteArray) (s26 : Slc) (h27 : Heap) (b28 : Nat),
                                            I21 i23 i24 t25 s26 h27 b28 →
                                              Br (Decidable.decide (i23 < (↑(ByteArray.size t14) : Int)))
                                                ((0 : Int) ≤ i23 ∧
                                                  i23 < (↑(ByteArray.size t14) : Int) ∧
                                                    IxC s2 (IntKind.wrap IntKind.i64 (i23 + (1 : Int))) 1 fun (b29 b30 : Nat) =>
                                                      ∃ (t31 : ByteArray),
                                                        cellsAt h27 b29 b30 [Lf.str t31] ∧
                                                          Call Go.Proofs.Tryd.prog 48 [VV.lf (Lf.int IntKind.u8 (bt t14 i23)), VV.lf (Lf.str t31)] h27
                                                            [VT.one LT.bool] fun (c32 : Bool) (h33 : Heap) =>
                                                            keepB h27 h33 [b0] ∧
                                                              Br (!c32)
                                                                (Set b0 33
                                                                  [Lf.int IntKind.i64 (0 : Int), Lf.str (ByteArray.mk #[]), Lf.slc (Slc.mk Option.none 0 0)] h33
                                                                  fun (h34 : Heap) => R (0 : Int) (ByteArray.mk #[]) (Slc.mk Option.none 0 0) Bool.false h34)
                                                                (∃ (b35 : Nat), b35 < b28 ∧ I21 (IntKind.wrap IntKind.i64 (i23 + (1 : Int))) i24 t25 s26 h33 b35))
                                                (IxC s2 (0 : Int) 1 fun (b36 b37 : Nat) =>
                                                  ∃ (t38 : ByteArray),
                                                    cellsAt h27 b36 b37 [Lf.str t38] ∧
                                                      (0 : Int) ≤ (1 : Int) ∧
                                                        (1 : Int) ≤ (↑(Slc.len s2) : Int) ∧
                                                          Set b0 33
                                                            [Lf.int IntKind.i64 (0 : Int), Lf.str t38, Lf.slc (Slc.sub s2 1 1 (Slc.len s2) (Slc.cap s2))]
                                                            h27 fun (h39 : Heap) => R (0 : Int) t38 (Slc.sub s2 1 1 (Slc.len s2) (Slc.cap s2)) Bool.true h39)))
theorem eq30 (a0 : ByteArray) (h : Heap) (R : Int → ByteArray → Slc → Bool → Heap → Prop) : vc30 a0 h R = vcFn Go.Proofs.Tryd.prog pl30 Go.Proofs.Tryd.f30 [.lf (.str a0)] h [.agg [.int .i64, .str, .slc], .one .bool] R := by kernel_rfl
theorem ok30 {a0 : ByteArray} {h : Heap} {R : Int → ByteArray → Slc → Bool → Heap → Prop} (hv : vc30 a0 h R) : Call Go.Proofs.Tryd.prog 30 [.lf (.str a0)] h [.agg [.int .i64, .str, .slc], .one .bool] R := call_eq hng hmix Go.Proofs.Tryd.func30 (eq30 a0 h R) hv
/- 46: sediment.shell.parsed$1 (r) -/
def pl46 : Plan := {
  blk := fun _ => none
  seq := fun _ => none
  loop := fun _ => none
  live := fun | 0 => some [0] | 1 => some [2] | _ => none
  track := fun | _ => false
  draw := fun | _ => .done
  iter := fun | _ => none }
def vc46 (a0 : Int) (h : Heap) (R : Bool → Heap → Prop) : Prop :=
  R (a0 == (32 : Int)) h
theorem eq46 (a0 : Int) (h : Heap) (R : Bool → Heap → Prop) : vc46 a0 h R = vcFn Go.Proofs.Tryd.prog pl46 Go.Proofs.Tryd.f46 [.lf (.int .i32 a0)] h [.one .bool] R := by kernel_rfl
theorem ok46 {a0 : Int} {h : Heap} {R : Bool → Heap → Prop} (hv : vc46 a0 h R) : Call Go.Proofs.Tryd.prog 46 [.lf (.int .i32 a0)] h [.one .bool] R := call_eq hng hmix Go.Proofs.Tryd.func46 (eq46 a0 h R) hv
/- 47: sediment.shell.shape (word) · seq 13: #5 · seq 19: #17 · seq 28: #25 · seq 34: #32 -/
def pl47 : Plan := {
  blk := fun _ => none
  seq := fun | 13 => some ⟨[(5, .one .bool)], [], []⟩ | 19 => some ⟨[(17, .one .bool)], [], []⟩ | 28 => some ⟨[(25, .one .bool)], [], []⟩ | 34 => some ⟨[(32, .one .bool)], [], []⟩ | _ => none
  loop := fun _ => none
  live := fun | 0 => some [0] | 1 => some [0, 4] | 2 => some [0, 4, 5] | 3 => some [0, 4, 5] | 4 => some [0, 4, 5] | 5 => some [0, 4, 5] | 6 => some [0, 4, 5] | 7 => some [0, 4, 5] | 8 => some [0, 4, 5] | 9 => some [0, 4, 5] | 10 => some [0, 4, 5] | 11 => some [0, 4, 5] | 12 => some [0, 4, 5] | 13 => some [2, 3] | 14 => some [0, 4, 17] | 15 => some [0, 4, 17] | 16 => some [0, 4, 17] | 17 => some [0, 4, 17] | 18 => some [0, 4, 17] | 19 => some [2, 3] | 20 => some [0, 4, 23] | 21 => some [2, 3] | 22 => some [0, 4, 25] | 23 => some [0, 4, 25] | 24 => some [0, 4, 25] | 25 => some [0, 4, 25] | 26 => some [0, 4, 25] | 27 => some [0, 4, 25] | 28 => some [2, 3] | 29 => some [0, 4, 32] | 30 => some [0, 4, 32] | 31 => some [0, 4, 32] | 32 => some [0, 4, 32] | 33 => some [0, 4, 32] | 34 => some [2, 3] | 35 => some [0, 4, 38] | 36 => some [2, 3] | 37 => some [0, 4, 40] | 38 => some [0, 4, 40] | 39 => some [2, 3] | 40 => some [0, 4, 43] | 41 => some [2, 3] | 42 => some [0, 4, 45] | 43 => some [0, 4, 45] | 44 => some [0, 45] | 45 => some [50] | 46 => some [2, 3] | 47 => some [2, 3] | 48 => some [2, 3] | _ => none
  track := fun | _ => false
  draw := fun | _ => .done
  iter := fun | _ => none }
def vc47 (a0 : ByteArray) (h : Heap) (R : ByteArray → Bool → Heap → Prop) : Prop :=
  ∃ (I0 : Bool → Heap → Prop),
    Br (strEq a0 (ByteArray.mk #[(119 : UInt8), (114 : UInt8), (105 : UInt8), (116 : UInt8), (101 : UInt8)]))
        (I0 (strEq a0 (ByteArray.mk #[(119 : UInt8), (114 : UInt8), (105 : UInt8), (116 : UInt8), (101 : UInt8)])) h)
        (Br (strEq a0 (ByteArray.mk #[(102 : UInt8), (111 : UInt8), (114 : UInt8), (103 : UInt8), (101 : UInt8), (116 : UInt8)]))
          (I0 (strEq a0 (ByteArray.mk #[(102 : UInt8), (111 : UInt8), (114 : UInt8), (103 : UInt8), (101 : UInt8), (116 : UInt8)])) h)
          (Br (strEq a0 (ByteArray.mk #[(104 : UInt8), (111 : UInt8), (108 : UInt8), (100 : UInt8)]))
            (I0 (strEq a0 (ByteArray.mk #[(104 : UInt8), (111 : UInt8), (108 : UInt8), (100 : UInt8)])) h)
            (Br (strEq a0 (ByteArray.mk #[(115 : UInt8), (116 : UInt8), (101 : UInt8), (112 : UInt8)]))
              (I0 (strEq a0 (ByteArray.mk #[(115 : UInt8), (116 : UInt8), (101 : UInt8), (112 : UInt8)])) h)
              (Br (strEq a0 (ByteArray.mk #[(108 : UInt8), (97 : UInt8), (115 : UInt8), (116 : UInt8)]))
                (I0 (strEq a0 (ByteArray.mk #[(108 : UInt8), (97 : UInt8), (115 : UInt8), (116 : UInt8)])) h)
                (Br (strEq a0 (ByteArray.mk #[(102 : UInt8), (97 : UInt8), (109 : UInt8), (105 : UInt8), (108 : UInt8), (105 : UInt8), (101 : UInt8), (115 : UInt8)]))
                  (I0 (strEq a0 (ByteArray.mk #[(102 : UInt8), (97 : UInt8), (109 : UInt8), (105 : UInt8), (108 : UInt8), (105 : UInt8), (101 : UInt8), (115 : UInt8)])) h)
                  (Br (strEq a0 (ByteArray.mk #[(98 : UInt8), (101 : UInt8), (103 : UInt8), (105 : UInt8), (110 : UInt8)]))
                    (I0 (strEq a0 (ByteArray.mk #[(98 : UInt8), (101 : UInt8), (103 : UInt8), (105 : UInt8), (110 : UInt8)])) h)
                    (Br (strEq a0 (ByteArray.mk #[(99 : UInt8), (111 : UInt8), (109 : UInt8), (109 : UInt8), (105 : UInt8), (116 : UInt8)]))
                      (I0 (strEq a0 (ByteArray.mk #[(99 : UInt8), (111 : UInt8), (109 : UInt8), (109 : UInt8), (105 : UInt8), (116 : UInt8)])) h)
                      (Br (strEq a0 (ByteArray.mk #[(97 : UInt8), (98 : UInt8), (111 : UInt8), (114 : UInt8), (116 : UInt8)]))
                        (I0 (strEq a0 (ByteArray.mk #[(97 : UInt8), (98 : UInt8), (111 : UInt8), (114 : UInt8), (116 : UInt8)])) h)
                        (Br (strEq a0 (ByteArray.mk #[(99 : UInt8), (114 : UInt8), (97 : UInt8), (115 : UInt8), (104 : UInt8)]))
                          (I0 (strEq a0 (ByteArray.mk #[(99 : UInt8), (114 : UInt8), (97 : UInt8), (115 : UInt8), (104 : UInt8)])) h)
                          (I0 (strEq a0 (ByteArray.mk #[(99 : UInt8), (104 : UInt8), (101 : UInt8), (99 : UInt8), (107 : UInt8)])) h)))))))))) ∧
      ∀ (c1 : Bool) (h2 : Heap),
        I0 c1 h2 →
          Br c1 (R (ByteArray.mk #[]) Bool.true h2)
            (∃ (I3 : Bool → Heap → Prop),
              Br (strEq a0 (ByteArray.mk #[(111 : UInt8), (112 : UInt8), (101 : UInt8), (110 : UInt8)]))
                  (I3 (strEq a0 (ByteArray.mk #[(111 : UInt8), (112 : UInt8), (101 : UInt8), (110 : UInt8)])) h2)
                  (Br (strEq a0 (ByteArray.mk #[(100 : UInt8), (114 : UInt8), (111 : UInt8), (112 : UInt8)]))
                    (I3 (strEq a0 (ByteArray.mk #[(100 : UInt8), (114 : UInt8), (111 : UInt8), (112 : UInt8)])) h2)
                    (Br (strEq a0 (ByteArray.mk #[(102 : UInt8), (114 : UInt8), (101 : UInt8), (101 : UInt8)]))
                      (I3 (strEq a0 (ByteArray.mk #[(102 : UInt8), (114 : UInt8), (101 : UInt8), (101 : UInt8)])) h2)
                      (Br (strEq a0 (ByteArray.mk #[(102 : UInt8), (108 : UInt8), (117 : UInt8), (115 : UInt8), (104 : UInt8)]))
                        (I3 (strEq a0 (ByteArray.mk #[(102 : UInt8), (108 : UInt8), (117 : UInt8), (115 : UInt8), (104 : UInt8)])) h2)
                        (I3 (strEq a0 (ByteArray.mk #[(108 : UInt8), (111 : UInt8), (115 : UInt8), (101 : UInt8)])) h2)))) ∧
                ∀ (c4 : Bool) (h5 : Heap),
                  I3 c4 h5 →
                    Br c4 (R (ByteArray.mk #[(68 : UInt8)]) Bool.true h5)
                      (Br (strEq a0 (ByteArray.mk #[(109 : UInt8), (97 : UInt8), (107 : UInt8), (101 : UInt8)])) (R (ByteArray.mk #[(78 : UInt8), (68 : UInt8)]) Bool.true h5)
                        (∃ (I6 : Bool → Heap → Prop),
                          Br (strEq a0 (ByteArray.mk #[(112 : UInt8), (117 : UInt8), (116 : UInt8)])) (I6 (strEq a0 (ByteArray.mk #[(112 : UInt8), (117 : UInt8), (116 : UInt8)])) h5)
                              (Br (strEq a0 (ByteArray.mk #[(114 : UInt8), (97 : UInt8), (110 : UInt8), (103 : UInt8), (101 : UInt8)]))
                                (I6 (strEq a0 (ByteArray.mk #[(114 : UInt8), (97 : UInt8), (110 : UInt8), (103 : UInt8), (101 : UInt8)])) h5)
                                (Br (strEq a0 (ByteArray.mk #[(97 : UInt8), (100 : UInt8), (100 : UInt8)])) (I6 (strEq a0 (ByteArray.mk #[(97 : UInt8), (100 : UInt8), (100 : UInt8)])) h5)
                                  (Br (strEq a0 (ByteArray.mk #[(99 : UInt8), (108 : UInt8), (101 : UInt8), (97 : UInt8), (114 : UInt8)]))
                                    (I6 (strEq a0 (ByteArray.mk #[(99 : UInt8), (108 : UInt8), (101 : UInt8), (97 : UInt8), (114 : UInt8)])) h5)
                                    (Br (strEq a0 (ByteArray.mk #[(99 : UInt8), (111 : UInt8), (109 : UInt8), (112 : UInt8), (97 : UInt8), (99 : UInt8), (116 : UInt8)]))
                                      (I6 (strEq a0 (ByteArray.mk #[(99 : UInt8), (111 : UInt8), (109 : UInt8), (112 : UInt8), (97 : UInt8), (99 : UInt8), (116 : UInt8)])) h5)
                                      (I6 (strEq a0 (ByteArray.mk #[(115 : UInt8), (101 : UInt8), (116 : UInt8)])) h5))))) ∧
                            ∀ (c7 : Bool) (h8 : Heap),
                              I6 c7 h8 →
                                Br c7 (R (ByteArray.mk #[(68 : UInt8), (78 : UInt8), (78 : UInt8)]) Bool.true h8)
                                  (∃ (I9 : Bool → Heap → Prop),
                                    Br (strEq a0 (ByteArray.mk #[(100 : UInt8), (101 : UInt8), (108 : UInt8)]))
                                        (I9 (strEq a0 (ByteArray.mk #[(100 : UInt8), (101 : UInt8), (108 : UInt8)])) h8)
                                        (Br (strEq a0 (ByteArray.mk #[(99 : UInt8), (117 : UInt8), (116 : UInt8)]))
                                          (I9 (strEq a0 (ByteArray.mk #[(99 : UInt8), (117 : UInt8), (116 : UInt8)])) h8)
                                          (Br (strEq a0 (ByteArray.mk #[(114 : UInt8), (101 : UInt8), (97 : UInt8), (100 : UInt8)]))
                                            (I9 (strEq a0 (ByteArray.mk #[(114 : UInt8), (101 : UInt8), (97 : UInt8), (100 : UInt8)])) h8)
                                            (Br (strEq a0 (ByteArray.mk #[(117 : UInt8), (110 : UInt8), (115 : UInt8), (101 : UInt8), (116 : UInt8)]))
                                              (I9 (strEq a0 (ByteArray.mk #[(117 : UInt8), (110 : UInt8), (115 : UInt8), (101 : UInt8), (116 : UInt8)])) h8)
                                              (I9 (strEq a0 (ByteArray.mk #[(111 : UInt8), (108 : UInt8), (100 : UInt8)])) h8)))) ∧
                                      ∀ (c10 : Bool) (h11 : Heap),
                                        I9 c10 h11 →
                                          Br c10 (R (ByteArray.mk #[(68 : UInt8), (78 : UInt8)]) Bool.true h11)
                                            (Br (strEq a0 (ByteArray.mk #[(103 : UInt8), (101 : UInt8), (116 : UInt8)]))
                                              (R (ByteArray.mk #[(68 : UInt8), (78 : UInt8), (68 : UInt8)]) Bool.true h11)
                                              (Br (strEq a0 (ByteArray.mk #[(115 : UInt8), (99 : UInt8), (97 : UInt8), (110 : UInt8)]))
                                                (Br (strEq a0 (ByteArray.mk #[(115 : UInt8), (99 : UInt8), (97 : UInt8), (110 : UInt8)]))
                                                  (R (ByteArray.mk #[(68 : UInt8), (68 : UInt8)]) Bool.true h11)
                                                  (Br (strEq a0 (ByteArray.mk #[(116 : UInt8), (97 : UInt8), (107 : UInt8), (101 : UInt8)]))
                                                    (R (ByteArray.mk #[(68 : UInt8), (78 : UInt8), (78 : UInt8), (78 : UInt8), (78 : UInt8)]) Bool.true h11)
                                                    (Br (strEq a0 (ByteArray.mk #[(109 : UInt8), (97 : UInt8), (114 : UInt8), (107 : UInt8)]))
                                                      (Br (strEq a0 (ByteArray.mk #[(109 : UInt8), (97 : UInt8), (114 : UInt8), (107 : UInt8)]))
                                                        (Br (strEq a0 (ByteArray.mk #[(115 : UInt8), (97 : UInt8), (118 : UInt8), (101 : UInt8)])) (R (ByteArray.mk #[]) Bool.true h11)
                                                          (R (ByteArray.mk #[(78 : UInt8)]) Bool.true h11))
                                                        (R (ByteArray.mk #[]) Bool.false h11))
                                                      (Br (strEq a0 (ByteArray.mk #[(115 : UInt8), (101 : UInt8), (101 : UInt8)]))
                                                        (Br (strEq a0 (ByteArray.mk #[(115 : UInt8), (101 : UInt8), (101 : UInt8)]))
                                                          (Br (strEq a0 (ByteArray.mk #[(115 : UInt8), (97 : UInt8), (118 : UInt8), (101 : UInt8)])) (R (ByteArray.mk #[]) Bool.true h11)
                                                            (R (ByteArray.mk #[(78 : UInt8)]) Bool.true h11))
                                                          (R (ByteArray.mk #[]) Bool.false h11))
                                                        (Br (strEq a0 (ByteArray.mk #[(115 : UInt8), (97 : UInt8), (118 : UInt8), (101 : UInt8)]))
                                                          (Br (strEq a0 (ByteArray.mk #[(115 : UInt8), (97 : UInt8), (118 : UInt8), (101 : UInt8)])) (R (ByteArray.mk #[]) Bool.true h11)
                                                            (R (ByteArray.mk #[(78 : UInt8)]) Bool.true h11))
                                                          (R (ByteArray.mk #[]) Bool.false h11))))))
                                                (Br (strEq a0 (ByteArray.mk #[(98 : UInt8), (97 : UInt8), (99 : UInt8), (107 : UInt8)]))
                                                  (R (ByteArray.mk #[(68 : UInt8), (68 : UInt8)]) Bool.true h11)
                                                  (Br (strEq a0 (ByteArray.mk #[(116 : UInt8), (97 : UInt8), (107 : UInt8), (101 : UInt8)]))
                                                    (R (ByteArray.mk #[(68 : UInt8), (78 : UInt8), (78 : UInt8), (78 : UInt8), (78 : UInt8)]) Bool.true h11)
                                                    (Br (strEq a0 (ByteArray.mk #[(109 : UInt8), (97 : UInt8), (114 : UInt8), (107 : UInt8)]))
                                                      (Br (strEq a0 (ByteArray.mk #[(109 : UInt8), (97 : UInt8), (114 : UInt8), (107 : UInt8)]))
                                                        (Br (strEq a0 (ByteArray.mk #[(115 : UInt8), (97 : UInt8), (118 : UInt8), (101 : UInt8)])) (R (ByteArray.mk #[]) Bool.true h11)
                                                          (R (ByteArray.mk #[(78 : UInt8)]) Bool.true h11))
                                                        (R (ByteArray.mk #[]) Bool.false h11))
                                                      (Br (strEq a0 (ByteArray.mk #[(115 : UInt8), (101 : UInt8), (101 : UInt8)]))
                                                        (Br (strEq a0 (ByteArray.mk #[(115 : UInt8), (101 : UInt8), (101 : UInt8)]))
                                                          (Br (strEq a0 (ByteArray.mk #[(115 : UInt8), (97 : UInt8), (118 : UInt8), (101 : UInt8)])) (R (ByteArray.mk #[]) Bool.true h11)
                                                            (R (ByteArray.mk #[(78 : UInt8)]) Bool.true h11))
                                                          (R (ByteArray.mk #[]) Bool.false h11))
                                                        (Br (strEq a0 (ByteArray.mk #[(115 : UInt8), (97 : UInt8), (118 : UInt8), (101 : UInt8)]))
                                                          (Br (strEq a0 (ByteArray.mk #[(115 : UInt8), (97 : UInt8), (118 : UInt8), (101 : UInt8)])) (R (ByteArray.mk #[]) Bool.true h11)
                                                            (R (ByteArray.mk #[(78 : UInt8)]) Bool.true h11))
                                                          (R (ByteArray.mk #[]) Bool.false h11))))))))))))
theorem eq47 (a0 : ByteArray) (h : Heap) (R : ByteArray → Bool → Heap → Prop) : vc47 a0 h R = vcFn Go.Proofs.Tryd.prog pl47 Go.Proofs.Tryd.f47 [.lf (.str a0)] h [.one .str, .one .bool] R := by kernel_rfl
theorem ok47 {a0 : ByteArray} {h : Heap} {R : ByteArray → Bool → Heap → Prop} (hv : vc47 a0 h R) : Call Go.Proofs.Tryd.prog 47 [.lf (.str a0)] h [.one .str, .one .bool] R := call_eq hng hmix Go.Proofs.Tryd.func47 (eq47 a0 h R) hv
/- 48: sediment.shell.fits (kind, w) -/
def pl48 : Plan := {
  blk := fun _ => none
  seq := fun _ => none
  loop := fun _ => none
  live := fun | 0 => some [0, 1] | 1 => some [1, 8] | 2 => some [6] | 3 => some [4] | 4 => some [4] | _ => none
  track := fun | _ => false
  draw := fun | _ => .done
  iter := fun | _ => none }
def vc48 (a0 : Int) (a1 : ByteArray) (h : Heap) (R : Bool → Heap → Prop) : Prop :=
  Br (a0 == (68 : Int))
    (Call Go.Proofs.Tryd.prog 66 [VV.lf (Lf.str a1)] h [VT.one (LT.int IntKind.i64), VT.one LT.bool] fun (i0 : Int) (c1 : Bool) (h2 : Heap) =>
      R c1 h2)
    (R (Decidable.decide ((↑(ByteArray.size a1) : Int) ≤ (20 : Int))) h)
theorem eq48 (a0 : Int) (a1 : ByteArray) (h : Heap) (R : Bool → Heap → Prop) : vc48 a0 a1 h R = vcFn Go.Proofs.Tryd.prog pl48 Go.Proofs.Tryd.f48 [.lf (.int .u8 a0), .lf (.str a1)] h [.one .bool] R := by kernel_rfl
theorem ok48 {a0 : Int} {a1 : ByteArray} {h : Heap} {R : Bool → Heap → Prop} (hv : vc48 a0 a1 h R) : Call Go.Proofs.Tryd.prog 48 [.lf (.int .u8 a0), .lf (.str a1)] h [.one .bool] R := call_eq hng hmix Go.Proofs.Tryd.func48 (eq48 a0 a1 h R) hv
/- 66: sediment.shell.number (w) -/
def pl66 : Plan := {
  blk := fun _ => none
  seq := fun _ => none
  loop := fun _ => none
  live := fun | 0 => some [0] | 1 => some [0, 17] | 2 => some [2, 3] | 3 => some [4] | 4 => some [2, 3] | _ => none
  track := fun | _ => false
  draw := fun | _ => .done
  iter := fun | _ => none }
def vc66 (a0 : ByteArray) (h : Heap) (R : Int → Bool → Heap → Prop) : Prop :=
  Br (strEq a0 (ByteArray.mk #[])) (R (0 : Int) Bool.false h)
    (Br (Decidable.decide ((↑(ByteArray.size a0) : Int) > (4 : Int))) (R (0 : Int) Bool.false h)
      (Call Go.Proofs.Tryd.prog 81
        [VV.lf (Lf.str a0),
          VV.lf (Lf.str (ByteArray.mk #[(48 : UInt8), (49 : UInt8), (50 : UInt8), (51 : UInt8), (52 : UInt8), (53 : UInt8), (54 : UInt8), (55 : UInt8), (56 : UInt8), (57 : UInt8)]))]
        h [VT.one LT.str] fun (t0 : ByteArray) (h1 : Heap) =>
        Br (!strEq t0 (ByteArray.mk #[])) (R (0 : Int) Bool.false h1)
          (Call Go.Proofs.Tryd.prog 82 [VV.lf (Lf.str a0)] h1 [VT.one (LT.int IntKind.i64), VT.one LT.raw]
            fun (i2 : Int) (x3 : Value) (h4 : Heap) => R i2 Bool.true h4)))
theorem eq66 (a0 : ByteArray) (h : Heap) (R : Int → Bool → Heap → Prop) : vc66 a0 h R = vcFn Go.Proofs.Tryd.prog pl66 Go.Proofs.Tryd.f66 [.lf (.str a0)] h [.one (.int .i64), .one .bool] R := by kernel_rfl
theorem ok66 {a0 : ByteArray} {h : Heap} {R : Int → Bool → Heap → Prop} (hv : vc66 a0 h R) : Call Go.Proofs.Tryd.prog 66 [.lf (.str a0)] h [.one (.int .i64), .one .bool] R := call_eq hng hmix Go.Proofs.Tryd.func66 (eq66 a0 h R) hv
end Go.V.YtdeihieblljfcaaDoor
