/- This text proves a part of the laws of seat Ytclffphegfhocaa, under no condition: B3n B3s. -/
import Derived.Test.YtclffphegfhocaaEC
import Derived.Eval
import Derived.Test.YtclffphegfhocaaChecked
import Derived.Test.YtclffphegfhocaaEF
import Derived.Test.YtclffphegfhocaaED
import Derived.Test.YtclffphegfhocaaEE
set_option linter.unusedVariables false
set_option maxRecDepth 100000
namespace Go.V.Ytclffphegfhocaa
open Go Go.V
/- 20: sediment.sedimentref03.Check (r) · seq 2: #10 -/
def pl20 : Plan := {
  blk := fun _ => none
  seq := fun | 2 => some ⟨[(10, .one .bool)], [], []⟩ | _ => none
  loop := fun _ => none
  live := fun | 0 => some [1] | 1 => some [1, 10] | 2 => some [2] | 3 => some [23] | 4 => some [2] | 5 => some [2] | _ => none
  track := fun | 1 => true | _ => false
  draw := fun | 3 => .still 0 (.still 1 (.still 2 (.still 3 (.still 4 (.still 5 (.still 6 (.still 7 (.still 8 (.still 9 (.mem 10 (.still 11 (.still 12 (.done))))))))))))) | _ => .done
  iter := fun | _ => none }
def vc20 (a0 : Int) (a1 : Int) (a2 : ByteArray) (a3 : ByteArray) (h : Heap) (R : Int → Heap → Prop) : Prop :=
  New 31 [Lf.int IntKind.u32 a0, Lf.int IntKind.i64 a1, Lf.str a2, Lf.str a3] h fun (b0 : Nat) (h1 : Heap) =>
    ∃ (I2 : Bool → Heap → Prop),
      Br (Decidable.decide (a1 < (0 : Int))) (I2 Bool.true h1) (I2 (Decidable.decide (a1 > (2 : Int))) h1) ∧
        ∀ (c3 : Bool) (h4 : Heap),
          I2 c3 h4 →
            Br c3 (R (1 : Int) h4)
              (Br (Decidable.decide ((↑(ByteArray.size a2) : Int) > (1024 : Int))) (R (2 : Int) h4)
                (Call Go.Proofs.Try.prog 38 [VV.lf (Lf.int IntKind.i64 a1)] h4 [VT.one (LT.int IntKind.i64)] fun (i5 : Int) (h6 : Heap) =>
                  keepB h4 h6 [b0] ∧ Br (Decidable.decide ((↑(ByteArray.size a3) : Int) > i5)) (R (2 : Int) h6) (R (0 : Int) h6)))
theorem eq20 (a0 : Int) (a1 : Int) (a2 : ByteArray) (a3 : ByteArray) (h : Heap) (R : Int → Heap → Prop) : vc20 a0 a1 a2 a3 h R = vcFn Go.Proofs.Try.prog pl20 Go.Proofs.Try.f20 [.agg [.int .u32 a0, .int .i64 a1, .str a2, .str a3]] h [.one (.int .i64)] R := by kernel_rfl
theorem ok20 {a0 : Int} {a1 : Int} {a2 : ByteArray} {a3 : ByteArray} {h : Heap} {R : Int → Heap → Prop} (hv : vc20 a0 a1 a2 a3 h R) : Call Go.Proofs.Try.prog 20 [.agg [.int .u32 a0, .int .i64 a1, .str a2, .str a3]] h [.one (.int .i64)] R := call_eq hng hmix Go.Proofs.Try.func20 (eq20 a0 a1 a2 a3 h R) hv
/- 35: sediment.sedimentref03.numbered (seq, n) -/
def pl35 : Plan := {
  blk := fun _ => none
  seq := fun _ => none
  loop := fun _ => none
  live := fun | 0 => some [0, 1] | 1 => some [4] | _ => none
  track := fun | _ => false
  draw := fun | _ => .done
  iter := fun | _ => none }
def vc35 (a0 : Int) (a1 : Int) (h : Heap) (R : Bool → Heap → Prop) : Prop :=
  Br (Decidable.decide (a0 ≤ (72057594037927935 : Int)))
    (Br (a1 == (0 : Int)) (R Bool.true h)
      (R (Decidable.decide (IntKind.wrap IntKind.u64 (IntKind.wrap IntKind.i64 (a1 - (1 : Int))) ≤ IntKind.wrap IntKind.u64 ((72057594037927935 : Int) - a0))) h))
    (R Bool.false h)
theorem eq35 (a0 : Int) (a1 : Int) (h : Heap) (R : Bool → Heap → Prop) : vc35 a0 a1 h R = vcFn Go.Proofs.Try.prog pl35 Go.Proofs.Try.f35 [.lf (.int .u64 a0), .lf (.int .i64 a1)] h [.one .bool] R := by kernel_rfl
theorem ok35 {a0 : Int} {a1 : Int} {h : Heap} {R : Bool → Heap → Prop} (hv : vc35 a0 a1 h R) : Call Go.Proofs.Try.prog 35 [.lf (.int .u64 a0), .lf (.int .i64 a1)] h [.one .bool] R := call_eq hng hmix Go.Proofs.Try.func35 (eq35 a0 a1 h R) hv
/- 36: sediment.sedimentref03.Sizes (l) · loop 3: n, i -/
def pl36 : Plan := {
  blk := fun _ => none
  seq := fun _ => none
  loop := fun | 3 => some ⟨[(3, .one (.int .i64)), (4, .one (.int .i64))], [], []⟩ | _ => none
  live := fun | 0 => some [0] | 1 => some [0, 3] | 2 => some [0, 3, 4] | 3 => some [0, 3, 4, 8] | 4 => some [0, 3, 4] | 5 => some [0, 3, 4] | 6 => some [2] | _ => none
  track := fun | _ => false
  draw := fun | _ => .done
  iter := fun | _ => none }
def vc36 (a0 : Slc) (h : Heap) (R : Int → Heap → Prop) : Prop :=
  ∃ (I0 : Int → Int → Heap → Nat → Prop),
    (∃ (b1 : Nat), I0 (12 : Int) (0 : Int) h b1) ∧
      ∀ (i2 i3 : Int) (h4 : Heap) (b5 : Nat),
        I0 i2 i3 h4 b5 →
          Br (Decidable.decide (i3 < (↑(Slc.len a0) : Int)))
            (IxC a0 i3 4 fun (b6 b7 : Nat) =>
              ∃ (i8 : Int),
                ∃ (i9 : Int),
                  ∃ (t10 : ByteArray),
                    ∃ (t11 : ByteArray),
                      cellsAt h4 b6 b7 [Lf.int IntKind.u32 i8, Lf.int IntKind.i64 i9, Lf.str t10, Lf.str t11] ∧
                        Call Go.Proofs.Try.prog 11 [VV.agg [Lf.int IntKind.u32 i8, Lf.int IntKind.i64 i9, Lf.str t10, Lf.str t11]] h4
                          [VT.one (LT.int IntKind.i64)] fun (i12 : Int) (h13 : Heap) =>
                          ∃ (b14 : Nat), b14 < b5 ∧ I0 (IntKind.wrap IntKind.i64 (i2 + i12)) (IntKind.wrap IntKind.i64 (i3 + (1 : Int))) h13 b14)
            (R i2 h4)
theorem eq36 (a0 : Slc) (h : Heap) (R : Int → Heap → Prop) : vc36 a0 h R = vcFn Go.Proofs.Try.prog pl36 Go.Proofs.Try.f36 [.lf (.slc a0)] h [.one (.int .i64)] R := by kernel_rfl
theorem ok36 {a0 : Slc} {h : Heap} {R : Int → Heap → Prop} (hv : vc36 a0 h R) : Call Go.Proofs.Try.prog 36 [.lf (.slc a0)] h [.one (.int .i64)] R := call_eq hng hmix Go.Proofs.Try.func36 (eq36 a0 h R) hv
/- 37: sediment.sedimentref01.Fixed (n, many) · loop 3: b, i -/
def pl37 : Plan := {
  blk := fun _ => none
  seq := fun _ => none
  loop := fun | 3 => some ⟨[(5, .one .slc), (6, .one (.int .i64))], [], []⟩ | _ => none
  live := fun | 0 => some [0, 1] | 1 => some [0, 1, 5] | 2 => some [0, 1, 5, 6] | 3 => some [0, 1, 5, 6, 10] | 4 => some [0, 1, 5, 6] | 5 => some [0, 1, 5, 6] | 6 => some [4] | _ => none
  track := fun | _ => false
  draw := fun | _ => .done
  iter := fun | _ => none }
def vc37 (a0 : Int) (a1 : Int) (h : Heap) (R : Slc → Heap → Prop) : Prop :=
  New 5 [] h fun (b0 : Nat) (h1 : Heap) =>
    ∃ (I2 : Slc → Int → Heap → Nat → Prop),
      (∃ (b3 : Nat), I2 (Slc.mk (Option.some (b0, 0)) 0 0) (0 : Int) h1 b3) ∧
        ∀ (s4 : Slc) (i5 : Int) (h6 : Heap) (b7 : Nat),
          I2 s4 i5 h6 b7 →
            Br (Decidable.decide (i5 < a1))
              ((0 : Int) ≤ IntKind.wrap IntKind.u64 (IntKind.wrap IntKind.i64 ((8 : Int) * i5)) ∧
                New 5
                  [Lf.int IntKind.u8 (IntKind.wrap IntKind.u8 (shiftR IntKind.u64 a0 (IntKind.wrap IntKind.u64 (IntKind.wrap IntKind.i64 ((8 : Int) * i5)))))] h6
                  fun (b8 : Nat) (h9 : Heap) =>
                  AppC 5 [Lf.int IntKind.u8 (0 : Int)] 1 1 s4 (Slc.mk (Option.some (b8, 0)) 1 1) h9
                    fun (s10 : Slc) (h11 : Heap) => ∃ (b12 : Nat), b12 < b7 ∧ I2 s10 (IntKind.wrap IntKind.i64 (i5 + (1 : Int))) h11 b12)
              (R s4 h6)
theorem eq37 (a0 : Int) (a1 : Int) (h : Heap) (R : Slc → Heap → Prop) : vc37 a0 a1 h R = vcFn Go.Proofs.Try.prog pl37 Go.Proofs.Try.f37 [.lf (.int .u64 a0), .lf (.int .i64 a1)] h [.one .slc] R := by kernel_rfl
theorem ok37 {a0 : Int} {a1 : Int} {h : Heap} {R : Slc → Heap → Prop} (hv : vc37 a0 a1 h R) : Call Go.Proofs.Try.prog 37 [.lf (.int .u64 a0), .lf (.int .i64 a1)] h [.one .slc] R := call_eq hng hmix Go.Proofs.Try.func37 (eq37 a0 a1 h R) hv
/- 38: sediment.sedimentref03.most (kind) -/
def pl38 : Plan := {
  blk := fun _ => none
  seq := fun _ => none
  loop := fun _ => none
  live := fun | 0 => some [0] | 1 => some [3] | 2 => some [3, 4] | 3 => some [2] | 4 => some [6] | 5 => some [2] | 6 => some [2] | _ => none
  track := fun | _ => false
  draw := fun | _ => .done
  iter := fun | _ => none }
def vc38 (a0 : Int) (h : Heap) (R : Int → Heap → Prop) : Prop :=
  Br (a0 == (1 : Int)) (R (16384 : Int) h) (Br (a0 == (2 : Int)) (R (1024 : Int) h) (R (9223372036854775807 : Int) h))
theorem eq38 (a0 : Int) (h : Heap) (R : Int → Heap → Prop) : vc38 a0 h R = vcFn Go.Proofs.Try.prog pl38 Go.Proofs.Try.f38 [.lf (.int .i64 a0)] h [.one (.int .i64)] R := by kernel_rfl
theorem ok38 {a0 : Int} {h : Heap} {R : Int → Heap → Prop} (hv : vc38 a0 h R) : Call Go.Proofs.Try.prog 38 [.lf (.int .i64 a0)] h [.one (.int .i64)] R := call_eq hng hmix Go.Proofs.Try.func38 (eq38 a0 h R) hv
/- 43: sediment.sedimentref03.Plain (r) -/
def pl43 : Plan := {
  blk := fun _ => none
  seq := fun _ => none
  loop := fun _ => none
  live := fun | 0 => some [1, 2] | 1 => some [1, 2, 5] | 2 => some [1, 2] | 3 => some [2] | _ => none
  track := fun | 1 => true | 2 => true | _ => false
  draw := fun | _ => .done
  iter := fun | _ => none }
def vc43 (a0 : Int) (a1 : Int) (a2 : ByteArray) (a3 : ByteArray) (h : Heap) (R : Int → Int → ByteArray → ByteArray → Heap → Prop) : Prop :=
  New 31 [Lf.int IntKind.u32 a0, Lf.int IntKind.i64 a1, Lf.str a2, Lf.str a3] h fun (b0 : Nat) (h1 : Heap) =>
    New 31 [Lf.int IntKind.u32 (0 : Int), Lf.int IntKind.i64 (0 : Int), Lf.str (ByteArray.mk #[]), Lf.str (ByteArray.mk #[])] h1
      fun (b2 : Nat) (h3 : Heap) =>
      Br (a1 == (0 : Int))
        (Set b0 31 [Lf.int IntKind.u32 a0, Lf.int IntKind.i64 a1, Lf.str a2, Lf.str (ByteArray.mk #[])] h3 fun (h4 : Heap) =>
          Set b2 31 [Lf.int IntKind.u32 a0, Lf.int IntKind.i64 a1, Lf.str a2, Lf.str (ByteArray.mk #[])] h4 fun (h5 : Heap) =>
            R a0 a1 a2 (ByteArray.mk #[]) h5)
        (Set b2 31 [Lf.int IntKind.u32 a0, Lf.int IntKind.i64 a1, Lf.str a2, Lf.str a3] h3 fun (h6 : Heap) => R a0 a1 a2 a3 h6)
theorem eq43 (a0 : Int) (a1 : Int) (a2 : ByteArray) (a3 : ByteArray) (h : Heap) (R : Int → Int → ByteArray → ByteArray → Heap → Prop) : vc43 a0 a1 a2 a3 h R = vcFn Go.Proofs.Try.prog pl43 Go.Proofs.Try.f43 [.agg [.int .u32 a0, .int .i64 a1, .str a2, .str a3]] h [.agg [.int .u32, .int .i64, .str, .str]] R := by kernel_rfl
theorem ok43 {a0 : Int} {a1 : Int} {a2 : ByteArray} {a3 : ByteArray} {h : Heap} {R : Int → Int → ByteArray → ByteArray → Heap → Prop} (hv : vc43 a0 a1 a2 a3 h R) : Call Go.Proofs.Try.prog 43 [.agg [.int .u32 a0, .int .i64 a1, .str a2, .str a3]] h [.agg [.int .u32, .int .i64, .str, .str]] R := call_eq hng hmix Go.Proofs.Try.func43 (eq43 a0 a1 a2 a3 h R) hv
/- 44: sediment.sedimentref01.ReadFixed (b, many) · loop 5: n, i -/
def pl44 : Plan := {
  blk := fun _ => none
  seq := fun _ => none
  loop := fun | 5 => some ⟨[(6, .one (.int .u64)), (7, .one (.int .i64))], [], []⟩ | _ => none
  live := fun | 0 => some [0, 1] | 1 => some [0, 1, 11] | 2 => some [4, 5] | 3 => some [0, 1, 6] | 4 => some [0, 6, 7] | 5 => some [0, 6, 7, 15] | 6 => some [0, 6, 7] | 7 => some [0, 6, 7] | 8 => some [4, 5] | _ => none
  track := fun | _ => false
  draw := fun | _ => .done
  iter := fun | _ => none }
def vc44 (a0 : Slc) (a1 : Int) (h : Heap) (R : Int → Int → Heap → Prop) : Prop :=
  Br (Decidable.decide ((↑(Slc.len a0) : Int) < a1)) (R (0 : Int) (4 : Int) h)
    (∃ (I0 : Int → Int → Heap → Nat → Prop),
      (∃ (b1 : Nat), I0 (0 : Int) (IntKind.wrap IntKind.i64 (a1 - (1 : Int))) h b1) ∧
        ∀ (i2 i3 : Int) (h4 : Heap) (b5 : Nat),
          I0 i2 i3 h4 b5 →
            Br (Decidable.decide (i3 ≥ (0 : Int)))
              ((0 : Int) ≤ (8 : Int) ∧
                IxC a0 i3 1 fun (b6 b7 : Nat) =>
                  ∃ (i8 : Int),
                    cellsAt h4 b6 b7 [Lf.int IntKind.u8 i8] ∧
                      ∃ (b9 : Nat),
                        b9 < b5 ∧
                          I0 (bitop IntKind.u64 BinOp.or (shiftL IntKind.u64 i2 (8 : Int)) (IntKind.wrap IntKind.u64 i8)) (IntKind.wrap IntKind.i64 (i3 - (1 : Int))) h4
                            b9)
              (R i2 (0 : Int) h4))
theorem eq44 (a0 : Slc) (a1 : Int) (h : Heap) (R : Int → Int → Heap → Prop) : vc44 a0 a1 h R = vcFn Go.Proofs.Try.prog pl44 Go.Proofs.Try.f44 [.lf (.slc a0), .lf (.int .i64 a1)] h [.one (.int .u64), .one (.int .i64)] R := by kernel_rfl
theorem ok44 {a0 : Slc} {a1 : Int} {h : Heap} {R : Int → Int → Heap → Prop} (hv : vc44 a0 a1 h R) : Call Go.Proofs.Try.prog 44 [.lf (.slc a0), .lf (.int .i64 a1)] h [.one (.int .u64), .one (.int .i64)] R := call_eq hng hmix Go.Proofs.Try.func44 (eq44 a0 a1 h R) hv
/- 58: sediment.codec.read (b, size) -/
def pl58 : Plan := {
  blk := fun _ => none
  seq := fun _ => none
  loop := fun _ => none
  live := fun | 0 => some [0, 1] | 1 => some [0, 1, 12] | 2 => some [4, 5] | 3 => some [0, 1, 6] | 4 => some [6, 16] | 5 => some [6, 8] | 6 => some [] | 7 => some [4, 5] | _ => none
  track := fun | _ => false
  draw := fun | _ => .done
  iter := fun | _ => none
  yt := fun | 5 => some [.one (.int .i64), .one (.int .u8)] | _ => none }
def vc58 (a0 : Slc) (a1 : Int) (h : Heap) (R : Int → Int → Heap → Prop) : Prop :=
  Br (Decidable.decide ((↑(Slc.len a0) : Int) < a1)) (R (0 : Int) (4 : Int) h)
    (New 39 [Lf.int IntKind.u64 (0 : Int)] h fun (b0 : Nat) (h1 : Heap) =>
      StC h1 b0 0 [Lf.int IntKind.u64 (0 : Int)] fun (h2 : Heap) =>
        (0 : Int) ≤ a1 ∧
          a1 ≤ (↑(Slc.cap a0) : Int) ∧
            Call Go.Proofs.Try.prog 68 [VV.lf (Lf.slc (Slc.sub a0 1 0 (Int.toNat a1) (Slc.cap a0)))] h2 [VT.one LT.raw]
              fun (x3 : Value) (h4 : Heap) =>
              ∀ (lp5 : Loop),
                LoopC lp5 h4 fun (b6 b7 : Nat) (h8 : Heap) =>
                  (∀ (h9 : Heap) (I10 : Bool → Heap → Prop),
                      LAt h9 b7 lp5 →
                        ∀ (i11 i12 : Int),
                          (LBusy h9 b7 lp5 fun (h13 : Heap) =>
                              ∃ (i14 : Int),
                                cellsAt h13 b0 0 [Lf.int IntKind.u64 i14] ∧
                                  (0 : Int) ≤ (8 : Int) ∧
                                    StC h13 b0 0
                                      [Lf.int IntKind.u64 (bitop IntKind.u64 BinOp.or (shiftL IntKind.u64 i14 (8 : Int)) (IntKind.wrap IntKind.u64 i12))]
                                      fun (h15 : Heap) => LReady h15 b7 lp5 fun (h16 : Heap) => I10 Bool.true h16) →
                            CallV Go.Proofs.Try.prog (yv b7) [VV.lf (Lf.int IntKind.i64 i11), VV.lf (Lf.int IntKind.u8 i12)] h9 [VT.one LT.bool]
                              fun (c17 : Bool) (h18 : Heap) => I10 c17 h18) →
                    CallF Go.Proofs.Try.prog x3 [VV.lf (Lf.raw (yv b7))] h8 [] fun (h19 : Heap) =>
                      LEnd h19 b7 lp5 fun (h20 : Heap) =>
                        ∃ (i21 : Int), cellsAt h20 b0 0 [Lf.int IntKind.u64 i21] ∧ CollC h20 b6 fun (h22 : Heap) => R i21 (0 : Int) h22)
theorem eq58 (a0 : Slc) (a1 : Int) (h : Heap) (R : Int → Int → Heap → Prop) : vc58 a0 a1 h R = vcFn Go.Proofs.Try.prog pl58 Go.Proofs.Try.f58 [.lf (.slc a0), .lf (.int .i64 a1)] h [.one (.int .u64), .one (.int .i64)] R := by kernel_rfl
theorem ok58 {a0 : Slc} {a1 : Int} {h : Heap} {R : Int → Int → Heap → Prop} (hv : vc58 a0 a1 h R) : Call Go.Proofs.Try.prog 58 [.lf (.slc a0), .lf (.int .i64 a1)] h [.one (.int .u64), .one (.int .i64)] R := call_eq hng hmix Go.Proofs.Try.func58 (eq58 a0 a1 h R) hv
/- 68: slices.Backward[[]byte,byte] (s) -/
def pl68 : Plan := {
  blk := fun _ => none
  seq := fun _ => none
  loop := fun _ => none
  live := fun | 0 => some [1] | 1 => some [2] | _ => none
  track := fun | _ => false
  draw := fun | _ => .done
  iter := fun | _ => none }
def vc68 (a0 : Slc) (h : Heap) (R : Value → Heap → Prop) : Prop :=
  New 40 [Lf.slc a0] h fun (b0 : Nat) (h1 : Heap) => R (Value.func (Fn.func 73) #[] #[Value.pointer (Option.some (Addr.mk b0 0 Option.none))]) h1
theorem eq68 (a0 : Slc) (h : Heap) (R : Value → Heap → Prop) : vc68 a0 h R = vcFn Go.Proofs.Try.prog pl68 Go.Proofs.Try.f68 [.lf (.slc a0)] h [.one .raw] R := by kernel_rfl
theorem ok68 {a0 : Slc} {h : Heap} {R : Value → Heap → Prop} (hv : vc68 a0 h R) : Call Go.Proofs.Try.prog 68 [.lf (.slc a0)] h [.one .raw] R := call_eq hng hmix Go.Proofs.Try.func68 (eq68 a0 h R) hv
/- 73: slices.Backward[[]byte,byte]$1 (yield) · loop 1: i -/
def pl73 : Plan := {
  blk := fun _ => none
  seq := fun _ => none
  loop := fun | 1 => some ⟨[(3, .one (.int .i64))], [], []⟩ | _ => none
  live := fun | 0 => some [0, 1, 3] | 1 => some [0, 1, 3, 8] | 2 => some [0, 1, 3] | 3 => some [0, 1, 3, 18] | _ => none
  track := fun | _ => false
  draw := fun | _ => .done
  iter := fun | _ => none }
def vc73 (a0 : Value) (f0 : Nat) (o0 : Nat) (h : Heap) (R : Heap → Prop) : Prop :=
  ∃ (s0 : Slc),
    cellsAt h f0 o0 [Lf.slc s0] ∧
      ∃ (I1 : Int → Heap → Nat → Prop),
        (∃ (b2 : Nat), I1 (IntKind.wrap IntKind.i64 ((↑(Slc.len s0) : Int) - (1 : Int))) h b2) ∧
          ∀ (i3 : Int) (h4 : Heap) (b5 : Nat),
            I1 i3 h4 b5 →
              Br (Decidable.decide (i3 ≥ (0 : Int)))
                (∃ (s6 : Slc),
                  cellsAt h4 f0 o0 [Lf.slc s6] ∧
                    IxC s6 i3 1 fun (b7 b8 : Nat) =>
                      ∃ (i9 : Int),
                        cellsAt h4 b7 b8 [Lf.int IntKind.u8 i9] ∧
                          CallV Go.Proofs.Try.prog a0 [VV.lf (Lf.int IntKind.i64 i3), VV.lf (Lf.int IntKind.u8 i9)] h4 [VT.one LT.bool]
                            fun (c10 : Bool) (h11 : Heap) => Br (!c10) (R h11) (∃ (b12 : Nat), b12 < b5 ∧ I1 (IntKind.wrap IntKind.i64 (i3 - (1 : Int))) h11 b12))
                (R h4)
theorem eq73 (a0 : Value) (f0 : Nat) (o0 : Nat) (h : Heap) (R : Heap → Prop) : vc73 a0 f0 o0 h R = vcFn Go.Proofs.Try.prog pl73 Go.Proofs.Try.f73 [.lf (.raw a0), .lf (.ptr (some (f0, o0)))] h [] R := by kernel_rfl
theorem ok73 {a0 : Value} {f0 : Nat} {o0 : Nat} {h : Heap} {R : Heap → Prop} (hv : vc73 a0 f0 o0 h R) : Call Go.Proofs.Try.prog 73 [.lf (.raw a0), .lf (.ptr (some (f0, o0)))] h [] R := call_eq hng hmix Go.Proofs.Try.func73 (eq73 a0 f0 o0 h R) hv
/- 40: sediment.codec.ReadFixed64 (b) -/
def pl40 : Plan := {
  blk := fun _ => none
  seq := fun _ => none
  loop := fun _ => none
  live := fun | 0 => some [0] | 1 => some [2, 3] | _ => none
  track := fun | _ => false
  draw := fun | _ => .done
  iter := fun | _ => none }
def vc40 (a0 : Slc) (h : Heap) (R : Int → Int → Heap → Prop) : Prop :=
  Call Go.Proofs.Try.prog 58 [VV.lf (Lf.slc a0), VV.lf (Lf.int IntKind.i64 (8 : Int))] h
    [VT.one (LT.int IntKind.u64), VT.one (LT.int IntKind.i64)] fun (i0 i1 : Int) (h2 : Heap) => R i0 i1 h2
theorem eq40 (a0 : Slc) (h : Heap) (R : Int → Int → Heap → Prop) : vc40 a0 h R = vcFn Go.Proofs.Try.prog pl40 Go.Proofs.Try.f40 [.lf (.slc a0)] h [.one (.int .u64), .one (.int .i64)] R := by kernel_rfl
theorem ok40 {a0 : Slc} {h : Heap} {R : Int → Int → Heap → Prop} (hv : vc40 a0 h R) : Call Go.Proofs.Try.prog 40 [.lf (.slc a0)] h [.one (.int .u64), .one (.int .i64)] R := call_eq hng hmix Go.Proofs.Try.func40 (eq40 a0 h R) hv
/- 41: sediment.codec.ReadFixed32 (b) -/
def pl41 : Plan := {
  blk := fun _ => none
  seq := fun _ => none
  loop := fun _ => none
  live := fun | 0 => some [0] | 1 => some [4, 5] | 2 => some [2, 3] | _ => none
  track := fun | _ => false
  draw := fun | _ => .done
  iter := fun | _ => none }
def vc41 (a0 : Slc) (h : Heap) (R : Int → Int → Heap → Prop) : Prop :=
  Call Go.Proofs.Try.prog 58 [VV.lf (Lf.slc a0), VV.lf (Lf.int IntKind.i64 (4 : Int))] h
    [VT.one (LT.int IntKind.u64), VT.one (LT.int IntKind.i64)] fun (i0 i1 : Int) (h2 : Heap) => R (IntKind.wrap IntKind.u32 i0) i1 h2
theorem eq41 (a0 : Slc) (h : Heap) (R : Int → Int → Heap → Prop) : vc41 a0 h R = vcFn Go.Proofs.Try.prog pl41 Go.Proofs.Try.f41 [.lf (.slc a0)] h [.one (.int .u32), .one (.int .i64)] R := by kernel_rfl
theorem ok41 {a0 : Slc} {h : Heap} {R : Int → Int → Heap → Prop} (hv : vc41 a0 h R) : Call Go.Proofs.Try.prog 41 [.lf (.slc a0)] h [.one (.int .u32), .one (.int .i64)] R := call_eq hng hmix Go.Proofs.Try.func41 (eq41 a0 h R) hv
/- 69: sediment.codec.ReadVarint (b) · seq 7: #15 · loop 3: n, #10 -/
def pl69 : Plan := {
  blk := fun _ => none
  seq := fun | 7 => some ⟨[(15, .one .bool)], [], []⟩ | _ => none
  loop := fun | 3 => some ⟨[(5, .one (.int .u64)), (10, .one (.int .i64))], [], []⟩ | _ => none
  live := fun | 0 => some [0] | 1 => some [0, 5] | 2 => some [5, 8, 9, 10] | 3 => some [5, 8, 9, 10, 11] | 4 => some [5, 6, 7, 8, 9, 10] | 5 => some [5, 6, 7, 8, 9, 10, 15] | 6 => some [5, 6, 7, 8, 9, 10, 15] | 7 => some [2, 3, 4] | 8 => some [5, 6, 7, 8, 9, 10] | 9 => some [5, 6, 8, 9, 10, 37] | 10 => some [2, 3, 4] | 11 => some [5, 8, 9, 10] | 12 => some [2, 3, 4] | _ => none
  track := fun | _ => false
  draw := fun | _ => .done
  iter := fun | _ => none }
def vc69 (a0 : Slc) (h : Heap) (R : Int → Int → Int → Heap → Prop) : Prop :=
  ∃ (I0 : Int → Int → Heap → Nat → Prop),
    (∃ (b1 : Nat), I0 (0 : Int) (0 : Int) h b1) ∧
      ∀ (i2 i3 : Int) (h4 : Heap) (b5 : Nat),
        I0 i2 i3 h4 b5 →
          Br (Decidable.decide (i3 < (↑(Slc.len a0) : Int)))
            (IxC a0 i3 1 fun (b6 b7 : Nat) =>
              ∃ (i8 : Int),
                cellsAt h4 b6 b7 [Lf.int IntKind.u8 i8] ∧
                  ∃ (I9 : Bool → Heap → Prop),
                    Br (i3 == (9 : Int))
                        (Br (Decidable.decide (i8 > (1 : Int))) (I9 (Decidable.decide (i8 > (1 : Int))) h4)
                          (Br (Decidable.decide (i3 > (0 : Int))) (I9 (i8 == (0 : Int)) h4) (I9 Bool.false h4)))
                        (Br (Decidable.decide (i3 > (0 : Int))) (I9 (i8 == (0 : Int)) h4) (I9 Bool.false h4)) ∧
                      ∀ (c10 : Bool) (h11 : Heap),
                        I9 c10 h11 →
                          Br c10 (R (0 : Int) (0 : Int) (3 : Int) h11)
                            ((0 : Int) ≤ IntKind.wrap IntKind.i64 ((7 : Int) * i3) ∧
                              Br (Decidable.decide (i8 < (128 : Int)))
                                (R
                                  (bitop IntKind.u64 BinOp.or i2
                                    (shiftL IntKind.u64 (IntKind.wrap IntKind.u64 (bitop IntKind.u8 BinOp.and i8 (127 : Int)))
                                      (IntKind.wrap IntKind.i64 ((7 : Int) * i3))))
                                  (IntKind.wrap IntKind.i64 (i3 + (1 : Int))) (0 : Int) h11)
                                (∃ (b12 : Nat),
                                  b12 < b5 ∧
                                    I0
                                      (bitop IntKind.u64 BinOp.or i2
                                        (shiftL IntKind.u64 (IntKind.wrap IntKind.u64 (bitop IntKind.u8 BinOp.and i8 (127 : Int)))
                                          (IntKind.wrap IntKind.i64 ((7 : Int) * i3))))
                                      (IntKind.wrap IntKind.i64 (i3 + (1 : Int))) h11 b12)))
            (R (0 : Int) (0 : Int) (4 : Int) h4)
theorem eq69 (a0 : Slc) (h : Heap) (R : Int → Int → Int → Heap → Prop) : vc69 a0 h R = vcFn Go.Proofs.Try.prog pl69 Go.Proofs.Try.f69 [.lf (.slc a0)] h [.one (.int .u64), .one (.int .i64), .one (.int .i64)] R := by kernel_rfl
theorem ok69 {a0 : Slc} {h : Heap} {R : Int → Int → Int → Heap → Prop} (hv : vc69 a0 h R) : Call Go.Proofs.Try.prog 69 [.lf (.slc a0)] h [.one (.int .u64), .one (.int .i64), .one (.int .i64)] R := call_eq hng hmix Go.Proofs.Try.func69 (eq69 a0 h R) hv
/- 70: sediment.sedimentref01.ReadVarint (b) · seq 8:  · loop 3: n, i -/
def pl70 : Plan := {
  blk := fun _ => none
  seq := fun | 8 => some ⟨[], [], []⟩ | _ => none
  loop := fun | 3 => some ⟨[(5, .one (.int .u64)), (6, .one (.int .i64))], [], []⟩ | _ => none
  live := fun | 0 => some [0] | 1 => some [0, 5] | 2 => some [0, 5, 6] | 3 => some [0, 5, 6, 11] | 4 => some [0, 5, 6] | 5 => some [0, 5, 6, 7] | 6 => some [0, 5, 6, 7, 32] | 7 => some [2, 3, 4] | 8 => some [0, 5, 6, 7] | 9 => some [0, 5, 6, 42] | 10 => some [2, 3, 4] | 11 => some [2, 3, 4] | _ => none
  track := fun | _ => false
  draw := fun | _ => .done
  iter := fun | _ => none }
def vc70 (a0 : Slc) (h : Heap) (R : Int → Int → Int → Heap → Prop) : Prop :=
  ∃ (I0 : Int → Int → Heap → Nat → Prop),
    (∃ (b1 : Nat), I0 (0 : Int) (0 : Int) h b1) ∧
      ∀ (i2 i3 : Int) (h4 : Heap) (b5 : Nat),
        I0 i2 i3 h4 b5 →
          Br (Decidable.decide (i3 < (↑(Slc.len a0) : Int)))
            (IxC a0 i3 1 fun (b6 b7 : Nat) =>
              ∃ (i8 : Int),
                cellsAt h4 b6 b7 [Lf.int IntKind.u8 i8] ∧
                  ∃ (I9 : Heap → Prop),
                    Br (i3 == (9 : Int))
                        (Br (Decidable.decide (IntKind.wrap IntKind.u64 i8 > (1 : Int))) (R (0 : Int) (0 : Int) (3 : Int) h4)
                          (Br (Decidable.decide (i3 > (0 : Int))) (Br (IntKind.wrap IntKind.u64 i8 == (0 : Int)) (R (0 : Int) (0 : Int) (3 : Int) h4) (I9 h4)) (I9 h4)))
                        (Br (Decidable.decide (i3 > (0 : Int))) (Br (IntKind.wrap IntKind.u64 i8 == (0 : Int)) (R (0 : Int) (0 : Int) (3 : Int) h4) (I9 h4)) (I9 h4)) ∧
                      ∀ (h10 : Heap),
                        I9 h10 →
                          (0 : Int) ≤ IntKind.wrap IntKind.u64 (IntKind.wrap IntKind.i64 ((7 : Int) * i3)) ∧
                            Br (Decidable.decide (IntKind.wrap IntKind.u64 i8 < (128 : Int)))
                              (R
                                (bitop IntKind.u64 BinOp.or i2
                                  (shiftL IntKind.u64 (bitop IntKind.u64 BinOp.and (IntKind.wrap IntKind.u64 i8) (127 : Int))
                                    (IntKind.wrap IntKind.u64 (IntKind.wrap IntKind.i64 ((7 : Int) * i3)))))
                                (IntKind.wrap IntKind.i64 (i3 + (1 : Int))) (0 : Int) h10)
                              (∃ (b11 : Nat),
                                b11 < b5 ∧
                                  I0
                                    (bitop IntKind.u64 BinOp.or i2
                                      (shiftL IntKind.u64 (bitop IntKind.u64 BinOp.and (IntKind.wrap IntKind.u64 i8) (127 : Int))
                                        (IntKind.wrap IntKind.u64 (IntKind.wrap IntKind.i64 ((7 : Int) * i3)))))
                                    (IntKind.wrap IntKind.i64 (i3 + (1 : Int))) h10 b11))
            (R (0 : Int) (0 : Int) (4 : Int) h4)
theorem eq70 (a0 : Slc) (h : Heap) (R : Int → Int → Int → Heap → Prop) : vc70 a0 h R = vcFn Go.Proofs.Try.prog pl70 Go.Proofs.Try.f70 [.lf (.slc a0)] h [.one (.int .u64), .one (.int .i64), .one (.int .i64)] R := by kernel_rfl
theorem ok70 {a0 : Slc} {h : Heap} {R : Int → Int → Int → Heap → Prop} (hv : vc70 a0 h R) : Call Go.Proofs.Try.prog 70 [.lf (.slc a0)] h [.one (.int .u64), .one (.int .i64), .one (.int .i64)] R := call_eq hng hmix Go.Proofs.Try.func70 (eq70 a0 h R) hv
/- 59: (*sediment.batch.reader).byte (r) · seq 3:  -/
def pl59 : Plan := {
  blk := fun _ => none
  seq := fun | 3 => some ⟨[], [], []⟩ | _ => none
  loop := fun _ => none
  live := fun | 0 => some [0] | 1 => some [0, 9] | 2 => some [0] | 3 => some [0, 3] | 4 => some [3] | 5 => some [2] | _ => none
  track := fun | _ => false
  draw := fun | _ => .done
  iter := fun | _ => none }
def vc59 (a0 : Option (Nat × Nat)) (h : Heap) (R : Int → Heap → Prop) (Rp : TypeId → Value → Heap → Prop) : Prop :=
  ∃ (I0 : Heap → Prop),
    (NilC a0 fun (b1 b2 : Nat) =>
        ∃ (s3 : Slc), cellsAt h b1 (b2 + 0) [Lf.slc s3] ∧ Br ((↑(Slc.len s3) : Int) == (0 : Int)) (Rp 27 (Value.int IntKind.i64 (4 : Int)) h) (I0 h)) ∧
      ∀ (h4 : Heap),
        I0 h4 →
          NilC a0 fun (b5 b6 : Nat) =>
            ∃ (s7 : Slc),
              cellsAt h4 b5 (b6 + 0) [Lf.slc s7] ∧
                IxC s7 (0 : Int) 1 fun (b8 b9 : Nat) =>
                  ∃ (i10 : Int),
                    cellsAt h4 b8 b9 [Lf.int IntKind.u8 i10] ∧
                      NilC a0 fun (b11 b12 : Nat) =>
                        ∃ (s13 : Slc),
                          cellsAt h4 b11 (b12 + 0) [Lf.slc s13] ∧
                            (0 : Int) ≤ (1 : Int) ∧
                              (1 : Int) ≤ (↑(Slc.len s13) : Int) ∧
                                NilC a0 fun (b14 b15 : Nat) =>
                                  StC h4 b14 (b15 + 0) [Lf.slc (Slc.sub s13 1 1 (Slc.len s13) (Slc.cap s13))] fun (h16 : Heap) => R i10 h16
theorem eq59 (a0 : Option (Nat × Nat)) (h : Heap) (R : Int → Heap → Prop) (Rp : TypeId → Value → Heap → Prop) : vc59 a0 h R Rp = vcFnP Go.Proofs.Try.prog pl59 Go.Proofs.Try.f59 [.lf (.ptr a0)] h [.one (.int .u8)] R Rp := by kernel_rfl
theorem ok59 {a0 : Option (Nat × Nat)} {h : Heap} {R : Int → Heap → Prop} {Rp : TypeId → Value → Heap → Prop} (hv : vc59 a0 h R Rp) : CallP Go.Proofs.Try.prog 59 [.lf (.ptr a0)] h [.one (.int .u8)] R Rp := callP_eq hng hmix Go.Proofs.Try.func59 (eq59 a0 h R Rp) hv
/- 60: (*sediment.batch.reader).varint (r, most) -/
def pl60 : Plan := {
  blk := fun _ => none
  seq := fun _ => none
  loop := fun _ => none
  live := fun | 0 => some [0, 1] | 1 => some [0, 1, 5, 6, 7] | 2 => some [0, 1, 5, 6, 7, 17] | 3 => some [0, 5, 6] | 4 => some [0, 5, 6, 22] | 5 => some [0, 5, 6] | 6 => some [5] | 7 => some [4] | _ => none
  track := fun | _ => false
  draw := fun | _ => .done
  iter := fun | _ => none }
def vc60 (a0 : Option (Nat × Nat)) (a1 : Int) (h : Heap) (R : Int → Heap → Prop) (Rp : TypeId → Value → Heap → Prop) : Prop :=
  NilC a0 fun (b0 b1 : Nat) =>
    ∃ (s2 : Slc),
      cellsAt h b0 (b1 + 0) [Lf.slc s2] ∧
        Call Go.Proofs.Try.prog 69 [VV.lf (Lf.slc s2)] h
          [VT.one (LT.int IntKind.u64), VT.one (LT.int IntKind.i64), VT.one (LT.int IntKind.i64)] fun (i3 i4 i5 : Int) (h6 : Heap) =>
          Br (i5 != (0 : Int)) (Rp 27 (Value.int IntKind.i64 i5) h6)
            (Br (Decidable.decide (i3 > a1)) (Rp 27 (Value.int IntKind.i64 (3 : Int)) h6)
              (NilC a0 fun (b7 b8 : Nat) =>
                ∃ (s9 : Slc),
                  cellsAt h6 b7 (b8 + 0) [Lf.slc s9] ∧
                    (0 : Int) ≤ i4 ∧
                      i4 ≤ (↑(Slc.len s9) : Int) ∧
                        NilC a0 fun (b10 b11 : Nat) =>
                          StC h6 b10 (b11 + 0) [Lf.slc (Slc.sub s9 1 (Int.toNat i4) (Slc.len s9) (Slc.cap s9))] fun (h12 : Heap) => R i3 h12))
theorem eq60 (a0 : Option (Nat × Nat)) (a1 : Int) (h : Heap) (R : Int → Heap → Prop) (Rp : TypeId → Value → Heap → Prop) : vc60 a0 a1 h R Rp = vcFnP Go.Proofs.Try.prog pl60 Go.Proofs.Try.f60 [.lf (.ptr a0), .lf (.int .u64 a1)] h [.one (.int .u64)] R Rp := by kernel_rfl
theorem ok60 {a0 : Option (Nat × Nat)} {a1 : Int} {h : Heap} {R : Int → Heap → Prop} {Rp : TypeId → Value → Heap → Prop} (hv : vc60 a0 a1 h R Rp) : CallP Go.Proofs.Try.prog 60 [.lf (.ptr a0), .lf (.int .u64 a1)] h [.one (.int .u64)] R Rp := callP_eq hng hmix Go.Proofs.Try.func60 (eq60 a0 a1 h R Rp) hv
/- 61: (*sediment.batch.reader).text (r, most) · seq 4:  -/
def pl61 : Plan := {
  blk := fun _ => none
  seq := fun | 4 => some ⟨[], [], []⟩ | _ => none
  loop := fun _ => none
  live := fun | 0 => some [0, 1] | 1 => some [0, 5] | 2 => some [0, 5, 17] | 3 => some [0, 5] | 4 => some [0, 5, 6] | 5 => some [6] | 6 => some [4] | _ => none
  track := fun | _ => false
  draw := fun | _ => .done
  iter := fun | _ => none
  pan := fun | 60 => true | _ => false }
def vc61 (a0 : Option (Nat × Nat)) (a1 : Int) (h : Heap) (R : ByteArray → Heap → Prop) (Rp : TypeId → Value → Heap → Prop) : Prop :=
  CallP Go.Proofs.Try.prog 60 [VV.lf (Lf.ptr a0), VV.lf (Lf.int IntKind.u64 a1)] h [VT.one (LT.int IntKind.u64)]
    (fun (i0 : Int) (h1 : Heap) =>
      ∃ (I2 : Heap → Prop),
        (NilC a0 fun (b3 b4 : Nat) =>
            ∃ (s5 : Slc),
              cellsAt h1 b3 (b4 + 0) [Lf.slc s5] ∧
                Br (Decidable.decide (i0 > IntKind.wrap IntKind.u64 (↑(Slc.len s5) : Int))) (Rp 27 (Value.int IntKind.i64 (4 : Int)) h1) (I2 h1)) ∧
          ∀ (h6 : Heap),
            I2 h6 →
              NilC a0 fun (b7 b8 : Nat) =>
                ∃ (s9 : Slc),
                  cellsAt h6 b7 (b8 + 0) [Lf.slc s9] ∧
                    (0 : Int) ≤ i0 ∧
                      i0 ≤ (↑(Slc.cap s9) : Int) ∧
                        ∃ (t10 : ByteArray),
                          bytesAt h6 (Slc.sub s9 1 0 (Int.toNat i0) (Slc.cap s9)) t10 ∧
                            NilC a0 fun (b11 b12 : Nat) =>
                              ∃ (s13 : Slc),
                                cellsAt h6 b11 (b12 + 0) [Lf.slc s13] ∧
                                  (0 : Int) ≤ i0 ∧
                                    i0 ≤ (↑(Slc.len s13) : Int) ∧
                                      NilC a0 fun (b14 b15 : Nat) =>
                                        StC h6 b14 (b15 + 0) [Lf.slc (Slc.sub s13 1 (Int.toNat i0) (Slc.len s13) (Slc.cap s13))] fun (h16 : Heap) =>
                                          R t10 h16)
    fun (b17 : Nat) (x18 : Value) (h19 : Heap) => Rp b17 x18 h19
theorem eq61 (a0 : Option (Nat × Nat)) (a1 : Int) (h : Heap) (R : ByteArray → Heap → Prop) (Rp : TypeId → Value → Heap → Prop) : vc61 a0 a1 h R Rp = vcFnP Go.Proofs.Try.prog pl61 Go.Proofs.Try.f61 [.lf (.ptr a0), .lf (.int .u64 a1)] h [.one .str] R Rp := by kernel_rfl
theorem ok61 {a0 : Option (Nat × Nat)} {a1 : Int} {h : Heap} {R : ByteArray → Heap → Prop} {Rp : TypeId → Value → Heap → Prop} (hv : vc61 a0 a1 h R Rp) : CallP Go.Proofs.Try.prog 61 [.lf (.ptr a0), .lf (.int .u64 a1)] h [.one .str] R Rp := callP_eq hng hmix Go.Proofs.Try.func61 (eq61 a0 a1 h R Rp) hv
/- 42: (*sediment.batch.reader).record (r) · seq 4:  -/
def pl42 : Plan := {
  blk := fun _ => none
  seq := fun | 4 => some ⟨[], [], []⟩ | _ => none
  loop := fun _ => none
  live := fun | 0 => some [0, 2] | 1 => some [0, 2, 3] | 2 => some [0, 2, 3, 10] | 3 => some [0, 2, 3] | 4 => some [0, 2, 3] | 5 => some [0, 2, 3] | 6 => some [0, 2, 3, 20] | 7 => some [0, 2, 3, 20, 21] | 8 => some [2, 3] | 9 => some [0, 2, 3, 26] | 10 => some [2, 3] | 11 => some [2] | _ => none
  track := fun | 2 => true | 3 => true | _ => false
  draw := fun | _ => .done
  iter := fun | _ => none
  pan := fun | 59 => true | 60 => true | 61 => true | _ => false }
def vc42 (a0 : Option (Nat × Nat)) (h : Heap) (R : Int → Int → ByteArray → ByteArray → Heap → Prop) (Rp : TypeId → Value → Heap → Prop) : Prop :=
  New 31 [Lf.int IntKind.u32 (0 : Int), Lf.int IntKind.i64 (0 : Int), Lf.str (ByteArray.mk #[]), Lf.str (ByteArray.mk #[])] h fun (b0 : Nat) (h1 : Heap) =>
    CallP Go.Proofs.Try.prog 59 [VV.lf (Lf.ptr a0)] h1 [VT.one (LT.int IntKind.u8)]
      (fun (i2 : Int) (h3 : Heap) =>
        keepB h1 h3 [b0] ∧
          New 31 [Lf.int IntKind.u32 (0 : Int), Lf.int IntKind.i64 (0 : Int), Lf.str (ByteArray.mk #[]), Lf.str (ByteArray.mk #[])] h3
            fun (b4 : Nat) (h5 : Heap) =>
            Set b4 31
              [Lf.int IntKind.u32 (0 : Int), Lf.int IntKind.i64 (IntKind.wrap IntKind.i64 i2), Lf.str (ByteArray.mk #[]), Lf.str (ByteArray.mk #[])] h5
              fun (h6 : Heap) =>
              ∃ (I7 : Heap → Prop),
                Br (Decidable.decide (IntKind.wrap IntKind.i64 i2 > (2 : Int))) (Rp 27 (Value.int IntKind.i64 (3 : Int)) h6) (I7 h6) ∧
                  ∀ (h8 : Heap),
                    I7 h8 →
                      CallP Go.Proofs.Try.prog 60 [VV.lf (Lf.ptr a0), VV.lf (Lf.int IntKind.u64 (4294967295 : Int))] h8 [VT.one (LT.int IntKind.u64)]
                        (fun (i9 : Int) (h10 : Heap) =>
                          keepB h8 h10 [b0, b4] ∧
                            Set b4 31
                              [Lf.int IntKind.u32 (IntKind.wrap IntKind.u32 i9), Lf.int IntKind.i64 (IntKind.wrap IntKind.i64 i2), Lf.str (ByteArray.mk #[]),
                                Lf.str (ByteArray.mk #[])]
                              h10 fun (h11 : Heap) =>
                              CallP Go.Proofs.Try.prog 61 [VV.lf (Lf.ptr a0), VV.lf (Lf.int IntKind.u64 (1024 : Int))] h11 [VT.one LT.str]
                                (fun (t12 : ByteArray) (h13 : Heap) =>
                                  keepB h11 h13 [b0, b4] ∧
                                    Set b4 31
                                      [Lf.int IntKind.u32 (IntKind.wrap IntKind.u32 i9), Lf.int IntKind.i64 (IntKind.wrap IntKind.i64 i2), Lf.str t12,
                                        Lf.str (ByteArray.mk #[])]
                                      h13 fun (h14 : Heap) =>
                                      Br (IntKind.wrap IntKind.i64 i2 == (1 : Int))
                                        (CallP Go.Proofs.Try.prog 61 [VV.lf (Lf.ptr a0), VV.lf (Lf.int IntKind.u64 (16384 : Int))] h14 [VT.one LT.str]
                                          (fun (t15 : ByteArray) (h16 : Heap) =>
                                            keepB h14 h16 [b0, b4] ∧
                                              Set b4 31
                                                [Lf.int IntKind.u32 (IntKind.wrap IntKind.u32 i9), Lf.int IntKind.i64 (IntKind.wrap IntKind.i64 i2), Lf.str t12,
                                                  Lf.str t15]
                                                h16 fun (h17 : Heap) =>
                                                Set b0 31
                                                  [Lf.int IntKind.u32 (IntKind.wrap IntKind.u32 i9), Lf.int IntKind.i64 (IntKind.wrap IntKind.i64 i2), Lf.str t12,
                                                    Lf.str t15]
                                                  h17 fun (h18 : Heap) => R (IntKind.wrap IntKind.u32 i9) (IntKind.wrap IntKind.i64 i2) t12 t15 h18)
                                          fun (b19 : Nat) (x20 : Value) (h21 : Heap) => keepB h14 h21 [b0, b4] ∧ Rp b19 x20 h21)
                                        (Br (IntKind.wrap IntKind.i64 i2 == (2 : Int))
                                          (CallP Go.Proofs.Try.prog 61 [VV.lf (Lf.ptr a0), VV.lf (Lf.int IntKind.u64 (1024 : Int))] h14 [VT.one LT.str]
                                            (fun (t22 : ByteArray) (h23 : Heap) =>
                                              keepB h14 h23 [b0, b4] ∧
                                                Set b4 31
                                                  [Lf.int IntKind.u32 (IntKind.wrap IntKind.u32 i9), Lf.int IntKind.i64 (IntKind.wrap IntKind.i64 i2), Lf.str t12,
                                                    Lf.str t22]
                                                  h23 fun (h24 : Heap) =>
                                                  Set b0 31
                                                    [Lf.int IntKind.u32 (IntKind.wrap IntKind.u32 i9), Lf.int IntKind.i64 (IntKind.wrap IntKind.i64 i2), Lf.str t12,
                                                      Lf.str t22]
                                                    h24 fun (h25 : Heap) => R (IntKind.wrap IntKind.u32 i9) (IntKind.wrap IntKind.i64 i2) t12 t22 h25)
                                            fun (b26 : Nat) (x27 : Value) (h28 : Heap) => keepB h14 h28 [b0, b4] ∧ Rp b26 x27 h28)
                                          (Set b0 31
                                            [Lf.int IntKind.u32 (IntKind.wrap IntKind.u32 i9), Lf.int IntKind.i64 (IntKind.wrap IntKind.i64 i2), Lf.str t12,
                                              Lf.str (ByteArray.mk #[])]
                                            h14 fun (h29 : Heap) => R (IntKind.wrap IntKind.u32 i9) (IntKind.wrap IntKind.i64 i2) t12 (ByteArray.mk #[]) h29)))
                                fun (b30 : Nat) (x31 : Value) (h32 : Heap) => keepB h11 h32 [b0, b4] ∧ Rp b30 x31 h32)
                        fun (b33 : Nat) (x34 : Value) (h35 : Heap) => keepB h8 h35 [b0, b4] ∧ Rp b33 x34 h35)
      fun (b36 : Nat) (x37 : Value) (h38 : Heap) => keepB h1 h38 [b0] ∧ Rp b36 x37 h38
theorem eq42 (a0 : Option (Nat × Nat)) (h : Heap) (R : Int → Int → ByteArray → ByteArray → Heap → Prop) (Rp : TypeId → Value → Heap → Prop) : vc42 a0 h R Rp = vcFnP Go.Proofs.Try.prog pl42 Go.Proofs.Try.f42 [.lf (.ptr a0)] h [.agg [.int .u32, .int .i64, .str, .str]] R Rp := by kernel_rfl
theorem ok42 {a0 : Option (Nat × Nat)} {h : Heap} {R : Int → Int → ByteArray → ByteArray → Heap → Prop} {Rp : TypeId → Value → Heap → Prop} (hv : vc42 a0 h R Rp) : CallP Go.Proofs.Try.prog 42 [.lf (.ptr a0)] h [.agg [.int .u32, .int .i64, .str, .str]] R Rp := callP_eq hng hmix Go.Proofs.Try.func42 (eq42 a0 h R Rp) hv
/- 39: sediment.batch.Decode$1 () -/
def pl39 : Plan := {
  blk := fun _ => none
  seq := fun _ => none
  loop := fun _ => none
  live := fun | 0 => some [0, 1, 2, 3] | 1 => some [0, 1, 2, 3, 8] | 2 => some [0, 1, 2, 3, 4, 5] | 3 => some [0, 1, 2, 3, 4, 15] | 4 => some [0, 1, 2, 4] | 5 => some [] | _ => none
  track := fun | _ => false
  draw := fun | _ => .done
  iter := fun | _ => none }
def vc39r (f0 : Nat) (o0 : Nat) (f1 : Nat) (o1 : Nat) (f2 : Nat) (o2 : Nat) (h : Heap) (R : Heap → Prop) : Prop :=
  R h
theorem eq39r (f0 : Nat) (o0 : Nat) (f1 : Nat) (o1 : Nat) (f2 : Nat) (o2 : Nat) (h : Heap) (R : Heap → Prop) : vc39r f0 o0 f1 o1 f2 o2 h R = vcFnD Go.Proofs.Try.prog pl39 Go.Proofs.Try.f39 [.lf (.ptr (some (f0, o0))), .lf (.ptr (some (f1, o1))), .lf (.ptr (some (f2, o2)))] .nilIface h R := by kernel_rfl
theorem ok39r {f0 : Nat} {o0 : Nat} {f1 : Nat} {o1 : Nat} {f2 : Nat} {o2 : Nat} {h : Heap} {R : Bool → Heap → Prop} (hv : vc39r f0 o0 f1 o1 f2 o2 h (R false)) : CallD Go.Proofs.Try.prog 39 (([.lf (.ptr (some (f0, o0))), .lf (.ptr (some (f1, o1))), .lf (.ptr (some (f2, o2)))] : List VV) |>.map VV.val).toArray h (none) R := callD_eq hng hmix Go.Proofs.Try.func39 (eq39r f0 o0 f1 o1 f2 o2 h (R false)) hv
def vc39p (f0 : Nat) (o0 : Nat) (f1 : Nat) (o1 : Nat) (f2 : Nat) (o2 : Nat) (n : Int) (h : Heap) (R : Heap → Prop) : Prop :=
  StC h f0 o0 [Lf.int IntKind.u64 (0 : Int)] fun (h0 : Heap) =>
    StC h0 f1 o1 [Lf.slc (Slc.mk Option.none 0 0)] fun (h1 : Heap) => StC h1 f2 o2 [Lf.int IntKind.i64 n] fun (h2 : Heap) => R h2
theorem eq39p (f0 : Nat) (o0 : Nat) (f1 : Nat) (o1 : Nat) (f2 : Nat) (o2 : Nat) (n : Int) (h : Heap) (R : Heap → Prop) : vc39p f0 o0 f1 o1 f2 o2 n h R = vcFnD Go.Proofs.Try.prog pl39 Go.Proofs.Try.f39 [.lf (.ptr (some (f0, o0))), .lf (.ptr (some (f1, o1))), .lf (.ptr (some (f2, o2)))] (.iface 27 (.int .i64 n)) h R := by kernel_rfl
theorem ok39p {f0 : Nat} {o0 : Nat} {f1 : Nat} {o1 : Nat} {f2 : Nat} {o2 : Nat} {n : Int} {h : Heap} {R : Bool → Heap → Prop} (hv : vc39p f0 o0 f1 o1 f2 o2 n h (R true)) : CallD Go.Proofs.Try.prog 39 (([.lf (.ptr (some (f0, o0))), .lf (.ptr (some (f1, o1))), .lf (.ptr (some (f2, o2)))] : List VV) |>.map VV.val).toArray h (some (27, .int .i64 n)) R := callD_eq hng hmix Go.Proofs.Try.func39 (eq39p f0 o0 f1 o1 f2 o2 n h (R true)) hv
/- 21: sediment.batch.Decode (b) · seq 13: #38 · loop 16: #44 -/
def pl21 : Plan := {
  blk := fun _ => none
  seq := fun | 13 => some ⟨[(38, .one .bool)], [], []⟩ | _ => none
  loop := fun | 16 => some ⟨[(44, .one (.int .u32))], [], []⟩ | _ => none
  live := fun | 0 => some [0, 2, 3, 4] | 1 => some [0, 2, 3, 4] | 2 => some [0, 2, 3, 4, 10] | 3 => some [2, 3, 4] | 4 => some [0, 2, 3, 4] | 5 => some [0, 2, 3, 4, 17] | 6 => some [2, 3, 4] | 7 => some [0, 2, 3, 4, 20] | 8 => some [2, 3, 4] | 9 => some [0, 2, 3, 4, 5] | 10 => some [0, 2, 3, 4, 5, 28] | 11 => some [2, 3, 4] | 12 => some [0, 2, 3, 4, 5, 38] | 13 => some [2, 3, 4] | 14 => some [2, 3, 4, 5, 6] | 15 => some [2, 3, 4, 6, 43, 44] | 16 => some [2, 3, 4, 6, 43, 44, 45] | 17 => some [2, 3, 4, 6, 43, 44] | 18 => some [2, 3, 4, 6, 43, 44] | 19 => some [2, 3, 4, 57] | 20 => some [2, 3, 4] | 21 => some [2, 3, 4] | _ => none
  track := fun | _ => false
  draw := fun | 6 => .still 0 (.mem 1 (.mem 2 (.mem 3 (.done)))) | 11 => .still 0 (.mem 1 (.mem 2 (.mem 3 (.done)))) | 17 => .still 0 (.still 1 (.mem 2 (.mem 3 (.mem 4 (.mem 5 (.done)))))) | 21 => .still 0 (.still 1 (.mem 2 (.mem 3 (.mem 4 (.done))))) | _ => .done
  iter := fun | _ => none
  pan := fun | 42 => true | _ => false }
def vc21 (a0 : Slc) (h : Heap) (R : Int → Slc → Int → Heap → Prop) : Prop :=
  New 39 [Lf.int IntKind.u64 (0 : Int)] h fun (b0 : Nat) (h1 : Heap) =>
    New 22 [Lf.slc (Slc.mk Option.none 0 0)] h1 fun (b2 : Nat) (h3 : Heap) =>
      New 27 [Lf.int IntKind.i64 (0 : Int)] h3 fun (b4 : Nat) (h5 : Heap) =>
        Br (Decidable.decide ((↑(Slc.len a0) : Int) > (4194304 : Int)))
          (StC h5 b0 0 [Lf.int IntKind.u64 (0 : Int)] fun (h6 : Heap) =>
            StC h6 b2 0 [Lf.slc (Slc.mk Option.none 0 0)] fun (h7 : Heap) =>
              StC h7 b4 0 [Lf.int IntKind.i64 (2 : Int)] fun (h8 : Heap) =>
                CallD Go.Proofs.Try.prog 39
                  (Array.mk
                    [Value.pointer (Option.some (Addr.mk b0 0 Option.none)), Value.pointer (Option.some (Addr.mk b2 0 Option.none)),
                      Value.pointer (Option.some (Addr.mk b4 0 Option.none))])
                  h8 Option.none fun (c9 : Bool) (h10 : Heap) =>
                  Br c9
                    (∃ (i11 : Int),
                      cellsAt h10 b0 0 [Lf.int IntKind.u64 i11] ∧
                        ∃ (s12 : Slc), cellsAt h10 b2 0 [Lf.slc s12] ∧ ∃ (i13 : Int), cellsAt h10 b4 0 [Lf.int IntKind.i64 i13] ∧ R i11 s12 i13 h10)
                    (∃ (i14 : Int),
                      cellsAt h10 b0 0 [Lf.int IntKind.u64 i14] ∧
                        ∃ (s15 : Slc), cellsAt h10 b2 0 [Lf.slc s15] ∧ ∃ (i16 : Int), cellsAt h10 b4 0 [Lf.int IntKind.i64 i16] ∧ R i14 s15 i16 h10))
          (Call Go.Proofs.Try.prog 40 [VV.lf (Lf.slc a0)] h5 [VT.one (LT.int IntKind.u64), VT.one (LT.int IntKind.i64)]
            fun (i17 i18 : Int) (h19 : Heap) =>
            StC h19 b0 0 [Lf.int IntKind.u64 i17] fun (h20 : Heap) =>
              StC h20 b4 0 [Lf.int IntKind.i64 i18] fun (h21 : Heap) =>
                ∃ (i22 : Int),
                  cellsAt h21 b4 0 [Lf.int IntKind.i64 i22] ∧
                    Br (i22 != (0 : Int))
                      (∃ (i23 : Int),
                        cellsAt h21 b4 0 [Lf.int IntKind.i64 i23] ∧
                          StC h21 b0 0 [Lf.int IntKind.u64 (0 : Int)] fun (h24 : Heap) =>
                            cellsAt h24 b4 0 [Lf.int IntKind.i64 i23] ∧
                              StC h24 b2 0 [Lf.slc (Slc.mk Option.none 0 0)] fun (h25 : Heap) =>
                                cellsAt h25 b4 0 [Lf.int IntKind.i64 i23] ∧
                                  StC h25 b4 0 [Lf.int IntKind.i64 i23] fun (h26 : Heap) =>
                                    CallD Go.Proofs.Try.prog 39
                                      (Array.mk
                                        [Value.pointer (Option.some (Addr.mk b0 0 Option.none)), Value.pointer (Option.some (Addr.mk b2 0 Option.none)),
                                          Value.pointer (Option.some (Addr.mk b4 0 Option.none))])
                                      h26 Option.none fun (c27 : Bool) (h28 : Heap) =>
                                      Br c27
                                        (∃ (i29 : Int),
                                          cellsAt h28 b0 0 [Lf.int IntKind.u64 i29] ∧
                                            ∃ (s30 : Slc),
                                              cellsAt h28 b2 0 [Lf.slc s30] ∧ ∃ (i31 : Int), cellsAt h28 b4 0 [Lf.int IntKind.i64 i31] ∧ R i29 s30 i31 h28)
                                        (∃ (i32 : Int),
                                          cellsAt h28 b0 0 [Lf.int IntKind.u64 i32] ∧
                                            ∃ (s33 : Slc),
                                              cellsAt h28 b2 0 [Lf.slc s33] ∧ ∃ (i34 : Int), cellsAt h28 b4 0 [Lf.int IntKind.i64 i34] ∧ R i32 s33 i34 h28))
                      (∃ (i35 : Int),
                        cellsAt h21 b0 0 [Lf.int IntKind.u64 i35] ∧
                          Br (Decidable.decide (i35 > (72057594037927935 : Int)))
                            (StC h21 b0 0 [Lf.int IntKind.u64 (0 : Int)] fun (h36 : Heap) =>
                              StC h36 b2 0 [Lf.slc (Slc.mk Option.none 0 0)] fun (h37 : Heap) =>
                                StC h37 b4 0 [Lf.int IntKind.i64 (3 : Int)] fun (h38 : Heap) =>
                                  CallD Go.Proofs.Try.prog 39
                                    (Array.mk
                                      [Value.pointer (Option.some (Addr.mk b0 0 Option.none)), Value.pointer (Option.some (Addr.mk b2 0 Option.none)),
                                        Value.pointer (Option.some (Addr.mk b4 0 Option.none))])
                                    h38 Option.none fun (c39 : Bool) (h40 : Heap) =>
                                    Br c39
                                      (∃ (i41 : Int),
                                        cellsAt h40 b0 0 [Lf.int IntKind.u64 i41] ∧
                                          ∃ (s42 : Slc),
                                            cellsAt h40 b2 0 [Lf.slc s42] ∧ ∃ (i43 : Int), cellsAt h40 b4 0 [Lf.int IntKind.i64 i43] ∧ R i41 s42 i43 h40)
                                      (∃ (i44 : Int),
                                        cellsAt h40 b0 0 [Lf.int IntKind.u64 i44] ∧
                                          ∃ (s45 : Slc),
                                            cellsAt h40 b2 0 [Lf.slc s45] ∧ ∃ (i46 : Int), cellsAt h40 b4 0 [Lf.int IntKind.i64 i46] ∧ R i44 s45 i46 h40))
                            ((0 : Int) ≤ (8 : Int) ∧
                              (8 : Int) ≤ (↑(Slc.len a0) : Int) ∧
                                Call Go.Proofs.Try.prog 41 [VV.lf (Lf.slc (Slc.sub a0 1 8 (Slc.len a0) (Slc.cap a0)))] h21
                                  [VT.one (LT.int IntKind.u32), VT.one (LT.int IntKind.i64)] fun (i47 i48 : Int) (h49 : Heap) =>
                                  StC h49 b4 0 [Lf.int IntKind.i64 i48] fun (h50 : Heap) =>
                                    ∃ (i51 : Int),
                                      cellsAt h50 b4 0 [Lf.int IntKind.i64 i51] ∧
                                        Br (i51 != (0 : Int))
                                          (∃ (i52 : Int),
                                            cellsAt h50 b4 0 [Lf.int IntKind.i64 i52] ∧
                                              StC h50 b0 0 [Lf.int IntKind.u64 (0 : Int)] fun (h53 : Heap) =>
                                                cellsAt h53 b4 0 [Lf.int IntKind.i64 i52] ∧
                                                  StC h53 b2 0 [Lf.slc (Slc.mk Option.none 0 0)] fun (h54 : Heap) =>
                                                    cellsAt h54 b4 0 [Lf.int IntKind.i64 i52] ∧
                                                      StC h54 b4 0 [Lf.int IntKind.i64 i52] fun (h55 : Heap) =>
                                                        CallD Go.Proofs.Try.prog 39
                                                          (Array.mk
                                                            [Value.pointer (Option.some (Addr.mk b0 0 Option.none)), Value.pointer (Option.some (Addr.mk b2 0 Option.none)),
                                                              Value.pointer (Option.some (Addr.mk b4 0 Option.none))])
                                                          h55 Option.none fun (c56 : Bool) (h57 : Heap) =>
                                                          Br c56
                                                            (∃ (i58 : Int),
                                                              cellsAt h57 b0 0 [Lf.int IntKind.u64 i58] ∧
                                                                ∃ (s59 : Slc),
                                                                  cellsAt h57 b2 0 [Lf.slc s59] ∧
                                                                    ∃ (i60 : Int), cellsAt h57 b4 0 [Lf.int IntKind.i64 i60] ∧ R i58 s59 i60 h57)
                                                            (∃ (i61 : Int),
                                                              cellsAt h57 b0 0 [Lf.int IntKind.u64 i61] ∧
                                                                ∃ (s62 : Slc),
                                                                  cellsAt h57 b2 0 [Lf.slc s62] ∧
                                                                    ∃ (i63 : Int), cellsAt h57 b4 0 [Lf.int IntKind.i64 i63] ∧ R i61 s62 i63 h57))
                                          (∃ (I64 : Bool → Heap → Prop),
                                            Br (Decidable.decide (i47 > (4096 : Int))) (I64 Bool.true h50)
                                                (∃ (i65 : Int),
                                                  cellsAt h50 b0 0 [Lf.int IntKind.u64 i65] ∧
                                                    Call Go.Proofs.Try.prog 32
                                                      [VV.lf (Lf.int IntKind.u64 i65), VV.lf (Lf.int IntKind.i64 (IntKind.wrap IntKind.i64 i47))] h50
                                                      [VT.one LT.bool] fun (c66 : Bool) (h67 : Heap) => I64 (!c66) h67) ∧
                                              ∀ (c68 : Bool) (h69 : Heap),
                                                I64 c68 h69 →
                                                  Br c68
                                                    (StC h69 b0 0 [Lf.int IntKind.u64 (0 : Int)] fun (h70 : Heap) =>
                                                      StC h70 b2 0 [Lf.slc (Slc.mk Option.none 0 0)] fun (h71 : Heap) =>
                                                        StC h71 b4 0 [Lf.int IntKind.i64 (3 : Int)] fun (h72 : Heap) =>
                                                          CallD Go.Proofs.Try.prog 39
                                                            (Array.mk
                                                              [Value.pointer (Option.some (Addr.mk b0 0 Option.none)), Value.pointer (Option.some (Addr.mk b2 0 Option.none)),
                                                                Value.pointer (Option.some (Addr.mk b4 0 Option.none))])
                                                            h72 Option.none fun (c73 : Bool) (h74 : Heap) =>
                                                            Br c73
                                                              (∃ (i75 : Int),
                                                                cellsAt h74 b0 0 [Lf.int IntKind.u64 i75] ∧
                                                                  ∃ (s76 : Slc),
                                                                    cellsAt h74 b2 0 [Lf.slc s76] ∧
                                                                      ∃ (i77 : Int), cellsAt h74 b4 0 [Lf.int IntKind.i64 i77] ∧ R i75 s76 i77 h74)
                                                              (∃ (i78 : Int),
                                                                cellsAt h74 b0 0 [Lf.int IntKind.u64 i78] ∧
                                                                  ∃ (s79 : Slc),
                                                                    cellsAt h74 b2 0 [Lf.slc s79] ∧
                                                                      ∃ (i80 : Int), cellsAt h74 b4 0 [Lf.int IntKind.i64 i80] ∧ R i78 s79 i80 h74))
                                                    ((0 : Int) ≤ (12 : Int) ∧
                                                      (12 : Int) ≤ (↑(Slc.len a0) : Int) ∧
                                                        New 74 [Lf.slc (Slc.sub a0 1 12 (Slc.len a0) (Slc.cap a0))] h69
                                                          fun (b81 : Nat) (h82 : Heap) =>
                                                          ∃ (I83 : Int → Heap → Nat → Prop),
                                                            (∃ (b84 : Nat), I83 (0 : Int) h82 b84) ∧
                                                              ∀ (i85 : Int) (h86 : Heap) (b87 : Nat),
                                                                I83 i85 h86 b87 →
                                                                  Br (Decidable.decide (i85 < i47))
                                                                    (∃ (s88 : Slc),
                                                                      cellsAt h86 b2 0 [Lf.slc s88] ∧
                                                                        CallP Go.Proofs.Try.prog 42 [VV.lf (Lf.ptr (Option.some (b81, 0)))] h86
                                                                          [VT.agg [LT.int IntKind.u32, LT.int IntKind.i64, LT.str, LT.str]]
                                                                          (fun (i89 i90 : Int) (t91 t92 : ByteArray) (h93 : Heap) =>
                                                                            cellsAt h93 b2 0 [Lf.slc s88] ∧
                                                                              New 31 [Lf.int IntKind.u32 i89, Lf.int IntKind.i64 i90, Lf.str t91, Lf.str t92] h93
                                                                                fun (b94 : Nat) (h95 : Heap) =>
                                                                                cellsAt h95 b2 0 [Lf.slc s88] ∧
                                                                                  AppC 31
                                                                                    [Lf.int IntKind.u32 (0 : Int), Lf.int IntKind.i64 (0 : Int), Lf.str (ByteArray.mk #[]),
                                                                                      Lf.str (ByteArray.mk #[])]
                                                                                    4 48 s88 (Slc.mk (Option.some (b94, 0)) 1 1) h95
                                                                                    fun (s96 : Slc) (h97 : Heap) =>
                                                                                    StC h97 b2 0 [Lf.slc s96] fun (h98 : Heap) =>
                                                                                      ∃ (b99 : Nat), b99 < b87 ∧ I83 (IntKind.wrap IntKind.u32 (i85 + (1 : Int))) h98 b99)
                                                                          fun (b100 : Nat) (x101 : Value) (h102 : Heap) =>
                                                                          CallD Go.Proofs.Try.prog 39
                                                                            (Array.mk
                                                                              [Value.pointer (Option.some (Addr.mk b0 0 Option.none)),
                                                                                Value.pointer (Option.some (Addr.mk b2 0 Option.none)),
                                                                                Value.pointer (Option.some (Addr.mk b4 0 Option.none))])
                                                                            h102 (Option.some (b100, x101)) fun (c103 : Bool) (h104 : Heap) =>
                                                                            Br c103
                                                                              (∃ (i105 : Int),
                                                                                cellsAt h104 b0 0 [Lf.int IntKind.u64 i105] ∧
                                                                                  ∃ (s106 : Slc),
                                                                                    cellsAt h104 b2 0 [Lf.slc s106] ∧
                                                                                      ∃ (i107 : Int), cellsAt h104 b4 0 [Lf.int IntKind.i64 i107] ∧ R i105 s106 i107 h104)
                                                                              False)
                                                                    (∃ (s108 : Slc),
                                                                      cellsAt h86 b81 0 [Lf.slc s108] ∧
                                                                        Br (Decidable.decide ((↑(Slc.len s108) : Int) > (0 : Int)))
                                                                          (StC h86 b0 0 [Lf.int IntKind.u64 (0 : Int)] fun (h109 : Heap) =>
                                                                            StC h109 b2 0 [Lf.slc (Slc.mk Option.none 0 0)] fun (h110 : Heap) =>
                                                                              StC h110 b4 0 [Lf.int IntKind.i64 (5 : Int)] fun (h111 : Heap) =>
                                                                                CallD Go.Proofs.Try.prog 39
                                                                                  (Array.mk
                                                                                    [Value.pointer (Option.some (Addr.mk b0 0 Option.none)),
                                                                                      Value.pointer (Option.some (Addr.mk b2 0 Option.none)),
                                                                                      Value.pointer (Option.some (Addr.mk b4 0 Option.none))])
                                                                                  h111 Option.none fun (c112 : Bool) (h113 : Heap) =>
                                                                                  Br c112
                                                                                    (∃ (i114 : Int),
                                                                                      cellsAt h113 b0 0 [Lf.int IntKind.u64 i114] ∧
                                                                                        ∃ (s115 : Slc),
                                                                                          cellsAt h113 b2 0 [Lf.slc s115] ∧
                                                                                            ∃ (i116 : Int), cellsAt h113 b4 0 [Lf.int IntKind.i64 i116] ∧ R i114 s115 i116 h113)
                                                                                    (∃ (i117 : Int),
                                                                                      cellsAt h113 b0 0 [Lf.int IntKind.u64 i117] ∧
                                                                                        ∃ (s118 : Slc),
                                                                                          cellsAt h113 b2 0 [Lf.slc s118] ∧
                                                                                            ∃ (i119 : Int), cellsAt h113 b4 0 [Lf.int IntKind.i64 i119] ∧ R i117 s118 i119 h113))
                                                                          (∃ (i120 : Int),
                                                                            cellsAt h86 b0 0 [Lf.int IntKind.u64 i120] ∧
                                                                              ∃ (s121 : Slc),
                                                                                cellsAt h86 b2 0 [Lf.slc s121] ∧
                                                                                  StC h86 b0 0 [Lf.int IntKind.u64 i120] fun (h122 : Heap) =>
                                                                                    cellsAt h122 b2 0 [Lf.slc s121] ∧
                                                                                      StC h122 b2 0 [Lf.slc s121] fun (h123 : Heap) =>
                                                                                        StC h123 b4 0 [Lf.int IntKind.i64 (0 : Int)] fun (h124 : Heap) =>
                                                                                          CallD Go.Proofs.Try.prog 39
                                                                                            (Array.mk
                                                                                              [Value.pointer (Option.some (Addr.mk b0 0 Option.none)),
                                                                                                Value.pointer (Option.some (Addr.mk b2 0 Option.none)),
                                                                                                Value.pointer (Option.some (Addr.mk b4 0 Option.none))])
                                                                                            h124 Option.none fun (c125 : Bool) (h126 : Heap) =>
                                                                                            Br c125
                                                                                              (∃ (i127 : Int),
                                                                                                cellsAt h126 b0 0 [Lf.int IntKind.u64 i127] ∧
                                                                                                  ∃ (s128 : Slc),
                                                                                                    cellsAt h126 b2 0 [Lf.slc s128] ∧
                                                                                                      ∃ (i129 : Int),
                                                                                                        cellsAt h126 b4 0 [Lf.int IntKind.i64 i129] ∧ R i127 s128 i129 h126)
                                                                                              (∃ (i130 : Int),
                                                                                                cellsAt h126 b0 0 [Lf.int IntKind.u64 i130] ∧
                                                                                                  ∃ (s131 : Slc),
                                                                                                    cellsAt h126 b2 0 [Lf.slc s131] ∧
                                                                                                      ∃ (i132 : Int),
                                                                                                        cellsAt h126 b4 0 [Lf.int IntKind.i64 i132] ∧ R i130 s131 i132 h126))))))))
theorem eq21 (a0 : Slc) (h : Heap) (R : Int → Slc → Int → Heap → Prop) : vc21 a0 h R = vcFn Go.Proofs.Try.prog pl21 Go.Proofs.Try.f21 [.lf (.slc a0)] h [.one (.int .u64), .one .slc, .one (.int .i64)] R := by kernel_rfl
theorem ok21 {a0 : Slc} {h : Heap} {R : Int → Slc → Int → Heap → Prop} (hv : vc21 a0 h R) : Call Go.Proofs.Try.prog 21 [.lf (.slc a0)] h [.one (.int .u64), .one .slc, .one (.int .i64)] R := call_eq hng hmix Go.Proofs.Try.func21 (eq21 a0 h R) hv
/- 18: sediment.sedimentref03.Encode () · blk 3: #8 · loop 6: #6 · loop 15: #8, #9 -/
def pl18 : Plan := {
  blk := fun | 3 => some ⟨[(8, .one .slc)], [], []⟩ | _ => none
  seq := fun _ => none
  loop := fun | 6 => some ⟨[(6, .one (.int .i64))], [], []⟩ | 15 => some ⟨[(8, .one .slc), (9, .one (.int .i64))], [], []⟩ | _ => none
  live := fun | 0 => some [0, 1] | 1 => some [0, 1, 15] | 2 => some [4, 5] | 3 => some [0, 1, 18] | 4 => some [4, 5] | 5 => some [0, 1, 6] | 6 => some [0, 1, 6, 22] | 7 => some [0, 1, 6] | 8 => some [0, 1, 6, 7] | 9 => some [0, 1, 6, 7, 31] | 10 => some [4, 5] | 11 => some [0, 1, 35] | 12 => some [4, 5] | 13 => some [1, 8] | 14 => some [1, 8, 9] | 15 => some [1, 8, 9, 46] | 16 => some [1, 8, 9] | 17 => some [1, 8, 9, 10] | 18 => some [1, 8, 9, 10] | 19 => some [1, 8, 9, 10] | 20 => some [1, 8, 9, 10, 76] | 21 => some [1, 8, 9] | 22 => some [4, 5] | _ => none
  track := fun | 10 => true | _ => false
  draw := fun | 18 => .still 0 (.still 1 (.still 2 (.still 3 (.still 6 (.still 7 (.still 8 (.mem 4 (.mem 5 (.mem 9 (.mem 10 (.still 11 (.done)))))))))))) | 19 => .still 0 (.still 1 (.still 2 (.still 3 (.still 4 (.still 7 (.still 8 (.mem 5 (.mem 6 (.mem 9 (.still 10 (.done))))))))))) | 21 => .still 0 (.still 1 (.still 2 (.still 3 (.still 4 (.still 7 (.still 8 (.mem 5 (.mem 6 (.mem 9 (.still 10 (.done))))))))))) | _ => .done
  iter := fun | _ => none }
def vc18 (a0 : Int) (a1 : Slc) (h : Heap) (R : Slc → Int → Heap → Prop) : Prop :=
  Call Go.Proofs.Try.prog 35 [VV.lf (Lf.int IntKind.u64 a0), VV.lf (Lf.int IntKind.i64 (↑(Slc.len a1) : Int))] h [VT.one LT.bool]
    fun (c0 : Bool) (h1 : Heap) =>
    Br (!c0) (R (Slc.mk Option.none 0 0) (1 : Int) h1)
      (Br (Decidable.decide ((↑(Slc.len a1) : Int) > (4096 : Int))) (R (Slc.mk Option.none 0 0) (2 : Int) h1)
        (∃ (I2 : Int → Heap → Nat → Prop),
          (∃ (b3 : Nat), I2 (0 : Int) h1 b3) ∧
            ∀ (i4 : Int) (h5 : Heap) (b6 : Nat),
              I2 i4 h5 b6 →
                Br (Decidable.decide (i4 < (↑(Slc.len a1) : Int)))
                  (IxC a1 i4 4 fun (b7 b8 : Nat) =>
                    ∃ (i9 : Int),
                      ∃ (i10 : Int),
                        ∃ (t11 : ByteArray),
                          ∃ (t12 : ByteArray),
                            cellsAt h5 b7 b8 [Lf.int IntKind.u32 i9, Lf.int IntKind.i64 i10, Lf.str t11, Lf.str t12] ∧
                              Call Go.Proofs.Try.prog 20 [VV.agg [Lf.int IntKind.u32 i9, Lf.int IntKind.i64 i10, Lf.str t11, Lf.str t12]] h5
                                [VT.one (LT.int IntKind.i64)] fun (i13 : Int) (h14 : Heap) =>
                                Br (i13 != (0 : Int)) (R (Slc.mk Option.none 0 0) i13 h14)
                                  (∃ (b15 : Nat), b15 < b6 ∧ I2 (IntKind.wrap IntKind.i64 (i4 + (1 : Int))) h14 b15))
                  (Call Go.Proofs.Try.prog 36 [VV.lf (Lf.slc a1)] h5 [VT.one (LT.int IntKind.i64)] fun (i16 : Int) (h17 : Heap) =>
                    Br (Decidable.decide (i16 > (4194304 : Int))) (R (Slc.mk Option.none 0 0) (2 : Int) h17)
                      (Call Go.Proofs.Try.prog 37 [VV.lf (Lf.int IntKind.u64 a0), VV.lf (Lf.int IntKind.i64 (8 : Int))] h17 [VT.one LT.slc]
                        fun (s18 : Slc) (h19 : Heap) =>
                        Call Go.Proofs.Try.prog 37
                          [VV.lf (Lf.int IntKind.u64 (IntKind.wrap IntKind.u64 (↑(Slc.len a1) : Int))), VV.lf (Lf.int IntKind.i64 (4 : Int))] h19
                          [VT.one LT.slc] fun (s20 : Slc) (h21 : Heap) =>
                          AppC 5 [Lf.int IntKind.u8 (0 : Int)] 1 1 s18 s20 h21 fun (s22 : Slc) (h23 : Heap) =>
                            ∃ (I24 : Slc → Int → Heap → Nat → Prop),
                              (∃ (b25 : Nat), I24 s22 (0 : Int) h23 b25) ∧
                                ∀ (s26 : Slc) (i27 : Int) (h28 : Heap) (b29 : Nat),
                                  I24 s26 i27 h28 b29 →
                                    Br (Decidable.decide (i27 < (↑(Slc.len a1) : Int)))
                                      (∃ (I30 : Slc → Heap → Prop),
                                        (IxC a1 i27 4 fun (b31 b32 : Nat) =>
                                            ∃ (i33 : Int),
                                              ∃ (i34 : Int),
                                                ∃ (t35 : ByteArray),
                                                  ∃ (t36 : ByteArray),
                                                    cellsAt h28 b31 b32 [Lf.int IntKind.u32 i33, Lf.int IntKind.i64 i34, Lf.str t35, Lf.str t36] ∧
                                                      New 31
                                                        [Lf.int IntKind.u32 (0 : Int), Lf.int IntKind.i64 (0 : Int), Lf.str (ByteArray.mk #[]), Lf.str (ByteArray.mk #[])] h28
                                                        fun (b37 : Nat) (h38 : Heap) =>
                                                        Set b37 31 [Lf.int IntKind.u32 i33, Lf.int IntKind.i64 i34, Lf.str t35, Lf.str t36] h38
                                                          fun (h39 : Heap) =>
                                                          New 5 [Lf.int IntKind.u8 (IntKind.wrap IntKind.u8 i34)] h39 fun (b40 : Nat) (h41 : Heap) =>
                                                            AppC 5 [Lf.int IntKind.u8 (0 : Int)] 1 1 s26
                                                              (Slc.mk (Option.some (b40, 0)) 1 1) h41 fun (s42 : Slc) (h43 : Heap) =>
                                                              keepB h41 h43 [b37] ∧
                                                                Call Go.Proofs.Try.prog 28 [VV.lf (Lf.int IntKind.u64 (IntKind.wrap IntKind.u64 i33))] h43
                                                                  [VT.one LT.slc] fun (s44 : Slc) (h45 : Heap) =>
                                                                  keepB h43 h45 [b37] ∧
                                                                    AppC 5 [Lf.int IntKind.u8 (0 : Int)] 1 1 s42 s44 h45 fun (s46 : Slc) (h47 : Heap) =>
                                                                      keepB h45 h47 [b37] ∧
                                                                        Call Go.Proofs.Try.prog 28
                                                                          [VV.lf (Lf.int IntKind.u64 (IntKind.wrap IntKind.u64 (↑(ByteArray.size t35) : Int)))] h47
                                                                          [VT.one LT.slc] fun (s48 : Slc) (h49 : Heap) =>
                                                                          keepB h47 h49 [b37] ∧
                                                                            AppC 5 [Lf.int IntKind.u8 (0 : Int)] 1 1 s46 s48 h49
                                                                              fun (s50 : Slc) (h51 : Heap) =>
                                                                              keepB h49 h51 [b37] ∧
                                                                                AppV 5 [Value.int IntKind.u8 (0 : Int)] 1 1 s50 (ByteArray.size t35)
                                                                                  (List.map (fun (c : UInt8) => Value.int IntKind.u8 (↑(UInt8.toNat c) : Int)) (Array.toList (ByteArray.data t35)))
                                                                                  h51 fun (s52 : Slc) (h53 : Heap) =>
                                                                                  keepB h51 h53 [b37] ∧
                                                                                    Br (i34 != (0 : Int))
                                                                                      (Call Go.Proofs.Try.prog 28
                                                                                        [VV.lf (Lf.int IntKind.u64 (IntKind.wrap IntKind.u64 (↑(ByteArray.size t36) : Int)))] h53
                                                                                        [VT.one LT.slc] fun (s54 : Slc) (h55 : Heap) =>
                                                                                        keepB h53 h55 [b37] ∧
                                                                                          AppC 5 [Lf.int IntKind.u8 (0 : Int)] 1 1 s52 s54 h55
                                                                                            fun (s56 : Slc) (h57 : Heap) =>
                                                                                            keepB h55 h57 [b37] ∧
                                                                                              AppV 5 [Value.int IntKind.u8 (0 : Int)] 1 1 s56 (ByteArray.size t36)
                                                                                                (List.map (fun (c : UInt8) => Value.int IntKind.u8 (↑(UInt8.toNat c) : Int))
                                                                                                  (Array.toList (ByteArray.data t36)))
                                                                                                h57 fun (s58 : Slc) (h59 : Heap) => keepB h57 h59 [b37] ∧ I30 s58 h59)
                                                                                      (I30 s52 h53)) ∧
                                          ∀ (s60 : Slc) (h61 : Heap), I30 s60 h61 → ∃ (b62 : Nat), b62 < b29 ∧ I24 s60 (IntKind.wrap IntKind.i64 (i27 + (1 : Int))) h61 b62)
                                      (R s26 (0 : Int) h28)))))
theorem eq18 (a0 : Int) (a1 : Slc) (h : Heap) (R : Slc → Int → Heap → Prop) : vc18 a0 a1 h R = vcFn Go.Proofs.Try.prog pl18 Go.Proofs.Try.f18 [.lf (.int .u64 a0), .lf (.slc a1)] h [.one .slc, .one (.int .i64)] R := by kernel_rfl
theorem ok18 {a0 : Int} {a1 : Slc} {h : Heap} {R : Slc → Int → Heap → Prop} (hv : vc18 a0 a1 h R) : Call Go.Proofs.Try.prog 18 [.lf (.int .u64 a0), .lf (.slc a1)] h [.one .slc, .one (.int .i64)] R := call_eq hng hmix Go.Proofs.Try.func18 (eq18 a0 a1 h R) hv
/- 22: sediment.sedimentlaw03.plain (l) · loop 3: out, i -/
def pl22 : Plan := {
  blk := fun _ => none
  seq := fun _ => none
  loop := fun | 3 => some ⟨[(3, .one .slc), (4, .one (.int .i64))], [], []⟩ | _ => none
  live := fun | 0 => some [0] | 1 => some [0, 3] | 2 => some [0, 3, 4] | 3 => some [0, 3, 4, 9] | 4 => some [0, 3, 4] | 5 => some [0, 3, 4] | 6 => some [2] | _ => none
  track := fun | _ => false
  draw := fun | _ => .done
  iter := fun | _ => none }
def vc22 (a0 : Slc) (h : Heap) (R : Slc → Heap → Prop) : Prop :=
  New 31 [] h fun (b0 : Nat) (h1 : Heap) =>
    ∃ (I2 : Slc → Int → Heap → Nat → Prop),
      (∃ (b3 : Nat), I2 (Slc.mk (Option.some (b0, 0)) 0 0) (0 : Int) h1 b3) ∧
        ∀ (s4 : Slc) (i5 : Int) (h6 : Heap) (b7 : Nat),
          I2 s4 i5 h6 b7 →
            Br (Decidable.decide (i5 < (↑(Slc.len a0) : Int)))
              (IxC a0 i5 4 fun (b8 b9 : Nat) =>
                ∃ (i10 : Int),
                  ∃ (i11 : Int),
                    ∃ (t12 : ByteArray),
                      ∃ (t13 : ByteArray),
                        cellsAt h6 b8 b9 [Lf.int IntKind.u32 i10, Lf.int IntKind.i64 i11, Lf.str t12, Lf.str t13] ∧
                          Call Go.Proofs.Try.prog 43 [VV.agg [Lf.int IntKind.u32 i10, Lf.int IntKind.i64 i11, Lf.str t12, Lf.str t13]] h6
                            [VT.agg [LT.int IntKind.u32, LT.int IntKind.i64, LT.str, LT.str]] fun (i14 i15 : Int) (t16 t17 : ByteArray) (h18 : Heap) =>
                            New 31 [Lf.int IntKind.u32 i14, Lf.int IntKind.i64 i15, Lf.str t16, Lf.str t17] h18 fun (b19 : Nat) (h20 : Heap) =>
                              AppC 31 [Lf.int IntKind.u32 (0 : Int), Lf.int IntKind.i64 (0 : Int), Lf.str (ByteArray.mk #[]), Lf.str (ByteArray.mk #[])] 4
                                48 s4 (Slc.mk (Option.some (b19, 0)) 1 1) h20 fun (s21 : Slc) (h22 : Heap) =>
                                ∃ (b23 : Nat), b23 < b7 ∧ I2 s21 (IntKind.wrap IntKind.i64 (i5 + (1 : Int))) h22 b23)
              (R s4 h6)
theorem eq22 (a0 : Slc) (h : Heap) (R : Slc → Heap → Prop) : vc22 a0 h R = vcFn Go.Proofs.Try.prog pl22 Go.Proofs.Try.f22 [.lf (.slc a0)] h [.one .slc] R := by kernel_rfl
theorem ok22 {a0 : Slc} {h : Heap} {R : Slc → Heap → Prop} (hv : vc22 a0 h R) : Call Go.Proofs.Try.prog 22 [.lf (.slc a0)] h [.one .slc] R := call_eq hng hmix Go.Proofs.Try.func22 (eq22 a0 h R) hv
end Go.V.Ytclffphegfhocaa
set_option linter.unusedVariables false
set_option linter.unusedSimpArgs false
/-! The codec's contracts: sums, fixed numbers. -/
namespace Go.V.Ytclffphegfhocaa
open Go Go.V Go.V.Crc

/-- slices.Backward of bytes: the function that it hands back. -/
theorem c68 {h : Heap} {s : Slc} {R : Value → Heap → Prop} (k : ∀ b h', b = h.size → h'.size = h.size + 1 → Ext0 h h' → cellsAt h' b 0 [.slc s] → R (.func (.func 73) #[] #[.pointer (some ⟨b, 0, none⟩)]) h') :
    Call Go.Proofs.Try.prog 68 [.lf (.slc s)] h [.one .raw] R :=
  ok68 (New.mk fun b h' hb hs e k' => k b h' hb hs e (k'.cell rfl))

theorem fback {h : Heap} {b : Nat} {s : Slc} {l : List UInt8} (hl : l.length ≤ 9223372036854775806) {y : Value} (J : Nat → Heap → Prop) (hJ : J l.length h) (hlen : s.len = l.length)
    (hkeep : ∀ q hh, J q hh → cellsAt hh b 0 [.slc s] ∧ Arr 1 bF hh s l)
    (hrd : ∀ q hh (hq : q < l.length), J (q + 1) hh → ∀ R : Bool → Heap → Prop, (∀ hh', J q hh' → R true hh') → CallV Go.Proofs.Try.prog y [.lf (.int .i64 q), .lf (.int .u8 (l[q].toNat : Int))] hh [.one .bool] R)
    {R : Heap → Prop} (k : ∀ h', J 0 h' → R h') : CallF Go.Proofs.Try.prog (.func (.func 73) #[] #[.pointer (some ⟨b, 0, none⟩)]) [.lf (.raw y)] h [] R := by
  refine ⟨73, [], [.lf (.ptr (some (b, 0)))], _, _, rfl, Go.Proofs.Try.func73, rfl, ok73 ⟨s, (hkeep _ _ hJ).1, ?_⟩⟩
  rw [hlen]
  refine ⟨fun i hh n => ∃ q : Nat, i = (q : Int) - 1 ∧ q ≤ l.length ∧ J q hh ∧ n = q, ⟨_, l.length, wi64 (by omega) (by omega), by omega, hJ, rfl⟩, ?_⟩
  rintro _ h4 n ⟨q, rfl, hq, J4, hn⟩
  refine Br.dec (fun hge => ?_) fun hlt => ?_
  · obtain ⟨p, rfl⟩ : ∃ p, q = p + 1 := ⟨q - 1, by omega⟩
    obtain ⟨h1, h2⟩ := hkeep _ _ J4
    have e : ((p + 1 : Nat) : Int) - 1 = (p : Int) := by omega
    rw [e]
    exact ⟨s, h1, h2.ix rfl (getB (show p < l.length by omega)) fun b' off hb => ⟨_, hb, hrd p h4 (by omega) J4 _ fun h' J' => Br.f rfl ⟨p, by omega, p, by rw [wi64 (by omega) (by omega)], by omega, J', rfl⟩⟩⟩
  · obtain rfl : q = 0 := by omega
    exact k h4 J4

theorem c58 {h : Heap} {s : Slc} {l : List UInt8} (a : Byt h s l) {m : Nat} (hm : m ≤ 8) {R : Int → Int → Heap → Prop} (k0 : l.length < m → R 0 4 h) (k : m ≤ l.length → ∀ h', Ext0 h h' → R (fixI (l.take m)) 0 h') :
    Call Go.Proofs.Try.prog 58 [.lf (.slc s), .lf (.int .i64 m)] h [.one (.int .u64), .one (.int .i64)] R := by
  have hlen := a.len
  have hcap := a.cap
  refine ok58 (Br.dec (fun c => k0 (by omega)) fun c => New.mk fun b0 h1 hb0 hs1 e1 k1 => StC.one k1 (by decide) fun h2 hs2 B2 e2 => ⟨by omega, by omega, ?_⟩)
  have hm2 : m ≤ l.length := by omega
  have e02 : Ext0 h h2 := e1.trans' e2 fun i hi z => by have : i = b0 := z; omega
  rw [show (m : Int).toNat = m by omega]
  have hsub := (a.ext0 e02).sub (lo := 0) (hi := m) (by omega) hm2
  simp only [List.drop_zero] at hsub
  generalize hL : l.take m = L at hsub
  have hLl : L.length = m := by rw [← hL]; simp; omega
  have hin : ∀ b off, (s.sub 1 0 m s.cap).a = some (b, off) → ∃ off', s.a = some (b, off') := fun b off hb => sub_inS hb
  generalize s.sub 1 0 m s.cap = s' at hsub hin
  refine c68 fun bb h4 hbb hs4 e4 kb => ?_
  intro lp
  refine LoopC.mk fun D lr h8 hD hlr hs8 e8 kD kl => ?_
  intro hyield
  obtain ⟨t, B2⟩ : ∃ t, Blk h2 b0 t [.int .u64 0] := ⟨_, B2⟩
  have hltb := B2.lt
  have e28 : Ext0 h2 h8 := e4.trans e8
  refine fback (l := L) (by omega) (fun q hh => Blk hh b0 t [.int .u64 (fixI (L.drop q))] ∧ LAt hh lr lp ∧ Ext (fun i => i = b0 ∨ i = lr) h8 hh) ⟨?_, kl, Ext.refl _ _⟩ (by have := hsub.len; omega) (fun q hh ⟨B, A, e⟩ => ⟨?_, ?_⟩) (fun q hh hq ⟨B, A, e⟩ R hR => ?_) (fun h19 ⟨B, A, e⟩ => ?_)
  · have := B2.ext e28
    rw [List.drop_length]
    exact this
  · exact cellsAt.ext e (by omega) (cellsAt.ext e8 id kb)
  · refine arr_extN (hsub.ext0 e28).arr e fun hne b' off hb' => ?_
    obtain ⟨off', hb2⟩ := hin b' off hb'
    have := arr_lt a.arr (fun z => hne (by rw [← hL, z]; simp)) hb2
    omega
  · refine hyield hh R A _ _ (LBusy.mk A fun h13 hs13 e13 k13 => ⟨_, (B.ext e13 (fun z => by omega)).cell rfl, by omega, StC.one (B.ext e13 (fun z => by omega)) Nat.zero_lt_one fun h15 hs15 B15 e15 => LReady.mk ?_ fun h16 hs16 e16 A16 => hR h16 ⟨?_, A16, ?_⟩⟩)
    · exact (e15.same lr (size_pos_of_getElem? k13) (fun z => by omega)).trans k13
    · have := B15.ext e16 (fun z => by omega)
      have hd : L.drop q = L[q] :: L.drop (q + 1) := List.drop_eq_getElem_cons hq
      rw [hd]
      rw [wu64b] at this
      exact this
    · exact ((e.trans' e13 fun i hi z => .inr z).trans' e15 fun i hi z => .inl z).trans' e16 fun i hi z => .inr z
  · refine LEnd.mk A fun h20 hs20 e20 => ⟨_, (B.ext e20 (fun z => by omega)).cell rfl, CollC.mk ?_ fun h22 hs22 e22 => ?_⟩
    · have h1' := e20.same D (by have := size_pos_of_getElem? kD; have := e.size; omega) (fun z => by omega)
      have h2' := e.same D (size_pos_of_getElem? kD) (fun z => by omega)
      exact h1'.trans (h2'.trans kD)
    · rw [List.drop_zero, ← hL]
      refine k hm2 h22 ?_
      have s28 := e28.size
      have s02 := e02.size
      exact ((((e02.trans e28).trans' e fun i hi z => by omega).trans' e20 fun i hi z => by omega).trans' e22 fun i hi z => by omega)

theorem c41 {h : Heap} {s : Slc} {l : List UInt8} (a : Byt h s l) {R : Int → Int → Heap → Prop} (k0 : l.length < 4 → R 0 4 h) (k : 4 ≤ l.length → ∀ h', Ext0 h h' → R (IntKind.wrap .u32 (fixI (l.take 4))) 0 h') :
    Call Go.Proofs.Try.prog 41 [.lf (.slc s)] h [.one (.int .u32), .one (.int .i64)] R := by
  refine ok41 (c58 a (m := 4) (by omega) (fun h0 => ?_) k)
  have : IntKind.wrap .u32 0 = 0 := by decide
  rw [this]
  exact k0 h0

theorem c44 {h : Heap} {s : Slc} {l : List UInt8} (a : Arr 1 bF h s l) {m : Nat} (hm : m ≤ 8) {R : Int → Int → Heap → Prop} (k0 : l.length < m → R 0 4 h) (k : m ≤ l.length → R (fixI (l.take m)) 0 h) :
    Call Go.Proofs.Try.prog 44 [.lf (.slc s), .lf (.int .i64 m)] h [.one (.int .u64), .one (.int .i64)] R := by
  have hlen := a.len
  refine ok44 (Br.dec (fun c => k0 (by omega)) fun c => ?_)
  have hm2 : m ≤ l.length := by omega
  refine ⟨fun r i hh n => ∃ q : Nat, i = (q : Int) - 1 ∧ q ≤ m ∧ h = hh ∧ r = fixI ((l.take m).drop q) ∧ n = q, ⟨_, m, wi64 (by omega) (by omega), by omega, rfl, by rw [List.drop_of_length_le (by simp; omega)]; rfl, rfl⟩, ?_⟩
  rintro _ _ _ n ⟨q, rfl, hq, rfl, rfl, hn⟩
  refine Br.dec (fun hge => ?_) fun hlt => ?_
  · obtain ⟨p, rfl⟩ : ∃ p, q = p + 1 := ⟨q - 1, by omega⟩
    have e : ((p + 1 : Nat) : Int) - 1 = (p : Int) := by omega
    rw [e]
    have hp : p < l.length := by omega
    refine ⟨by omega, a.ix rfl (getB hp) fun b' off hb => ⟨_, hb, p, by omega, p, by rw [wi64 (by omega) (by omega)], by omega, rfl, ?_, rfl⟩⟩
    have hd : (l.take m).drop p = l[p] :: (l.take m).drop (p + 1) := by
      have hlt : p < (l.take m).length := by simp; omega
      rw [List.drop_eq_getElem_cons hlt]
      simp
    rw [hd, wu64b]
    rfl
  · obtain rfl : q = 0 := by omega
    exact k hm2

end Go.V.Ytclffphegfhocaa
