/- This text proves a part of the laws of seat YtdeihieblljfcaaGreat, under no condition: F1i. -/
import Derived.Test.YtdeihieblljfcaaGreatKC
import Derived.Eval
import Derived.Test.YtdeihieblljfcaaGreatChecked
import Derived.Test.YtdeihieblljfcaaGreatKE
set_option linter.unusedVariables false
set_option maxRecDepth 100000
namespace Go.V.YtdeihieblljfcaaGreat
open Go Go.V
/- 135: sediment.sedimentlaw02.Own (b) -/
def pl135 : Plan := {
  blk := fun _ => none
  seq := fun _ => none
  loop := fun _ => none
  live := fun | 0 => some [0] | 1 => some [2] | _ => none
  track := fun | _ => false
  draw := fun | _ => .done
  iter := fun | _ => none }
def vc135 (a0 : Slc) (h : Heap) (R : Slc → Heap → Prop) : Prop :=
 MkC 5 [Lf.int IntKind.u8 (0 : Int)] 1 1 (0 : Int) (IntKind.wrap IntKind.i64 ((↑(Slc.len a0) : Int) + (2 : Int))) h
 fun (s0 : Slc) (h1 : Heap) => AppC 5 [Lf.int IntKind.u8 (0 : Int)] 1 1 s0 a0 h1 fun (s2 : Slc) (h3 : Heap) => R s2 h3
theorem eq135 (a0 : Slc) (h : Heap) (R : Slc → Heap → Prop) : vc135 a0 h R = vcFn Go.Proofs.Tryz.prog pl135 Go.Proofs.Tryz.f135 [.lf (.slc a0)] h [.one .slc] R := by kernel_rfl
theorem ok135 {a0 : Slc} {h : Heap} {R : Slc → Heap → Prop} (hv : vc135 a0 h R) : Call Go.Proofs.Tryz.prog 135 [.lf (.slc a0)] h [.one .slc] R := call_eq hng hmix Go.Proofs.Tryz.func135 (eq135 a0 h R) hv
/- 94: sediment.sedimentlaw02.Spoil (b) · loop 1: i -/
def pl94 : Plan := {
  blk := fun _ => none
  seq := fun _ => none
  loop := fun | 1 => some ⟨[(2, .one (.int .i64))], [], []⟩ | _ => none
  live := fun | 0 => some [0, 2] | 1 => some [0, 2, 6] | 2 => some [0, 2] | 3 => some [0, 2] | 4 => some [] | _ => none
  track := fun | _ => false
  draw := fun | _ => .done
  iter := fun | _ => none }
def vc94 (a0 : Slc) (h : Heap) (R : Heap → Prop) : Prop :=
 ∃ (I0 : Int → Heap → Nat → Prop),
 (∃ (b1 : Nat), I0 (0 : Int) h b1) ∧
 ∀ (i2 : Int) (h3 : Heap) (b4 : Nat),
 I0 i2 h3 b4 →
 Br (Decidable.decide (i2 < (↑(Slc.len a0) : Int)))
 (IxC a0 i2 1 fun (b5 b6 : Nat) =>
 StC h3 b5 b6 [Lf.int IntKind.u8 (85 : Int)] fun (h7 : Heap) => ∃ (b8 : Nat), b8 < b4 ∧ I0 (IntKind.wrap IntKind.i64 (i2 + (1 : Int))) h7 b8)
 (New 5 [Lf.int IntKind.u8 (85 : Int)] h3 fun (b9 : Nat) (h10 : Heap) =>
 AppC 5 [Lf.int IntKind.u8 (0 : Int)] 1 1 a0 (Slc.mk (Option.some (b9, 0)) 1 1) h10
 fun (s11 : Slc) (h12 : Heap) => R h12)
theorem eq94 (a0 : Slc) (h : Heap) (R : Heap → Prop) : vc94 a0 h R = vcFn Go.Proofs.Tryz.prog pl94 Go.Proofs.Tryz.f94 [.lf (.slc a0)] h [] R := by kernel_rfl
theorem ok94 {a0 : Slc} {h : Heap} {R : Heap → Prop} (hv : vc94 a0 h R) : Call Go.Proofs.Tryz.prog 94 [.lf (.slc a0)] h [] R := call_eq hng hmix Go.Proofs.Tryz.func94 (eq94 a0 h R) hv
/- 89: sediment.sedimentlaw02.texts (a, b) · loop 4: i -/
def pl89 : Plan := {
  blk := fun _ => none
  seq := fun _ => none
  loop := fun | 4 => some ⟨[(5, .one (.int .i64))], [], []⟩ | _ => none
  live := fun | 0 => some [0, 1] | 1 => some [0, 1, 10] | 2 => some [4] | 3 => some [0, 1, 5] | 4 => some [0, 1, 5, 14] | 5 => some [0, 1, 5] | 6 => some [0, 1, 5, 25] | 7 => some [4] | 8 => some [0, 1, 5] | 9 => some [4] | _ => none
  track := fun | _ => false
  draw := fun | 6 => .still 0 (.still 1 (.still 2 (.still 3 (.still 4 (.still 5 (.still 6 (.still 7 (.still 8 (.done))))))))) | _ => .done
  iter := fun | _ => none }
def vc89 (a0 : Slc) (a1 : Slc) (h : Heap) (R : Bool → Heap → Prop) : Prop :=
 Br ((↑(Slc.len a0) : Int) != (↑(Slc.len a1) : Int)) (R Bool.false h)
 (∃ (I0 : Int → Heap → Nat → Prop),
 (∃ (b1 : Nat), I0 (0 : Int) h b1) ∧
 ∀ (i2 : Int) (h3 : Heap) (b4 : Nat),
 I0 i2 h3 b4 →
 Br (Decidable.decide (i2 < (↑(Slc.len a0) : Int)))
 (IxC a0 i2 1 fun (b5 b6 : Nat) =>
 ∃ (t7 : ByteArray),
 cellsAt h3 b5 b6 [Lf.str t7] ∧
 IxC a1 i2 1 fun (b8 b9 : Nat) =>
 ∃ (t10 : ByteArray),
 cellsAt h3 b8 b9 [Lf.str t10] ∧
 Br (!strEq t7 t10) (R Bool.false h3)
 (IxC a0 i2 1 fun (b11 b12 : Nat) =>
 StC h3 b11 b12 [Lf.str (ByteArray.mk #[(115 : UInt8), (112 : UInt8), (111 : UInt8), (105 : UInt8), (108 : UInt8), (116 : UInt8)])] fun (h13 : Heap) =>
 ∃ (b14 : Nat), b14 < b4 ∧ I0 (IntKind.wrap IntKind.i64 (i2 + (1 : Int))) h13 b14))
 (R Bool.true h3))
theorem eq89 (a0 : Slc) (a1 : Slc) (h : Heap) (R : Bool → Heap → Prop) : vc89 a0 a1 h R = vcFn Go.Proofs.Tryz.prog pl89 Go.Proofs.Tryz.f89 [.lf (.slc a0), .lf (.slc a1)] h [.one .bool] R := by kernel_rfl
theorem ok89 {a0 : Slc} {a1 : Slc} {h : Heap} {R : Bool → Heap → Prop} (hv : vc89 a0 a1 h R) : Call Go.Proofs.Tryz.prog 89 [.lf (.slc a0), .lf (.slc a1)] h [.one .bool] R := call_eq hng hmix Go.Proofs.Tryz.func89 (eq89 a0 a1 h R) hv
/- 70: (*sediment.sedimentlaw02.Pair).writes (x, a) -/
def pl70 : Plan := {
  blk := fun _ => none
  seq := fun _ => none
  loop := fun _ => none
  live := fun | 0 => some [0, 3] | 1 => some [0, 3, 5] | 2 => some [0, 3, 5, 13] | 3 => some [0, 3, 5, 6] | 4 => some [0, 3, 6] | 5 => some [4] | 6 => some [0, 3, 5, 7] | 7 => some [0, 3, 7] | 8 => some [4] | _ => none
  track := fun | 3 => true | _ => false
  draw := fun | 3 => .still 0 (.still 1 (.still 2 (.still 3 (.still 4 (.still 5 (.still 6 (.still 7 (.still 8 (.mem 9 (.still 10 (.done))))))))))) | 5 => .still 0 (.still 1 (.still 2 (.still 3 (.still 4 (.still 5 (.still 6 (.still 7 (.still 8 (.still 9 (.still 10 (.mem 11 (.still 12 (.still 13 (.done)))))))))))))) | 6 => .still 0 (.still 1 (.still 2 (.still 3 (.still 4 (.still 5 (.still 6 (.mem 7 (.still 8 (.done))))))))) | 8 => .still 0 (.still 1 (.still 2 (.still 3 (.still 4 (.still 5 (.still 6 (.still 7 (.still 8 (.mem 9 (.still 10 (.still 11 (.done)))))))))))) | _ => .done
  iter := fun | _ => none }
def vc70 (a0 : Option (Nat × Nat)) (a1 : Int) (a2 : ByteArray) (a3 : ByteArray) (a4 : Slc) (a5 : Int) (a6 : Int) (a7 : Slc) (a8 : Slc) (h : Heap) (R : Bool → Heap → Prop) : Prop :=
 New 58 [Lf.int IntKind.i64 a1, Lf.str a2, Lf.str a3, Lf.slc a4, Lf.int IntKind.i64 a5, Lf.int IntKind.i64 a6, Lf.slc a7, Lf.slc a8] h
 fun (b0 : Nat) (h1 : Heap) =>
 Call Go.Proofs.Tryz.prog 135 [VV.lf (Lf.slc a4)] h1 [VT.one LT.slc] fun (s2 : Slc) (h3 : Heap) =>
 keepB h1 h3 [b0] ∧
 Br (a1 == (3 : Int))
 (NilC a0 fun (b4 b5 : Nat) =>
 ∃ (p6 : Option (Nat × Nat)),
 cellsAt h3 b4 (b5 + 0) [Lf.ptr p6] ∧
 Call Go.Proofs.Tryz.prog 39 [VV.lf (Lf.ptr p6), VV.lf (Lf.str a2), VV.lf (Lf.int IntKind.i64 a5), VV.lf (Lf.slc s2)] h3
 [VT.one (LT.int IntKind.i64)] fun (i7 : Int) (h8 : Heap) =>
 keepB h3 h8 [b0] ∧
 Call Go.Proofs.Tryz.prog 94 [VV.lf (Lf.slc s2)] h8 [] fun (h9 : Heap) =>
 keepB h8 h9 [b0] ∧
 NilC a0 fun (b10 b11 : Nat) =>
 ∃ (p12 : Option (Nat × Nat)),
 cellsAt h9 b10 (b11 + 1) [Lf.ptr p12] ∧
 Call Go.Proofs.Tryz.prog 136
 [VV.lf (Lf.ptr p12), VV.lf (Lf.str a2), VV.lf (Lf.int IntKind.i64 a5), VV.lf (Lf.slc a4)] h9
 [VT.one (LT.int IntKind.i64)] fun (i13 : Int) (h14 : Heap) => keepB h9 h14 [b0] ∧ R (i7 == i13) h14)
 (NilC a0 fun (b15 b16 : Nat) =>
 ∃ (p17 : Option (Nat × Nat)),
 cellsAt h3 b15 (b16 + 0) [Lf.ptr p17] ∧
 Call Go.Proofs.Tryz.prog 15 [VV.lf (Lf.ptr p17), VV.lf (Lf.str a2), VV.lf (Lf.slc s2)] h3 [VT.one (LT.int IntKind.i64)]
 fun (i18 : Int) (h19 : Heap) =>
 keepB h3 h19 [b0] ∧
 Call Go.Proofs.Tryz.prog 94 [VV.lf (Lf.slc s2)] h19 [] fun (h20 : Heap) =>
 keepB h19 h20 [b0] ∧
 NilC a0 fun (b21 b22 : Nat) =>
 ∃ (p23 : Option (Nat × Nat)),
 cellsAt h20 b21 (b22 + 1) [Lf.ptr p23] ∧
 Call Go.Proofs.Tryz.prog 137 [VV.lf (Lf.ptr p23), VV.lf (Lf.str a2), VV.lf (Lf.slc a4)] h20
 [VT.one (LT.int IntKind.i64)] fun (i24 : Int) (h25 : Heap) => keepB h20 h25 [b0] ∧ R (i18 == i24) h25)
theorem eq70 (a0 : Option (Nat × Nat)) (a1 : Int) (a2 : ByteArray) (a3 : ByteArray) (a4 : Slc) (a5 : Int) (a6 : Int) (a7 : Slc) (a8 : Slc) (h : Heap) (R : Bool → Heap → Prop) : vc70 a0 a1 a2 a3 a4 a5 a6 a7 a8 h R = vcFn Go.Proofs.Tryz.prog pl70 Go.Proofs.Tryz.f70 [.lf (.ptr a0), .agg [.int .i64 a1, .str a2, .str a3, .slc a4, .int .i64 a5, .int .i64 a6, .slc a7, .slc a8]] h [.one .bool] R := by kernel_rfl
theorem ok70 {a0 : Option (Nat × Nat)} {a1 : Int} {a2 : ByteArray} {a3 : ByteArray} {a4 : Slc} {a5 : Int} {a6 : Int} {a7 : Slc} {a8 : Slc} {h : Heap} {R : Bool → Heap → Prop} (hv : vc70 a0 a1 a2 a3 a4 a5 a6 a7 a8 h R) : Call Go.Proofs.Tryz.prog 70 [.lf (.ptr a0), .agg [.int .i64 a1, .str a2, .str a3, .slc a4, .int .i64 a5, .int .i64 a6, .slc a7, .slc a8]] h [.one .bool] R := call_eq hng hmix Go.Proofs.Tryz.func70 (eq70 a0 a1 a2 a3 a4 a5 a6 a7 a8 h R) hv
/- 86: (*sediment.sedimentlaw02.Pair).reads () · seq 5: #11 · seq 9: #11 · seq 13: #11 · seq 16: #11 -/
def pl86 : Plan := {
  blk := fun _ => none
  seq := fun | 5 => some ⟨[(11, .one .bool)], [], []⟩ | 9 => some ⟨[(11, .one .bool)], [], []⟩ | 13 => some ⟨[(11, .one .bool)], [], []⟩ | 16 => some ⟨[(11, .one .bool)], [], []⟩ | _ => none
  loop := fun _ => none
  live := fun | 0 => some [0, 3] | 1 => some [0, 3, 5, 6] | 2 => some [0, 3, 5, 6, 7, 8] | 3 => some [0, 3, 5, 6, 7, 8, 9, 10] | 4 => some [0, 3, 5, 11] | 5 => some [0, 3, 11] | 6 => some [0, 3, 5, 6, 11] | 7 => some [0, 3, 5, 6, 7, 8, 11] | 8 => some [0, 3, 5, 11] | 9 => some [0, 3, 11] | 10 => some [0, 3, 6, 9, 11] | 11 => some [0, 3, 6, 8, 9, 11, 12] | 12 => some [0, 3, 11] | 13 => some [0, 3, 6, 11, 13] | 14 => some [0, 3, 6, 8, 11, 13, 14] | 15 => some [0, 3, 11] | 16 => some [0, 3, 6, 9, 11] | 17 => some [0, 3, 6, 8, 9, 11, 12] | 18 => some [4] | _ => none
  track := fun | 3 => true | _ => false
  draw := fun | 1 => .still 0 (.still 1 (.still 2 (.still 3 (.still 4 (.still 5 (.mem 6 (.still 7 (.still 8 (.still 9 (.still 10 (.still 11 (.done)))))))))))) | 2 => .still 0 (.still 1 (.still 2 (.still 3 (.still 4 (.still 5 (.mem 6 (.still 7 (.still 8 (.still 9 (.still 10 (.still 11 (.done)))))))))))) | 3 => .still 0 (.still 1 (.still 2 (.still 3 (.still 4 (.still 5 (.mem 6 (.still 7 (.still 8 (.still 9 (.still 10 (.still 11 (.done)))))))))))) | 6 => .still 0 (.still 1 (.still 2 (.still 3 (.still 4 (.still 5 (.still 6 (.still 7 (.still 8 (.still 9 (.mem 10 (.still 11 (.still 12 (.still 13 (.still 14 (.still 15 (.done)))))))))))))))) | 7 => .still 0 (.still 1 (.still 2 (.still 3 (.still 4 (.still 5 (.still 6 (.still 7 (.still 8 (.still 9 (.mem 10 (.still 11 (.still 12 (.still 13 (.still 14 (.still 15 (.done)))))))))))))))) | 10 => .still 0 (.still 1 (.still 2 (.still 3 (.still 4 (.still 5 (.mem 6 (.still 7 (.still 8 (.still 9 (.still 10 (.still 11 (.done)))))))))))) | 11 => .still 0 (.still 1 (.still 2 (.still 3 (.still 4 (.still 5 (.mem 6 (.still 7 (.still 8 (.still 9 (.still 10 (.still 11 (.done)))))))))))) | 13 => .still 0 (.still 1 (.still 2 (.still 3 (.still 4 (.still 5 (.mem 6 (.still 7 (.still 8 (.still 9 (.still 10 (.still 11 (.done)))))))))))) | 14 => .still 0 (.still 1 (.still 2 (.still 3 (.still 4 (.still 5 (.mem 6 (.still 7 (.still 8 (.still 9 (.still 10 (.still 11 (.done)))))))))))) | 16 => .still 0 (.still 1 (.still 2 (.still 3 (.still 4 (.still 5 (.mem 6 (.still 7 (.still 8 (.still 9 (.still 10 (.still 11 (.done)))))))))))) | 17 => .still 0 (.still 1 (.still 2 (.still 3 (.still 4 (.still 5 (.mem 6 (.still 7 (.still 8 (.still 9 (.still 10 (.still 11 (.done)))))))))))) | 18 => .still 0 (.still 1 (.still 2 (.still 3 (.still 4 (.still 5 (.still 6 (.still 7 (.still 8 (.still 9 (.still 10 (.still 11 (.still 12 (.still 13 (.still 14 (.still 15 (.still 16 (.still 17 (.still 18 (.still 19 (.still 21 (.still 22 (.still 23 (.still 24 (.still 25 (.still 26 (.still 27 (.still 28 (.mem 20 (.mem 29 (.still 30 (.still 31 (.still 32 (.done))))))))))))))))))))))))))))))))) | _ => .done
  iter := fun | _ => none }
def vc86 (a0 : Option (Nat × Nat)) (a1 : Int) (a2 : ByteArray) (a3 : ByteArray) (a4 : Slc) (a5 : Int) (a6 : Int) (a7 : Slc) (a8 : Slc) (h : Heap) (R : Bool → Heap → Prop) : Prop :=
 New 58 [Lf.int IntKind.i64 a1, Lf.str a2, Lf.str a3, Lf.slc a4, Lf.int IntKind.i64 a5, Lf.int IntKind.i64 a6, Lf.slc a7, Lf.slc a8] h
 fun (b0 : Nat) (h1 : Heap) =>
 NilC a0 fun (b2 b3 : Nat) =>
 ∃ (p4 : Option (Nat × Nat)),
 cellsAt h1 b2 (b3 + 0) [Lf.ptr p4] ∧
 Call Go.Proofs.Tryz.prog 41 [VV.lf (Lf.ptr p4), VV.lf (Lf.str a2)] h1 [VT.one LT.slc, VT.one (LT.int IntKind.i64)]
 fun (s5 : Slc) (i6 : Int) (h7 : Heap) =>
 keepB h1 h7 [b0] ∧
 NilC a0 fun (b8 b9 : Nat) =>
 ∃ (p10 : Option (Nat × Nat)),
 cellsAt h7 b8 (b9 + 1) [Lf.ptr p10] ∧
 Call Go.Proofs.Tryz.prog 154 [VV.lf (Lf.ptr p10), VV.lf (Lf.str a2)] h7 [VT.one LT.slc, VT.one (LT.int IntKind.i64)]
 fun (s11 : Slc) (i12 : Int) (h13 : Heap) =>
 keepB h7 h13 [b0] ∧
 NilC a0 fun (b14 b15 : Nat) =>
 ∃ (p16 : Option (Nat × Nat)),
 cellsAt h13 b14 (b15 + 0) [Lf.ptr p16] ∧
 Call Go.Proofs.Tryz.prog 155 [VV.lf (Lf.ptr p16), VV.lf (Lf.str a2)] h13
 [VT.one (LT.int IntKind.i64), VT.one (LT.int IntKind.i64)] fun (i17 i18 : Int) (h19 : Heap) =>
 keepB h13 h19 [b0] ∧
 ∃ (I20 : Bool → Heap → Prop),
 (∃ (t21 : ByteArray),
 bytesAt h19 s5 t21 ∧
 ∃ (t22 : ByteArray),
 bytesAt h19 s11 t22 ∧
 Br (strEq t21 t22)
 (Br (i6 == i12) (Br (i17 == (↑(Slc.len s11) : Int)) (I20 (i18 == i12) h19) (I20 Bool.false h19)) (I20 Bool.false h19))
 (I20 Bool.false h19)) ∧
 ∀ (c23 : Bool) (h24 : Heap),
 I20 c23 h24 →
 Call Go.Proofs.Tryz.prog 94 [VV.lf (Lf.slc s5)] h24 [] fun (h25 : Heap) =>
 keepB h24 h25 [b0] ∧
 NilC a0 fun (b26 b27 : Nat) =>
 ∃ (p28 : Option (Nat × Nat)),
 cellsAt h25 b26 (b27 + 0) [Lf.ptr p28] ∧
 Call Go.Proofs.Tryz.prog 156
 [VV.lf (Lf.ptr p28), VV.lf (Lf.str a2), VV.lf (Lf.int IntKind.i64 a5), VV.lf (Lf.int IntKind.i64 a6)]
 h25 [VT.one LT.slc, VT.one (LT.int IntKind.i64)] fun (s29 : Slc) (i30 : Int) (h31 : Heap) =>
 keepB h25 h31 [b0] ∧
 NilC a0 fun (b32 b33 : Nat) =>
 ∃ (p34 : Option (Nat × Nat)),
 cellsAt h31 b32 (b33 + 1) [Lf.ptr p34] ∧
 Call Go.Proofs.Tryz.prog 157
 [VV.lf (Lf.ptr p34), VV.lf (Lf.str a2), VV.lf (Lf.int IntKind.i64 a5),
 VV.lf (Lf.int IntKind.i64 a6)]
 h31 [VT.one LT.slc, VT.one (LT.int IntKind.i64)] fun (s35 : Slc) (i36 : Int) (h37 : Heap) =>
 keepB h31 h37 [b0] ∧
 ∃ (I38 : Bool → Heap → Prop),
 Br c23
 (∃ (t39 : ByteArray),
 bytesAt h37 s29 t39 ∧
 ∃ (t40 : ByteArray), bytesAt h37 s35 t40 ∧ Br (strEq t39 t40) (I38 (i30 == i36) h37) (I38 Bool.false h37))
 (I38 Bool.false h37) ∧
 ∀ (c41 : Bool) (h42 : Heap),
 I38 c41 h42 →
 Call Go.Proofs.Tryz.prog 94 [VV.lf (Lf.slc s29)] h42 [] fun (h43 : Heap) =>
 keepB h42 h43 [b0] ∧
 NilC a0 fun (b44 b45 : Nat) =>
 ∃ (p46 : Option (Nat × Nat)),
 cellsAt h43 b44 (b45 + 0) [Lf.ptr p46] ∧
 Call Go.Proofs.Tryz.prog 158 [VV.lf (Lf.ptr p46), VV.lf (Lf.str a2)] h43
 [VT.one (LT.int IntKind.i64), VT.one (LT.int IntKind.i64)]
 fun (i47 i48 : Int) (h49 : Heap) =>
 keepB h43 h49 [b0] ∧
 NilC a0 fun (b50 b51 : Nat) =>
 ∃ (p52 : Option (Nat × Nat)),
 cellsAt h49 b50 (b51 + 1) [Lf.ptr p52] ∧
 Call Go.Proofs.Tryz.prog 159 [VV.lf (Lf.ptr p52), VV.lf (Lf.str a2)] h49
 [VT.one (LT.int IntKind.i64), VT.one (LT.int IntKind.i64)]
 fun (i53 i54 : Int) (h55 : Heap) =>
 keepB h49 h55 [b0] ∧
 ∃ (I56 : Bool → Heap → Prop),
 Br c41 (Br (i47 == i53) (I56 (i48 == i54) h55) (I56 Bool.false h55)) (I56 Bool.false h55) ∧
 ∀ (c57 : Bool) (h58 : Heap),
 I56 c57 h58 →
 NilC a0 fun (b59 b60 : Nat) =>
 ∃ (p61 : Option (Nat × Nat)),
 cellsAt h58 b59 (b60 + 0) [Lf.ptr p61] ∧
 Call Go.Proofs.Tryz.prog 160
 [VV.lf (Lf.ptr p61), VV.lf (Lf.str a2)] h58
 [VT.one LT.slc, VT.one (LT.int IntKind.i64)]
 fun (s62 : Slc) (i63 : Int) (h64 : Heap) =>
 keepB h58 h64 [b0] ∧
 NilC a0 fun (b65 b66 : Nat) =>
 ∃ (p67 : Option (Nat × Nat)),
 cellsAt h64 b65 (b66 + 1) [Lf.ptr p67] ∧
 Call Go.Proofs.Tryz.prog 161
 [VV.lf (Lf.ptr p67), VV.lf (Lf.str a2)] h64
 [VT.one LT.slc, VT.one (LT.int IntKind.i64)]
 fun (s68 : Slc) (i69 : Int) (h70 : Heap) =>
 keepB h64 h70 [b0] ∧
 ∃ (I71 : Bool → Heap → Prop),
 Br c57
 (Call Go.Proofs.Tryz.prog 89
 [VV.lf (Lf.slc s62), VV.lf (Lf.slc s68)] h70
 [VT.one LT.bool] fun (c72 : Bool) (h73 : Heap) =>
 keepB h70 h73 [b0] ∧
 Br c72 (I71 (i63 == i69) h73) (I71 Bool.false h73))
 (I71 Bool.false h70) ∧
 ∀ (c74 : Bool) (h75 : Heap),
 I71 c74 h75 →
 NilC a0 fun (b76 b77 : Nat) =>
 ∃ (p78 : Option (Nat × Nat)),
 cellsAt h75 b76 (b77 + 0) [Lf.ptr p78] ∧
 Call Go.Proofs.Tryz.prog 91
 [VV.lf (Lf.ptr p78), VV.lf (Lf.str a2)]
 h75
 [VT.one (LT.int IntKind.i64),
 VT.one (LT.int IntKind.i64)]
 fun (i79 i80 : Int) (h81 : Heap) =>
 keepB h75 h81 [b0] ∧
 NilC a0 fun (b82 b83 : Nat) =>
 ∃ (p84 : Option (Nat × Nat)),
 cellsAt h81 b82 (b83 + 1)
 [Lf.ptr p84] ∧
 Call Go.Proofs.Tryz.prog 92
 [VV.lf (Lf.ptr p84),
 VV.lf (Lf.str a2)]
 h81
 [VT.one (LT.int IntKind.i64),
 VT.one (LT.int IntKind.i64)]
 fun (i85 i86 : Int) (h87 : Heap) =>
 keepB h81 h87 [b0] ∧
 Br c74
 (Br (i79 == i85)
 (Br (i80 == i86)
 (NilC a0 fun (b88 b89 : Nat) =>
 ∃ (p90 : Option (Nat × Nat)),
 cellsAt h87 b88 (b89 + 0)
 [Lf.ptr p90] ∧
 NilC a0 fun (b91 b92 : Nat) =>
 ∃ (p93 : Option (Nat × Nat)),
 cellsAt h87 b91
 (b92 + 1)
 [Lf.ptr p93] ∧
 Call Go.Proofs.Tryz.prog
 162
 [VV.lf
 (Lf.ptr p90),
 VV.lf
 (Lf.str a2),
 VV.lf
 (Lf.str a3)]
 h87
 [VT.one LT.bool]
 fun (c94 : Bool)
 (h95 : Heap) =>
 keepB h87 h95 [b0] ∧
 cellsAt h95 b91
 (b92 + 1)
 [Lf.ptr p93] ∧
 Call
 Go.Proofs.Tryz.prog
 163
 [VV.lf
 (Lf.ptr p93),
 VV.lf
 (Lf.str a2),
 VV.lf
 (Lf.str a3)]
 h95
 [VT.one
 LT.bool]
 fun (c96 : Bool)
 (h97 :
 Heap) =>
 keepB h95 h97
 [b0] ∧
 R (c94 == c96) h97)
 (R Bool.false h87))
 (R Bool.false h87))
 (R Bool.false h87)
theorem eq86 (a0 : Option (Nat × Nat)) (a1 : Int) (a2 : ByteArray) (a3 : ByteArray) (a4 : Slc) (a5 : Int) (a6 : Int) (a7 : Slc) (a8 : Slc) (h : Heap) (R : Bool → Heap → Prop) : vc86 a0 a1 a2 a3 a4 a5 a6 a7 a8 h R = vcFn Go.Proofs.Tryz.prog pl86 Go.Proofs.Tryz.f86 [.lf (.ptr a0), .agg [.int .i64 a1, .str a2, .str a3, .slc a4, .int .i64 a5, .int .i64 a6, .slc a7, .slc a8]] h [.one .bool] R := by kernel_rfl
theorem ok86 {a0 : Option (Nat × Nat)} {a1 : Int} {a2 : ByteArray} {a3 : ByteArray} {a4 : Slc} {a5 : Int} {a6 : Int} {a7 : Slc} {a8 : Slc} {h : Heap} {R : Bool → Heap → Prop} (hv : vc86 a0 a1 a2 a3 a4 a5 a6 a7 a8 h R) : Call Go.Proofs.Tryz.prog 86 [.lf (.ptr a0), .agg [.int .i64 a1, .str a2, .str a3, .slc a4, .int .i64 a5, .int .i64 a6, .slc a7, .slc a8]] h [.one .bool] R := call_eq hng hmix Go.Proofs.Tryz.func86 (eq86 a0 a1 a2 a3 a4 a5 a6 a7 a8 h R) hv
/- 28: (*sediment.sedimentlaw02.Pair).Does () · seq 10: #58 -/
def pl28 : Plan := {
  blk := fun _ => none
  seq := fun | 10 => some ⟨[(58, .one .bool)], [], []⟩ | _ => none
  loop := fun _ => none
  live := fun | 0 => some [0, 3] | 1 => some [0, 3, 6] | 2 => some [0, 3, 6, 7] | 3 => some [4] | 4 => some [0, 3, 6, 24] | 5 => some [4] | 6 => some [0, 3, 6, 41] | 7 => some [4] | 8 => some [0, 3, 6, 58] | 9 => some [0, 3, 6, 58] | 10 => some [4] | 11 => some [0, 3, 6, 64] | 12 => some [4] | 13 => some [0, 3, 6, 85] | 14 => some [4] | 15 => some [0, 3, 6, 106] | 16 => some [4] | 17 => some [0, 3, 6, 127] | 18 => some [4] | 19 => some [0, 3, 6, 144] | 20 => some [4] | 21 => some [0, 3, 6, 161] | 22 => some [4] | 23 => some [0, 3, 6, 178] | 24 => some [0, 3] | 25 => some [] | 26 => some [0, 3, 6, 198] | 27 => some [0, 3] | 28 => some [] | 29 => some [0, 3, 6, 214] | 30 => some [4] | 31 => some [0, 3, 6, 235] | 32 => some [0, 3] | 33 => some [] | 34 => some [0, 3, 259] | 35 => some [4] | 36 => some [4] | _ => none
  track := fun | 3 => true | _ => false
  draw := fun | 3 => .still 0 (.still 1 (.still 2 (.still 3 (.still 4 (.still 5 (.still 7 (.still 8 (.still 9 (.still 10 (.still 11 (.still 12 (.mem 6 (.mem 13 (.still 14 (.still 15 (.done)))))))))))))))) | 5 => .still 0 (.still 1 (.still 2 (.still 3 (.still 4 (.still 5 (.still 7 (.still 8 (.still 9 (.still 10 (.still 11 (.still 12 (.mem 6 (.mem 13 (.still 14 (.still 15 (.done)))))))))))))))) | 7 => .still 0 (.still 1 (.still 2 (.still 3 (.still 4 (.still 5 (.still 7 (.still 8 (.still 9 (.still 10 (.still 11 (.still 12 (.mem 6 (.mem 13 (.still 14 (.still 15 (.done)))))))))))))))) | 12 => .still 0 (.still 1 (.still 2 (.still 3 (.still 4 (.still 5 (.still 6 (.still 7 (.still 9 (.still 10 (.still 11 (.still 12 (.still 13 (.still 14 (.still 15 (.still 16 (.mem 8 (.mem 17 (.still 18 (.still 19 (.done)))))))))))))))))))) | 14 => .still 0 (.still 1 (.still 2 (.still 3 (.still 4 (.still 5 (.still 6 (.still 7 (.still 9 (.still 10 (.still 11 (.still 12 (.still 13 (.still 14 (.still 15 (.still 16 (.mem 8 (.mem 17 (.still 18 (.still 19 (.done)))))))))))))))))))) | 16 => .still 0 (.still 1 (.still 2 (.still 3 (.still 4 (.still 5 (.still 6 (.still 7 (.still 9 (.still 10 (.still 11 (.still 12 (.still 13 (.still 14 (.still 15 (.still 16 (.mem 8 (.mem 17 (.still 18 (.still 19 (.done)))))))))))))))))))) | 18 => .still 0 (.still 1 (.still 2 (.still 3 (.still 4 (.still 5 (.still 7 (.still 8 (.still 9 (.still 10 (.still 11 (.still 12 (.mem 6 (.mem 13 (.still 14 (.still 15 (.done)))))))))))))))) | 20 => .still 0 (.still 1 (.still 2 (.still 3 (.still 4 (.still 5 (.still 7 (.still 8 (.still 9 (.still 10 (.still 11 (.still 12 (.mem 6 (.mem 13 (.still 14 (.still 15 (.done)))))))))))))))) | 22 => .still 0 (.still 1 (.still 2 (.still 3 (.still 4 (.still 5 (.still 7 (.still 8 (.still 9 (.still 10 (.still 11 (.still 12 (.mem 6 (.mem 13 (.still 14 (.still 15 (.done)))))))))))))))) | 24 => .still 0 (.still 1 (.still 2 (.still 3 (.still 4 (.still 5 (.still 6 (.still 7 (.mem 8 (.done))))))))) | 25 => .still 0 (.still 1 (.still 2 (.still 3 (.still 4 (.still 5 (.still 6 (.still 7 (.mem 8 (.done))))))))) | 27 => .still 0 (.still 1 (.still 2 (.still 3 (.still 4 (.still 5 (.mem 6 (.done))))))) | 28 => .still 0 (.still 1 (.still 2 (.still 3 (.still 4 (.still 5 (.mem 6 (.done))))))) | 30 => .still 0 (.still 1 (.still 2 (.still 3 (.still 4 (.still 5 (.still 6 (.still 7 (.still 9 (.still 10 (.still 11 (.still 12 (.still 13 (.still 14 (.still 15 (.still 16 (.mem 8 (.mem 17 (.still 18 (.still 19 (.done)))))))))))))))))))) | 32 => .still 0 (.still 1 (.still 2 (.still 3 (.still 5 (.still 6 (.still 9 (.still 10 (.alt 4 (.alt 7 (.mem 8 (.mem 11 (.mem 12 (.done)))) (.mem 8 (.mem 7 (.mem 11 (.mem 12 (.done)))))) (.mem 8 (.mem 4 (.mem 7 (.mem 11 (.mem 12 (.done)))))))))))))) | 33 => .still 0 (.still 1 (.still 2 (.still 3 (.still 4 (.still 5 (.still 6 (.still 7 (.mem 8 (.done))))))))) | _ => .done
  iter := fun | _ => none }
def vc28 (a0 : Option (Nat × Nat)) (a1 : Int) (a2 : ByteArray) (a3 : ByteArray) (a4 : Slc) (a5 : Int) (a6 : Int) (a7 : Slc) (a8 : Slc) (h : Heap) (R : Bool → Heap → Prop) : Prop :=
 New 58 [Lf.int IntKind.i64 a1, Lf.str a2, Lf.str a3, Lf.slc a4, Lf.int IntKind.i64 a5, Lf.int IntKind.i64 a6, Lf.slc a7, Lf.slc a8] h
 fun (b0 : Nat) (h1 : Heap) =>
 Br (a1 == (0 : Int))
 (NilC a0 fun (b2 b3 : Nat) =>
 ∃ (p4 : Option (Nat × Nat)),
 cellsAt h1 b2 (b3 + 0) [Lf.ptr p4] ∧
 NilC a0 fun (b5 b6 : Nat) =>
 ∃ (p7 : Option (Nat × Nat)),
 cellsAt h1 b5 (b6 + 1) [Lf.ptr p7] ∧
 Call Go.Proofs.Tryz.prog 37 [VV.lf (Lf.ptr p4), VV.lf (Lf.str a2)] h1 [VT.one (LT.int IntKind.i64)] fun (i8 : Int) (h9 : Heap) =>
 keepB h1 h9 [b0] ∧
 cellsAt h9 b5 (b6 + 1) [Lf.ptr p7] ∧
 Call Go.Proofs.Tryz.prog 66 [VV.lf (Lf.ptr p7), VV.lf (Lf.str a2)] h9 [VT.one (LT.int IntKind.i64)]
 fun (i10 : Int) (h11 : Heap) => keepB h9 h11 [b0] ∧ R (i8 == i10) h11)
 (Br (a1 == (1 : Int))
 (NilC a0 fun (b12 b13 : Nat) =>
 ∃ (p14 : Option (Nat × Nat)),
 cellsAt h1 b12 (b13 + 0) [Lf.ptr p14] ∧
 NilC a0 fun (b15 b16 : Nat) =>
 ∃ (p17 : Option (Nat × Nat)),
 cellsAt h1 b15 (b16 + 1) [Lf.ptr p17] ∧
 Call Go.Proofs.Tryz.prog 67 [VV.lf (Lf.ptr p14), VV.lf (Lf.str a2)] h1 [VT.one (LT.int IntKind.i64)]
 fun (i18 : Int) (h19 : Heap) =>
 keepB h1 h19 [b0] ∧
 cellsAt h19 b15 (b16 + 1) [Lf.ptr p17] ∧
 Call Go.Proofs.Tryz.prog 68 [VV.lf (Lf.ptr p17), VV.lf (Lf.str a2)] h19 [VT.one (LT.int IntKind.i64)]
 fun (i20 : Int) (h21 : Heap) => keepB h19 h21 [b0] ∧ R (i18 == i20) h21)
 (Br (a1 == (2 : Int))
 (NilC a0 fun (b22 b23 : Nat) =>
 ∃ (p24 : Option (Nat × Nat)),
 cellsAt h1 b22 (b23 + 0) [Lf.ptr p24] ∧
 NilC a0 fun (b25 b26 : Nat) =>
 ∃ (p27 : Option (Nat × Nat)),
 cellsAt h1 b25 (b26 + 1) [Lf.ptr p27] ∧
 Call Go.Proofs.Tryz.prog 38 [VV.lf (Lf.ptr p24), VV.lf (Lf.str a2)] h1 [VT.one (LT.int IntKind.i64)]
 fun (i28 : Int) (h29 : Heap) =>
 keepB h1 h29 [b0] ∧
 cellsAt h29 b25 (b26 + 1) [Lf.ptr p27] ∧
 Call Go.Proofs.Tryz.prog 69 [VV.lf (Lf.ptr p27), VV.lf (Lf.str a2)] h29 [VT.one (LT.int IntKind.i64)]
 fun (i30 : Int) (h31 : Heap) => keepB h29 h31 [b0] ∧ R (i28 == i30) h31)
 (∃ (I32 : Bool → Heap → Prop),
 Br (a1 == (3 : Int)) (I32 (a1 == (3 : Int)) h1) (I32 (a1 == (4 : Int)) h1) ∧
 ∀ (c33 : Bool) (h34 : Heap),
 I32 c33 h34 →
 Br c33
 (Call Go.Proofs.Tryz.prog 70
 [VV.lf (Lf.ptr a0),
 VV.agg
 [Lf.int IntKind.i64 a1, Lf.str a2, Lf.str a3, Lf.slc a4, Lf.int IntKind.i64 a5, Lf.int IntKind.i64 a6, Lf.slc a7, Lf.slc a8]]
 h34 [VT.one LT.bool] fun (c35 : Bool) (h36 : Heap) => keepB h34 h36 [b0] ∧ R c35 h36)
 (Br (a1 == (5 : Int))
 (NilC a0 fun (b37 b38 : Nat) =>
 ∃ (p39 : Option (Nat × Nat)),
 cellsAt h34 b37 (b38 + 0) [Lf.ptr p39] ∧
 NilC a0 fun (b40 b41 : Nat) =>
 ∃ (p42 : Option (Nat × Nat)),
 cellsAt h34 b40 (b41 + 1) [Lf.ptr p42] ∧
 Call Go.Proofs.Tryz.prog 71 [VV.lf (Lf.ptr p39), VV.lf (Lf.str a2), VV.lf (Lf.int IntKind.i64 a5)] h34
 [VT.one (LT.int IntKind.i64)] fun (i43 : Int) (h44 : Heap) =>
 keepB h34 h44 [b0] ∧
 cellsAt h44 b40 (b41 + 1) [Lf.ptr p42] ∧
 Call Go.Proofs.Tryz.prog 72 [VV.lf (Lf.ptr p42), VV.lf (Lf.str a2), VV.lf (Lf.int IntKind.i64 a5)] h44
 [VT.one (LT.int IntKind.i64)] fun (i45 : Int) (h46 : Heap) => keepB h44 h46 [b0] ∧ R (i43 == i45) h46)
 (Br (a1 == (6 : Int))
 (NilC a0 fun (b47 b48 : Nat) =>
 ∃ (p49 : Option (Nat × Nat)),
 cellsAt h34 b47 (b48 + 0) [Lf.ptr p49] ∧
 NilC a0 fun (b50 b51 : Nat) =>
 ∃ (p52 : Option (Nat × Nat)),
 cellsAt h34 b50 (b51 + 1) [Lf.ptr p52] ∧
 Call Go.Proofs.Tryz.prog 73 [VV.lf (Lf.ptr p49), VV.lf (Lf.str a2), VV.lf (Lf.str a3)] h34
 [VT.one (LT.int IntKind.i64)] fun (i53 : Int) (h54 : Heap) =>
 keepB h34 h54 [b0] ∧
 cellsAt h54 b50 (b51 + 1) [Lf.ptr p52] ∧
 Call Go.Proofs.Tryz.prog 74 [VV.lf (Lf.ptr p52), VV.lf (Lf.str a2), VV.lf (Lf.str a3)] h54
 [VT.one (LT.int IntKind.i64)] fun (i55 : Int) (h56 : Heap) => keepB h54 h56 [b0] ∧ R (i53 == i55) h56)
 (Br (a1 == (7 : Int))
 (NilC a0 fun (b57 b58 : Nat) =>
 ∃ (p59 : Option (Nat × Nat)),
 cellsAt h34 b57 (b58 + 0) [Lf.ptr p59] ∧
 NilC a0 fun (b60 b61 : Nat) =>
 ∃ (p62 : Option (Nat × Nat)),
 cellsAt h34 b60 (b61 + 1) [Lf.ptr p62] ∧
 Call Go.Proofs.Tryz.prog 75 [VV.lf (Lf.ptr p59), VV.lf (Lf.str a2), VV.lf (Lf.str a3)] h34
 [VT.one (LT.int IntKind.i64)] fun (i63 : Int) (h64 : Heap) =>
 keepB h34 h64 [b0] ∧
 cellsAt h64 b60 (b61 + 1) [Lf.ptr p62] ∧
 Call Go.Proofs.Tryz.prog 76 [VV.lf (Lf.ptr p62), VV.lf (Lf.str a2), VV.lf (Lf.str a3)] h64
 [VT.one (LT.int IntKind.i64)] fun (i65 : Int) (h66 : Heap) => keepB h64 h66 [b0] ∧ R (i63 == i65) h66)
 (Br (a1 == (8 : Int))
 (NilC a0 fun (b67 b68 : Nat) =>
 ∃ (p69 : Option (Nat × Nat)),
 cellsAt h34 b67 (b68 + 0) [Lf.ptr p69] ∧
 NilC a0 fun (b70 b71 : Nat) =>
 ∃ (p72 : Option (Nat × Nat)),
 cellsAt h34 b70 (b71 + 1) [Lf.ptr p72] ∧
 Call Go.Proofs.Tryz.prog 77 [VV.lf (Lf.ptr p69), VV.lf (Lf.str a2)] h34 [VT.one (LT.int IntKind.i64)]
 fun (i73 : Int) (h74 : Heap) =>
 keepB h34 h74 [b0] ∧
 cellsAt h74 b70 (b71 + 1) [Lf.ptr p72] ∧
 Call Go.Proofs.Tryz.prog 78 [VV.lf (Lf.ptr p72), VV.lf (Lf.str a2)] h74 [VT.one (LT.int IntKind.i64)]
 fun (i75 : Int) (h76 : Heap) => keepB h74 h76 [b0] ∧ R (i73 == i75) h76)
 (Br (a1 == (9 : Int))
 (NilC a0 fun (b77 b78 : Nat) =>
 ∃ (p79 : Option (Nat × Nat)),
 cellsAt h34 b77 (b78 + 0) [Lf.ptr p79] ∧
 NilC a0 fun (b80 b81 : Nat) =>
 ∃ (p82 : Option (Nat × Nat)),
 cellsAt h34 b80 (b81 + 1) [Lf.ptr p82] ∧
 Call Go.Proofs.Tryz.prog 16 [VV.lf (Lf.ptr p79), VV.lf (Lf.str a2)] h34 [VT.one (LT.int IntKind.i64)]
 fun (i83 : Int) (h84 : Heap) =>
 keepB h34 h84 [b0] ∧
 cellsAt h84 b80 (b81 + 1) [Lf.ptr p82] ∧
 Call Go.Proofs.Tryz.prog 79 [VV.lf (Lf.ptr p82), VV.lf (Lf.str a2)] h84 [VT.one (LT.int IntKind.i64)]
 fun (i85 : Int) (h86 : Heap) => keepB h84 h86 [b0] ∧ R (i83 == i85) h86)
 (Br (a1 == (10 : Int))
 (NilC a0 fun (b87 b88 : Nat) =>
 ∃ (p89 : Option (Nat × Nat)),
 cellsAt h34 b87 (b88 + 0) [Lf.ptr p89] ∧
 NilC a0 fun (b90 b91 : Nat) =>
 ∃ (p92 : Option (Nat × Nat)),
 cellsAt h34 b90 (b91 + 1) [Lf.ptr p92] ∧
 Call Go.Proofs.Tryz.prog 40 [VV.lf (Lf.ptr p89), VV.lf (Lf.str a2)] h34 [VT.one (LT.int IntKind.i64)]
 fun (i93 : Int) (h94 : Heap) =>
 keepB h34 h94 [b0] ∧
 cellsAt h94 b90 (b91 + 1) [Lf.ptr p92] ∧
 Call Go.Proofs.Tryz.prog 80 [VV.lf (Lf.ptr p92), VV.lf (Lf.str a2)] h94 [VT.one (LT.int IntKind.i64)]
 fun (i95 : Int) (h96 : Heap) => keepB h94 h96 [b0] ∧ R (i93 == i95) h96)
 (Br (a1 == (11 : Int))
 (NilC a0 fun (b97 b98 : Nat) =>
 ∃ (p99 : Option (Nat × Nat)),
 cellsAt h34 b97 (b98 + 0) [Lf.ptr p99] ∧
 Call Go.Proofs.Tryz.prog 42 [VV.lf (Lf.ptr p99), VV.lf (Lf.int IntKind.i64 a5), VV.lf (Lf.int IntKind.i64 a6)]
 h34 [] fun (h100 : Heap) =>
 keepB h34 h100 [b0] ∧
 NilC a0 fun (b101 b102 : Nat) =>
 ∃ (p103 : Option (Nat × Nat)),
 cellsAt h100 b101 (b102 + 1) [Lf.ptr p103] ∧
 Call Go.Proofs.Tryz.prog 81
 [VV.lf (Lf.ptr p103), VV.lf (Lf.int IntKind.i64 a5), VV.lf (Lf.int IntKind.i64 a6)] h100 []
 fun (h104 : Heap) => keepB h100 h104 [b0] ∧ R Bool.true h104)
 (Br (a1 == (12 : Int))
 (NilC a0 fun (b105 b106 : Nat) =>
 ∃ (p107 : Option (Nat × Nat)),
 cellsAt h34 b105 (b106 + 0) [Lf.ptr p107] ∧
 Call Go.Proofs.Tryz.prog 43 [VV.lf (Lf.ptr p107), VV.lf (Lf.int IntKind.i64 a5)] h34 [] fun (h108 : Heap) =>
 keepB h34 h108 [b0] ∧
 NilC a0 fun (b109 b110 : Nat) =>
 ∃ (p111 : Option (Nat × Nat)),
 cellsAt h108 b109 (b110 + 1) [Lf.ptr p111] ∧
 Call Go.Proofs.Tryz.prog 82 [VV.lf (Lf.ptr p111), VV.lf (Lf.int IntKind.i64 a5)] h108 []
 fun (h112 : Heap) => keepB h108 h112 [b0] ∧ R Bool.true h112)
 (Br (a1 == (13 : Int))
 (NilC a0 fun (b113 b114 : Nat) =>
 ∃ (p115 : Option (Nat × Nat)),
 cellsAt h34 b113 (b114 + 0) [Lf.ptr p115] ∧
 NilC a0 fun (b116 b117 : Nat) =>
 ∃ (p118 : Option (Nat × Nat)),
 cellsAt h34 b116 (b117 + 1) [Lf.ptr p118] ∧
 Call Go.Proofs.Tryz.prog 83 [VV.lf (Lf.ptr p115), VV.lf (Lf.str a2), VV.lf (Lf.int IntKind.i64 a5)] h34
 [VT.one (LT.int IntKind.i64)] fun (i119 : Int) (h120 : Heap) =>
 keepB h34 h120 [b0] ∧
 cellsAt h120 b116 (b117 + 1) [Lf.ptr p118] ∧
 Call Go.Proofs.Tryz.prog 84 [VV.lf (Lf.ptr p118), VV.lf (Lf.str a2), VV.lf (Lf.int IntKind.i64 a5)]
 h120 [VT.one (LT.int IntKind.i64)] fun (i121 : Int) (h122 : Heap) => keepB h120 h122 [b0] ∧ R (i119 == i121) h122)
 (Br (a1 == (14 : Int))
 (NilC a0 fun (b123 b124 : Nat) =>
 ∃ (p125 : Option (Nat × Nat)),
 cellsAt h34 b123 (b124 + 0) [Lf.ptr p125] ∧
 (New 3 [] h34 fun (b126 : Nat) (h127 : Heap) =>
 cellsAt h127 b123 (b124 + 0) [Lf.ptr p125] ∧
 (AppC 3 [Lf.int IntKind.i64 (0 : Int)] 1 8 (Slc.mk (Option.some (b126, 0)) 0 0) a7
 h127 fun (s128 : Slc) (h129 : Heap) =>
 keepB h127 h129 [b0] ∧
 cellsAt h129 b123 (b124 + 0) [Lf.ptr p125] ∧
 New 3 [] h129 fun (b130 : Nat) (h131 : Heap) =>
 cellsAt h131 b123 (b124 + 0) [Lf.ptr p125] ∧
 AppC 3 [Lf.int IntKind.i64 (0 : Int)] 1 8
 (Slc.mk (Option.some (b130, 0)) 0 0) a8 h131 fun (s132 : Slc) (h133 : Heap) =>
 keepB h131 h133 [b0] ∧
 cellsAt h133 b123 (b124 + 0) [Lf.ptr p125] ∧
 Call Go.Proofs.Tryz.prog 13
 [VV.lf (Lf.ptr p125), VV.lf (Lf.slc s128), VV.lf (Lf.slc s132)] h133 [] fun (h134 : Heap) =>
 keepB h133 h134 [b0] ∧
 NilC a0 fun (b135 b136 : Nat) =>
 ∃ (p137 : Option (Nat × Nat)),
 cellsAt h134 b135 (b136 + 1) [Lf.ptr p137] ∧
 Call Go.Proofs.Tryz.prog 85
 [VV.lf (Lf.ptr p137), VV.lf (Lf.slc a7), VV.lf (Lf.slc a8)] h134 []
 fun (h138 : Heap) => keepB h134 h138 [b0] ∧ R Bool.true h138) ∧
 New 3 [] h127 fun (b139 : Nat) (h140 : Heap) =>
 cellsAt h140 b123 (b124 + 0) [Lf.ptr p125] ∧
 AppC 3 [Lf.int IntKind.i64 (0 : Int)] 1 8 (Slc.mk (Option.some (b126, 0)) 0 0)
 a7 h140 fun (s141 : Slc) (h142 : Heap) =>
 keepB h140 h142 [b0] ∧
 cellsAt h142 b123 (b124 + 0) [Lf.ptr p125] ∧
 AppC 3 [Lf.int IntKind.i64 (0 : Int)] 1 8
 (Slc.mk (Option.some (b139, 0)) 0 0) a8 h142 fun (s143 : Slc) (h144 : Heap) =>
 keepB h142 h144 [b0] ∧
 cellsAt h144 b123 (b124 + 0) [Lf.ptr p125] ∧
 Call Go.Proofs.Tryz.prog 13
 [VV.lf (Lf.ptr p125), VV.lf (Lf.slc s141), VV.lf (Lf.slc s143)] h144 [] fun (h145 : Heap) =>
 keepB h144 h145 [b0] ∧
 NilC a0 fun (b146 b147 : Nat) =>
 ∃ (p148 : Option (Nat × Nat)),
 cellsAt h145 b146 (b147 + 1) [Lf.ptr p148] ∧
 Call Go.Proofs.Tryz.prog 85
 [VV.lf (Lf.ptr p148), VV.lf (Lf.slc a7), VV.lf (Lf.slc a8)] h145 []
 fun (h149 : Heap) => keepB h145 h149 [b0] ∧ R Bool.true h149) ∧
 New 3 [] h34 fun (b150 : Nat) (h151 : Heap) =>
 cellsAt h151 b123 (b124 + 0) [Lf.ptr p125] ∧
 New 3 [] h151 fun (b152 : Nat) (h153 : Heap) =>
 cellsAt h153 b123 (b124 + 0) [Lf.ptr p125] ∧
 AppC 3 [Lf.int IntKind.i64 (0 : Int)] 1 8 (Slc.mk (Option.some (b152, 0)) 0 0)
 a7 h153 fun (s154 : Slc) (h155 : Heap) =>
 keepB h153 h155 [b0] ∧
 cellsAt h155 b123 (b124 + 0) [Lf.ptr p125] ∧
 AppC 3 [Lf.int IntKind.i64 (0 : Int)] 1 8
 (Slc.mk (Option.some (b150, 0)) 0 0) a8 h155 fun (s156 : Slc) (h157 : Heap) =>
 keepB h155 h157 [b0] ∧
 cellsAt h157 b123 (b124 + 0) [Lf.ptr p125] ∧
 Call Go.Proofs.Tryz.prog 13 [VV.lf (Lf.ptr p125), VV.lf (Lf.slc s154), VV.lf (Lf.slc s156)]
 h157 [] fun (h158 : Heap) =>
 keepB h157 h158 [b0] ∧
 NilC a0 fun (b159 b160 : Nat) =>
 ∃ (p161 : Option (Nat × Nat)),
 cellsAt h158 b159 (b160 + 1) [Lf.ptr p161] ∧
 Call Go.Proofs.Tryz.prog 85
 [VV.lf (Lf.ptr p161), VV.lf (Lf.slc a7), VV.lf (Lf.slc a8)] h158 []
 fun (h162 : Heap) => keepB h158 h162 [b0] ∧ R Bool.true h162)
 (Br (a1 == (15 : Int))
 (Call Go.Proofs.Tryz.prog 86
 [VV.lf (Lf.ptr a0),
 VV.agg
 [Lf.int IntKind.i64 a1, Lf.str a2, Lf.str a3, Lf.slc a4, Lf.int IntKind.i64 a5, Lf.int IntKind.i64 a6,
 Lf.slc a7, Lf.slc a8]]
 h34 [VT.one LT.bool] fun (c163 : Bool) (h164 : Heap) => keepB h34 h164 [b0] ∧ R c163 h164)
 (R Bool.true h34)))))))))))))))
theorem eq28 (a0 : Option (Nat × Nat)) (a1 : Int) (a2 : ByteArray) (a3 : ByteArray) (a4 : Slc) (a5 : Int) (a6 : Int) (a7 : Slc) (a8 : Slc) (h : Heap) (R : Bool → Heap → Prop) : vc28 a0 a1 a2 a3 a4 a5 a6 a7 a8 h R = vcFn Go.Proofs.Tryz.prog pl28 Go.Proofs.Tryz.f28 [.lf (.ptr a0), .agg [.int .i64 a1, .str a2, .str a3, .slc a4, .int .i64 a5, .int .i64 a6, .slc a7, .slc a8]] h [.one .bool] R := by kernel_rfl
theorem ok28 {a0 : Option (Nat × Nat)} {a1 : Int} {a2 : ByteArray} {a3 : ByteArray} {a4 : Slc} {a5 : Int} {a6 : Int} {a7 : Slc} {a8 : Slc} {h : Heap} {R : Bool → Heap → Prop} (hv : vc28 a0 a1 a2 a3 a4 a5 a6 a7 a8 h R) : Call Go.Proofs.Tryz.prog 28 [.lf (.ptr a0), .agg [.int .i64 a1, .str a2, .str a3, .slc a4, .int .i64 a5, .int .i64 a6, .slc a7, .slc a8]] h [.one .bool] R := call_eq hng hmix Go.Proofs.Tryz.func28 (eq28 a0 a1 a2 a3 a4 a5 a6 a7 a8 h R) hv
end Go.V.YtdeihieblljfcaaGreat
