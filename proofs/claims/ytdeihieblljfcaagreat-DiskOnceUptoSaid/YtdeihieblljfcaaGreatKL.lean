/- This text proves a part of the laws of seat YtdeihieblljfcaaGreat, under no condition: F1j. -/
import Derived.Test.YtdeihieblljfcaaGreatKC
import Derived.Eval
import Derived.Test.YtdeihieblljfcaaGreatChecked
import Derived.Test.YtdeihieblljfcaaGreatKE
set_option linter.unusedVariables false
set_option maxRecDepth 100000
namespace Go.V.YtdeihieblljfcaaGreat
open Go Go.V
/- 25: sediment.sedimentlaw02.Begins (quota) -/
def pl25 : Plan := {
  blk := fun _ => none
  seq := fun _ => none
  loop := fun _ => none
  live := fun | 0 => some [0] | 1 => some [0, 4, 5] | 2 => some [4, 5, 6, 7] | 3 => some [4, 6, 27] | 4 => some [2, 3] | 5 => some [4, 6, 29] | 6 => some [2, 3] | 7 => some [2, 3] | _ => none
  track := fun | _ => false
  draw := fun | _ => .done
  iter := fun | _ => none }
def vc25 (a0 : Int) (h : Heap) (R : Option (Nat × Nat) → Bool → Heap → Prop) : Prop :=
 Call Go.Proofs.Tryz.prog 36 [VV.lf (Lf.int IntKind.i64 a0)] h [VT.one LT.ptr, VT.one (LT.int IntKind.i64)]
 fun (p0 : Option (Nat × Nat)) (i1 : Int) (h2 : Heap) =>
 Call Go.Proofs.Tryz.prog 63 [VV.lf (Lf.int IntKind.i64 a0)] h2 [VT.one LT.ptr, VT.one (LT.int IntKind.i64)]
 fun (p3 : Option (Nat × Nat)) (i4 : Int) (h5 : Heap) =>
 Br (i1 != i4) (R Option.none Bool.false h5)
 (Br (!Option.isNone p0 == Option.isNone p3) (R Option.none Bool.false h5)
 (Br (Option.isNone p0) (R Option.none Bool.true h5)
 (New 61 [Lf.ptr p0, Lf.ptr p3] h5 fun (b6 : Nat) (h7 : Heap) => R (Option.some (b6, 0)) Bool.true h7)))
theorem eq25 (a0 : Int) (h : Heap) (R : Option (Nat × Nat) → Bool → Heap → Prop) : vc25 a0 h R = vcFn Go.Proofs.Tryz.prog pl25 Go.Proofs.Tryz.f25 [.lf (.int .i64 a0)] h [.one .ptr, .one .bool] R := by kernel_rfl
theorem ok25 {a0 : Int} {h : Heap} {R : Option (Nat × Nat) → Bool → Heap → Prop} (hv : vc25 a0 h R) : Call Go.Proofs.Tryz.prog 25 [.lf (.int .i64 a0)] h [.one .ptr, .one .bool] R := call_eq hng hmix Go.Proofs.Tryz.func25 (eq25 a0 h R) hv
/- 10: sediment.sedimentlaw02.played (quota, acts) · loop 5: i -/
def pl10 : Plan := {
  blk := fun _ => none
  seq := fun _ => none
  loop := fun | 5 => some ⟨[(8, .one (.int .i64))], [], []⟩ | _ => none
  live := fun | 0 => some [0, 1] | 1 => some [1, 6, 7] | 2 => some [1, 6, 7, 15] | 3 => some [4, 5] | 4 => some [1, 6, 8] | 5 => some [1, 6, 8, 20] | 6 => some [1, 6, 8] | 7 => some [1, 6, 8, 37] | 8 => some [4, 5] | 9 => some [4, 5] | _ => none
  track := fun | _ => false
  draw := fun | _ => .done
  iter := fun | _ => none }
def vc10 (a0 : Int) (a1 : Slc) (h : Heap) (R : Option (Nat × Nat) → Bool → Heap → Prop) : Prop :=
 Call Go.Proofs.Tryz.prog 25 [VV.lf (Lf.int IntKind.i64 a0)] h [VT.one LT.ptr, VT.one LT.bool]
 fun (p0 : Option (Nat × Nat)) (c1 : Bool) (h2 : Heap) =>
 Br (Option.isNone p0) (R Option.none c1 h2)
 (∃ (I3 : Int → Heap → Nat → Prop),
 (∃ (b4 : Nat), I3 (0 : Int) h2 b4) ∧
 ∀ (i5 : Int) (h6 : Heap) (b7 : Nat),
 I3 i5 h6 b7 →
 Br (Decidable.decide (i5 < (↑(Slc.len a1) : Int)))
 (IxC a1 i5 8 fun (b8 b9 : Nat) =>
 ∃ (i10 : Int),
 cellsAt h6 b8 (b9 + 0) [Lf.int IntKind.i64 i10] ∧
 Br (i10 != (16 : Int))
 (IxC a1 i5 8 fun (b11 b12 : Nat) =>
 ∃ (i13 : Int),
 ∃ (t14 : ByteArray),
 ∃ (t15 : ByteArray),
 ∃ (s16 : Slc),
 ∃ (i17 : Int),
 ∃ (i18 : Int),
 ∃ (s19 : Slc),
 ∃ (s20 : Slc),
 cellsAt h6 b11 b12
 [Lf.int IntKind.i64 i13, Lf.str t14, Lf.str t15, Lf.slc s16, Lf.int IntKind.i64 i17, Lf.int IntKind.i64 i18,
 Lf.slc s19, Lf.slc s20] ∧
 Call Go.Proofs.Tryz.prog 28
 [VV.lf (Lf.ptr p0),
 VV.agg
 [Lf.int IntKind.i64 i13, Lf.str t14, Lf.str t15, Lf.slc s16, Lf.int IntKind.i64 i17, Lf.int IntKind.i64 i18,
 Lf.slc s19, Lf.slc s20]]
 h6 [VT.one LT.bool] fun (c21 : Bool) (h22 : Heap) =>
 Br (!c21) (R Option.none Bool.false h22) (∃ (b23 : Nat), b23 < b7 ∧ I3 (IntKind.wrap IntKind.i64 (i5 + (1 : Int))) h22 b23))
 (∃ (b24 : Nat), b24 < b7 ∧ I3 (IntKind.wrap IntKind.i64 (i5 + (1 : Int))) h6 b24))
 (NilC p0 fun (b25 b26 : Nat) => ∃ (p27 : Option (Nat × Nat)), cellsAt h6 b25 (b26 + 0) [Lf.ptr p27] ∧ R p27 Bool.true h6))
theorem eq10 (a0 : Int) (a1 : Slc) (h : Heap) (R : Option (Nat × Nat) → Bool → Heap → Prop) : vc10 a0 a1 h R = vcFn Go.Proofs.Tryz.prog pl10 Go.Proofs.Tryz.f10 [.lf (.int .i64 a0), .lf (.slc a1)] h [.one .ptr, .one .bool] R := by kernel_rfl
theorem ok10 {a0 : Int} {a1 : Slc} {h : Heap} {R : Option (Nat × Nat) → Bool → Heap → Prop} (hv : vc10 a0 a1 h R) : Call Go.Proofs.Tryz.prog 10 [.lf (.int .i64 a0), .lf (.slc a1)] h [.one .ptr, .one .bool] R := call_eq hng hmix Go.Proofs.Tryz.func10 (eq10 a0 a1 h R) hv
/- 11: sediment.sedimentlaw02.settles (f) · loop 5: i -/
def pl11 : Plan := {
  blk := fun _ => none
  seq := fun _ => none
  loop := fun | 5 => some ⟨[(4, .one (.int .i64))], [], []⟩ | _ => none
  live := fun | 0 => some [0] | 1 => some [0] | 2 => some [0] | 3 => some [0, 3] | 4 => some [0, 3, 4] | 5 => some [0, 3, 4, 14] | 6 => some [0, 3, 4] | 7 => some [0, 3, 4, 23] | 8 => some [2] | 9 => some [2] | _ => none
  track := fun | _ => false
  draw := fun | _ => .done
  iter := fun | _ => none }
def vc11 (a0 : Option (Nat × Nat)) (h : Heap) (R : Bool → Heap → Prop) : Prop :=
 Call Go.Proofs.Tryz.prog 42 [VV.lf (Lf.ptr a0), VV.lf (Lf.int IntKind.i64 (0 : Int)), VV.lf (Lf.int IntKind.i64 (0 : Int))] h []
 fun (h0 : Heap) =>
 Call Go.Proofs.Tryz.prog 43 [VV.lf (Lf.ptr a0), VV.lf (Lf.int IntKind.i64 (0 : Int))] h0 [] fun (h1 : Heap) =>
 Call Go.Proofs.Tryz.prog 44 [VV.lf (Lf.ptr a0)] h1 [VT.one LT.slc] fun (s2 : Slc) (h3 : Heap) =>
 ∃ (I4 : Int → Heap → Nat → Prop),
 (∃ (b5 : Nat), I4 (0 : Int) h3 b5) ∧
 ∀ (i6 : Int) (h7 : Heap) (b8 : Nat),
 I4 i6 h7 b8 →
 Br (Decidable.decide (i6 < (↑(Slc.len s2) : Int)))
 (IxC s2 i6 1 fun (b9 b10 : Nat) =>
 ∃ (t11 : ByteArray),
 cellsAt h7 b9 b10 [Lf.str t11] ∧
 Call Go.Proofs.Tryz.prog 40 [VV.lf (Lf.ptr a0), VV.lf (Lf.str t11)] h7 [VT.one (LT.int IntKind.i64)]
 fun (i12 : Int) (h13 : Heap) => Br (i12 != (0 : Int)) (R Bool.false h13) (∃ (b14 : Nat), b14 < b8 ∧ I4 (IntKind.wrap IntKind.i64 (i6 + (1 : Int))) h13 b14))
 (R Bool.true h7)
theorem eq11 (a0 : Option (Nat × Nat)) (h : Heap) (R : Bool → Heap → Prop) : vc11 a0 h R = vcFn Go.Proofs.Tryz.prog pl11 Go.Proofs.Tryz.f11 [.lf (.ptr a0)] h [.one .bool] R := by kernel_rfl
theorem ok11 {a0 : Option (Nat × Nat)} {h : Heap} {R : Bool → Heap → Prop} (hv : vc11 a0 h R) : Call Go.Proofs.Tryz.prog 11 [.lf (.ptr a0)] h [.one .bool] R := call_eq hng hmix Go.Proofs.Tryz.func11 (eq11 a0 h R) hv
/- 14: sediment.sedimentlaw02.Images () · loop 4: #5 -/
def pl14 : Plan := {
  blk := fun _ => none
  seq := fun _ => none
  loop := fun | 4 => some ⟨[(5, .one (.int .i64))], [], []⟩ | _ => none
  live := fun | 0 => some [0, 1] | 1 => some [0, 1, 10] | 2 => some [4] | 3 => some [0, 1, 5] | 4 => some [0, 1, 5, 14] | 5 => some [0, 1, 5] | 6 => some [0, 1, 5, 68] | 7 => some [4] | 8 => some [4] | _ => none
  track := fun | _ => false
  draw := fun | 6 => .still 0 (.still 1 (.still 2 (.still 3 (.still 4 (.still 5 (.still 6 (.still 7 (.still 8 (.still 9 (.still 10 (.still 11 (.still 12 (.still 13 (.still 14 (.still 15 (.still 16 (.still 17 (.still 18 (.still 19 (.still 20 (.still 21 (.still 22 (.still 23 (.still 24 (.still 25 (.still 26 (.still 27 (.still 28 (.still 29 (.still 30 (.still 31 (.still 32 (.still 33 (.still 34 (.still 35 (.still 36 (.still 37 (.still 38 (.still 39 (.still 40 (.still 41 (.still 42 (.still 43 (.still 44 (.still 45 (.still 46 (.still 47 (.still 48 (.still 49 (.still 50 (.still 51 (.done)))))))))))))))))))))))))))))))))))))))))))))))))))) | _ => .done
  iter := fun | _ => none }
def vc14 (a0 : Slc) (a1 : Slc) (h : Heap) (R : Bool → Heap → Prop) : Prop :=
 Br ((↑(Slc.len a0) : Int) != (↑(Slc.len a1) : Int)) (R Bool.false h)
 (∃ (I0 : Int → Heap → Nat → Prop),
 (∃ (b1 : Nat), I0 (0 : Int) h b1) ∧
 ∀ (i2 : Int) (h3 : Heap) (b4 : Nat),
 I0 i2 h3 b4 →
 Br (Decidable.decide (i2 < (↑(Slc.len a0) : Int)))
 (IxC a0 i2 4 fun (b5 b6 : Nat) =>
 ∃ (t7 : ByteArray),
 cellsAt h3 b5 (b6 + 0) [Lf.str t7] ∧
 IxC a1 i2 4 fun (b8 b9 : Nat) =>
 ∃ (t10 : ByteArray),
 cellsAt h3 b8 (b9 + 0) [Lf.str t10] ∧
 Br (!strEq t7 t10) (R Bool.false h3)
 (IxC a0 i2 4 fun (b11 b12 : Nat) =>
 ∃ (i13 : Int),
 cellsAt h3 b11 (b12 + 2) [Lf.int IntKind.i64 i13] ∧
 IxC a1 i2 4 fun (b14 b15 : Nat) =>
 ∃ (i16 : Int),
 cellsAt h3 b14 (b15 + 2) [Lf.int IntKind.i64 i16] ∧
 Br (i13 != i16) (R Bool.false h3)
 (IxC a0 i2 4 fun (b17 b18 : Nat) =>
 ∃ (t19 : ByteArray),
 cellsAt h3 b17 (b18 + 3) [Lf.str t19] ∧
 IxC a1 i2 4 fun (b20 b21 : Nat) =>
 ∃ (t22 : ByteArray),
 cellsAt h3 b20 (b21 + 3) [Lf.str t22] ∧
 Br (!strEq t19 t22) (R Bool.false h3)
 (IxC a0 i2 4 fun (b23 b24 : Nat) =>
 ∃ (s25 : Slc),
 cellsAt h3 b23 (b24 + 1) [Lf.slc s25] ∧
 ∃ (t26 : ByteArray),
 bytesAt h3 s25 t26 ∧
 IxC a1 i2 4 fun (b27 b28 : Nat) =>
 ∃ (s29 : Slc),
 cellsAt h3 b27 (b28 + 1) [Lf.slc s29] ∧
 ∃ (t30 : ByteArray),
 bytesAt h3 s29 t30 ∧
 Br (!strEq t26 t30) (R Bool.false h3)
 (∃ (b31 : Nat), b31 < b4 ∧ I0 (IntKind.wrap IntKind.i64 (i2 + (1 : Int))) h3 b31)))))
 (R Bool.true h3))
theorem eq14 (a0 : Slc) (a1 : Slc) (h : Heap) (R : Bool → Heap → Prop) : vc14 a0 a1 h R = vcFn Go.Proofs.Tryz.prog pl14 Go.Proofs.Tryz.f14 [.lf (.slc a0), .lf (.slc a1)] h [.one .bool] R := by kernel_rfl
theorem ok14 {a0 : Slc} {a1 : Slc} {h : Heap} {R : Bool → Heap → Prop} (hv : vc14 a0 a1 h R) : Call Go.Proofs.Tryz.prog 14 [.lf (.slc a0), .lf (.slc a1)] h [.one .bool] R := call_eq hng hmix Go.Proofs.Tryz.func14 (eq14 a0 a1 h R) hv
/- 9: sediment.sedimentlaw02.lives () · seq 3: #48 -/
def pl9 : Plan := {
  blk := fun _ => none
  seq := fun | 3 => some ⟨[(48, .one .bool)], [], []⟩ | _ => none
  loop := fun _ => none
  live := fun | 0 => some [] | 1 => some [1, 2] | 2 => some [1, 48] | 3 => some [0] | 4 => some [1] | 5 => some [3, 4] | 6 => some [0] | _ => none
  track := fun | _ => false
  draw := fun | _ => .done
  iter := fun | _ => none }
def vc9  (h : Heap) (R : Bool → Heap → Prop) : Prop :=
 Call Go.Proofs.Tryz.prog 36 [VV.lf (Lf.int IntKind.i64 (100 : Int))] h [VT.one LT.ptr, VT.one (LT.int IntKind.i64)]
 fun (p0 : Option (Nat × Nat)) (i1 : Int) (h2 : Heap) =>
 ∃ (I3 : Bool → Heap → Prop),
 Br (i1 != (0 : Int)) (I3 Bool.true h2)
 (Br (Option.isNone p0) (I3 Bool.true h2)
 (Call Go.Proofs.Tryz.prog 37 [VV.lf (Lf.ptr p0), VV.lf (Lf.str (ByteArray.mk #[(100 : UInt8)]))] h2 [VT.one (LT.int IntKind.i64)]
 fun (i4 : Int) (h5 : Heap) =>
 Br (i4 != (0 : Int)) (I3 Bool.true h5)
 (Call Go.Proofs.Tryz.prog 38 [VV.lf (Lf.ptr p0), VV.lf (Lf.str (ByteArray.mk #[(100 : UInt8), (47 : UInt8), (97 : UInt8)]))] h5
 [VT.one (LT.int IntKind.i64)] fun (i6 : Int) (h7 : Heap) =>
 Br (i6 != (0 : Int)) (I3 Bool.true h7)
 (New 5 [Lf.int IntKind.u8 (120 : Int), Lf.int IntKind.u8 (121 : Int), Lf.int IntKind.u8 (122 : Int)] h7 fun (b8 : Nat) (h9 : Heap) =>
 MarkC h9 (Option.some (b8, 0)) fun (h10 : Heap) =>
 Call Go.Proofs.Tryz.prog 15
 [VV.lf (Lf.ptr p0), VV.lf (Lf.str (ByteArray.mk #[(100 : UInt8), (47 : UInt8), (97 : UInt8)])),
 VV.lf (Lf.slc (Slc.mk (Option.some (b8, 0)) 3 3))]
 h10 [VT.one (LT.int IntKind.i64)] fun (i11 : Int) (h12 : Heap) =>
 Br (i11 != (0 : Int)) (I3 Bool.true h12)
 (Call Go.Proofs.Tryz.prog 16 [VV.lf (Lf.ptr p0), VV.lf (Lf.str (ByteArray.mk #[(100 : UInt8), (47 : UInt8), (97 : UInt8)]))] h12
 [VT.one (LT.int IntKind.i64)] fun (i13 : Int) (h14 : Heap) =>
 Br (i13 != (0 : Int)) (I3 Bool.true h14)
 (New 5 [Lf.int IntKind.u8 (85 : Int), Lf.int IntKind.u8 (86 : Int)] h14 fun (b15 : Nat) (h16 : Heap) =>
 MarkC h16 (Option.some (b15, 0)) fun (h17 : Heap) =>
 Call Go.Proofs.Tryz.prog 39
 [VV.lf (Lf.ptr p0), VV.lf (Lf.str (ByteArray.mk #[(100 : UInt8), (47 : UInt8), (97 : UInt8)])),
 VV.lf (Lf.int IntKind.i64 (1 : Int)), VV.lf (Lf.slc (Slc.mk (Option.some (b15, 0)) 2 2))]
 h17 [VT.one (LT.int IntKind.i64)] fun (i18 : Int) (h19 : Heap) =>
 Br (i18 != (0 : Int)) (I3 Bool.true h19)
 (Call Go.Proofs.Tryz.prog 40 [VV.lf (Lf.ptr p0), VV.lf (Lf.str (ByteArray.mk #[(100 : UInt8)]))] h19
 [VT.one (LT.int IntKind.i64)] fun (i20 : Int) (h21 : Heap) => I3 (i20 != (0 : Int)) h21))))))) ∧
 ∀ (c22 : Bool) (h23 : Heap),
 I3 c22 h23 →
 Br c22 (R Bool.false h23)
 (New 3 [Lf.int IntKind.i64 (1 : Int)] h23 fun (b24 : Nat) (h25 : Heap) =>
 Call Go.Proofs.Tryz.prog 13
 [VV.lf (Lf.ptr p0), VV.lf (Lf.slc (Slc.mk (Option.some (b24, 0)) 1 1)),
 VV.lf (Lf.slc (Slc.mk Option.none 0 0))]
 h25 [] fun (h26 : Heap) =>
 Call Go.Proofs.Tryz.prog 41 [VV.lf (Lf.ptr p0), VV.lf (Lf.str (ByteArray.mk #[(100 : UInt8), (47 : UInt8), (97 : UInt8)]))] h26
 [VT.one LT.slc, VT.one (LT.int IntKind.i64)] fun (s27 : Slc) (i28 : Int) (h29 : Heap) =>
 Br (i28 == (0 : Int)) (∃ (t30 : ByteArray), bytesAt h29 s27 t30 ∧ R (strEq t30 (ByteArray.mk #[(120 : UInt8), (85 : UInt8), (122 : UInt8)])) h29) (R Bool.false h29))
theorem eq9  (h : Heap) (R : Bool → Heap → Prop) : vc9  h R = vcFn Go.Proofs.Tryz.prog pl9 Go.Proofs.Tryz.f9 [] h [.one .bool] R := by kernel_rfl
theorem ok9  {h : Heap} {R : Bool → Heap → Prop} (hv : vc9  h R) : Call Go.Proofs.Tryz.prog 9 [] h [.one .bool] R := call_eq hng hmix Go.Proofs.Tryz.func9 (eq9  h R) hv
/- 3: sediment.sedimentlaw02.DiskFast () · loop 14: #13 -/
def pl3 : Plan := {
  blk := fun _ => none
  seq := fun _ => none
  loop := fun | 14 => some ⟨[(13, .one (.int .i64))], [], []⟩ | _ => none
  live := fun | 0 => some [0, 1, 2, 3] | 1 => some [0, 1, 2, 3, 15] | 2 => some [8] | 3 => some [2, 3, 9, 10] | 4 => some [2, 3, 9, 10, 23] | 5 => some [8] | 6 => some [2, 3, 9, 27] | 7 => some [8] | 8 => some [2, 3, 9, 11] | 9 => some [9, 11] | 10 => some [11, 12] | 11 => some [11, 12, 40] | 12 => some [8] | 13 => some [11, 12, 13] | 14 => some [11, 12, 13, 44] | 15 => some [11, 12, 13] | 16 => some [11, 12, 13, 101] | 17 => some [8] | 18 => some [8] | _ => none
  track := fun | _ => false
  draw := fun | 16 => .still 0 (.still 1 (.still 2 (.still 3 (.still 4 (.still 5 (.still 6 (.still 7 (.still 8 (.still 9 (.still 10 (.still 11 (.still 12 (.still 13 (.still 14 (.still 15 (.still 16 (.still 17 (.still 18 (.still 19 (.still 20 (.still 21 (.still 22 (.still 23 (.still 24 (.still 25 (.still 26 (.still 27 (.still 28 (.still 29 (.still 30 (.still 31 (.still 32 (.still 33 (.still 34 (.still 35 (.still 36 (.still 37 (.still 38 (.still 39 (.still 40 (.still 41 (.still 42 (.still 43 (.still 44 (.still 45 (.still 46 (.still 47 (.still 48 (.still 49 (.still 50 (.still 51 (.still 52 (.still 53 (.still 54 (.done))))))))))))))))))))))))))))))))))))))))))))))))))))))) | _ => .done
  iter := fun | _ => none }
def vc3 (a0 : Int) (a1 : Slc) (a2 : Slc) (a3 : Slc) (h : Heap) (R : Bool → Heap → Prop) : Prop :=
 Call Go.Proofs.Tryz.prog 9 [] h [VT.one LT.bool] fun (c0 : Bool) (h1 : Heap) =>
 Br (!c0) (R Bool.false h1)
 (Call Go.Proofs.Tryz.prog 10 [VV.lf (Lf.int IntKind.i64 a0), VV.lf (Lf.slc a1)] h1 [VT.one LT.ptr, VT.one LT.bool]
 fun (p2 : Option (Nat × Nat)) (c3 : Bool) (h4 : Heap) =>
 Br (Option.isNone p2) (R c3 h4)
 (Call Go.Proofs.Tryz.prog 11 [VV.lf (Lf.ptr p2)] h4 [VT.one LT.bool] fun (c5 : Bool) (h6 : Heap) =>
 Br (!c5) (R Bool.false h6)
 (Call Go.Proofs.Tryz.prog 12 [VV.lf (Lf.ptr p2)] h6 [VT.one LT.slc] fun (s7 : Slc) (h8 : Heap) =>
 Call Go.Proofs.Tryz.prog 13 [VV.lf (Lf.ptr p2), VV.lf (Lf.slc a2), VV.lf (Lf.slc a3)] h8 [] fun (h9 : Heap) =>
 Call Go.Proofs.Tryz.prog 12 [VV.lf (Lf.ptr p2)] h9 [VT.one LT.slc] fun (s10 : Slc) (h11 : Heap) =>
 Br ((↑(Slc.len s7) : Int) != (↑(Slc.len s10) : Int)) (R Bool.false h11)
 (∃ (I12 : Int → Heap → Nat → Prop),
 (∃ (b13 : Nat), I12 (0 : Int) h11 b13) ∧
 ∀ (i14 : Int) (h15 : Heap) (b16 : Nat),
 I12 i14 h15 b16 →
 Br (Decidable.decide (i14 < (↑(Slc.len s7) : Int)))
 (IxC s10 i14 4 fun (b17 b18 : Nat) =>
 ∃ (t19 : ByteArray),
 cellsAt h15 b17 (b18 + 0) [Lf.str t19] ∧
 IxC s7 i14 4 fun (b20 b21 : Nat) =>
 ∃ (t22 : ByteArray),
 cellsAt h15 b20 (b21 + 0) [Lf.str t22] ∧
 Br (!strEq t19 t22) (R Bool.false h15)
 (IxC s10 i14 4 fun (b23 b24 : Nat) =>
 ∃ (t25 : ByteArray),
 cellsAt h15 b23 (b24 + 3) [Lf.str t25] ∧
 IxC s7 i14 4 fun (b26 b27 : Nat) =>
 ∃ (t28 : ByteArray),
 cellsAt h15 b26 (b27 + 3) [Lf.str t28] ∧
 Br (!strEq t25 t28) (R Bool.false h15)
 (IxC s10 i14 4 fun (b29 b30 : Nat) =>
 ∃ (i31 : Int),
 cellsAt h15 b29 (b30 + 2) [Lf.int IntKind.i64 i31] ∧
 Br (i31 != (0 : Int)) (R Bool.false h15)
 (IxC s7 i14 4 fun (b32 b33 : Nat) =>
 ∃ (i34 : Int),
 cellsAt h15 b32 (b33 + 2) [Lf.int IntKind.i64 i34] ∧
 Br (i34 == (0 : Int))
 (IxC s10 i14 4 fun (b35 b36 : Nat) =>
 ∃ (s37 : Slc),
 cellsAt h15 b35 (b36 + 1) [Lf.slc s37] ∧
 ∃ (t38 : ByteArray),
 bytesAt h15 s37 t38 ∧
 IxC s7 i14 4 fun (b39 b40 : Nat) =>
 ∃ (s41 : Slc),
 cellsAt h15 b39 (b40 + 1) [Lf.slc s41] ∧
 ∃ (t42 : ByteArray),
 bytesAt h15 s41 t42 ∧
 Br (!strEq t38 t42) (R Bool.false h15)
 (∃ (b43 : Nat), b43 < b16 ∧ I12 (IntKind.wrap IntKind.i64 (i14 + (1 : Int))) h15 b43))
 (∃ (b44 : Nat), b44 < b16 ∧ I12 (IntKind.wrap IntKind.i64 (i14 + (1 : Int))) h15 b44)))))
 (R Bool.true h15)))))
theorem eq3 (a0 : Int) (a1 : Slc) (a2 : Slc) (a3 : Slc) (h : Heap) (R : Bool → Heap → Prop) : vc3 a0 a1 a2 a3 h R = vcFn Go.Proofs.Tryz.prog pl3 Go.Proofs.Tryz.f3 [.lf (.int .i64 a0), .lf (.slc a1), .lf (.slc a2), .lf (.slc a3)] h [.one .bool] R := by kernel_rfl
theorem ok3 {a0 : Int} {a1 : Slc} {a2 : Slc} {a3 : Slc} {h : Heap} {R : Bool → Heap → Prop} (hv : vc3 a0 a1 a2 a3 h R) : Call Go.Proofs.Tryz.prog 3 [.lf (.int .i64 a0), .lf (.slc a1), .lf (.slc a2), .lf (.slc a3)] h [.one .bool] R := call_eq hng hmix Go.Proofs.Tryz.func3 (eq3 a0 a1 a2 a3 h R) hv
/- 4: sediment.sedimentlaw02.DiskOnce () · loop 12: #14 -/
def pl4 : Plan := {
  blk := fun _ => none
  seq := fun _ => none
  loop := fun | 12 => some ⟨[(14, .one (.int .i64))], [], []⟩ | _ => none
  live := fun | 0 => some [0, 1, 2, 3, 4] | 1 => some [0, 1, 2, 3, 4, 16] | 2 => some [10] | 3 => some [2, 3, 4, 11, 12] | 4 => some [2, 3, 4, 11, 12, 24] | 5 => some [10] | 6 => some [4, 11] | 7 => some [4, 11, 13] | 8 => some [4, 11, 13] | 9 => some [4, 11, 13, 40] | 10 => some [10] | 11 => some [4, 11, 13, 14] | 12 => some [4, 11, 13, 14, 44] | 13 => some [4, 11, 13, 14] | 14 => some [4, 11, 13, 14] | 15 => some [4, 11, 13, 14, 63] | 16 => some [10] | 17 => some [4, 11, 66] | 18 => some [10] | 19 => some [4, 11, 13] | 20 => some [11, 13] | 21 => some [10] | _ => none
  track := fun | _ => false
  draw := fun | _ => .done
  iter := fun | _ => none }
def vc4 (a0 : Int) (a1 : Slc) (a2 : Slc) (a3 : Slc) (a4 : Slc) (h : Heap) (R : Bool → Heap → Prop) : Prop :=
 Call Go.Proofs.Tryz.prog 9 [] h [VT.one LT.bool] fun (c0 : Bool) (h1 : Heap) =>
 Br (!c0) (R Bool.false h1)
 (Call Go.Proofs.Tryz.prog 10 [VV.lf (Lf.int IntKind.i64 a0), VV.lf (Lf.slc a1)] h1 [VT.one LT.ptr, VT.one LT.bool]
 fun (p2 : Option (Nat × Nat)) (c3 : Bool) (h4 : Heap) =>
 Br (Option.isNone p2) (R c3 h4)
 (Call Go.Proofs.Tryz.prog 13 [VV.lf (Lf.ptr p2), VV.lf (Lf.slc a2), VV.lf (Lf.slc a3)] h4 [] fun (h5 : Heap) =>
 Call Go.Proofs.Tryz.prog 12 [VV.lf (Lf.ptr p2)] h5 [VT.one LT.slc] fun (s6 : Slc) (h7 : Heap) =>
 Call Go.Proofs.Tryz.prog 13 [VV.lf (Lf.ptr p2), VV.lf (Lf.slc a4), VV.lf (Lf.slc a4)] h7 [] fun (h8 : Heap) =>
 Call Go.Proofs.Tryz.prog 12 [VV.lf (Lf.ptr p2)] h8 [VT.one LT.slc] fun (s9 : Slc) (h10 : Heap) =>
 Call Go.Proofs.Tryz.prog 14 [VV.lf (Lf.slc s6), VV.lf (Lf.slc s9)] h10 [VT.one LT.bool] fun (c11 : Bool) (h12 : Heap) =>
 Br (!c11) (R Bool.false h12)
 (∃ (I13 : Int → Heap → Nat → Prop),
 (∃ (b14 : Nat), I13 (0 : Int) h12 b14) ∧
 ∀ (i15 : Int) (h16 : Heap) (b17 : Nat),
 I13 i15 h16 b17 →
 Br (Decidable.decide (i15 < (↑(Slc.len s6) : Int)))
 (IxC s6 i15 4 fun (b18 b19 : Nat) =>
 ∃ (t20 : ByteArray),
 cellsAt h16 b18 (b19 + 0) [Lf.str t20] ∧
 New 5 [Lf.int IntKind.u8 (120 : Int)] h16 fun (b21 : Nat) (h22 : Heap) =>
 MarkC h22 (Option.some (b21, 0)) fun (h23 : Heap) =>
 Call Go.Proofs.Tryz.prog 15
 [VV.lf (Lf.ptr p2), VV.lf (Lf.str t20), VV.lf (Lf.slc (Slc.mk (Option.some (b21, 0)) 1 1))] h23
 [VT.one (LT.int IntKind.i64)] fun (i24 : Int) (h25 : Heap) =>
 IxC s6 i15 4 fun (b26 b27 : Nat) =>
 ∃ (t28 : ByteArray),
 cellsAt h25 b26 (b27 + 0) [Lf.str t28] ∧
 Call Go.Proofs.Tryz.prog 16 [VV.lf (Lf.ptr p2), VV.lf (Lf.str t28)] h25 [VT.one (LT.int IntKind.i64)]
 fun (i29 : Int) (h30 : Heap) =>
 Br (i29 != (0 : Int)) (R Bool.false h30) (∃ (b31 : Nat), b31 < b17 ∧ I13 (IntKind.wrap IntKind.i64 (i15 + (1 : Int))) h30 b31))
 (Call Go.Proofs.Tryz.prog 11 [VV.lf (Lf.ptr p2)] h16 [VT.one LT.bool] fun (c32 : Bool) (h33 : Heap) =>
 Br (!c32) (R Bool.false h33)
 (Call Go.Proofs.Tryz.prog 12 [VV.lf (Lf.ptr p2)] h33 [VT.one LT.slc] fun (s34 : Slc) (h35 : Heap) =>
 Call Go.Proofs.Tryz.prog 13 [VV.lf (Lf.ptr p2), VV.lf (Lf.slc a4), VV.lf (Lf.slc a4)] h35 [] fun (h36 : Heap) =>
 Call Go.Proofs.Tryz.prog 12 [VV.lf (Lf.ptr p2)] h36 [VT.one LT.slc] fun (s37 : Slc) (h38 : Heap) =>
 Call Go.Proofs.Tryz.prog 14 [VV.lf (Lf.slc s34), VV.lf (Lf.slc s37)] h38 [VT.one LT.bool]
 fun (c39 : Bool) (h40 : Heap) => R c39 h40)))))
theorem eq4 (a0 : Int) (a1 : Slc) (a2 : Slc) (a3 : Slc) (a4 : Slc) (h : Heap) (R : Bool → Heap → Prop) : vc4 a0 a1 a2 a3 a4 h R = vcFn Go.Proofs.Tryz.prog pl4 Go.Proofs.Tryz.f4 [.lf (.int .i64 a0), .lf (.slc a1), .lf (.slc a2), .lf (.slc a3), .lf (.slc a4)] h [.one .bool] R := by kernel_rfl
theorem ok4 {a0 : Int} {a1 : Slc} {a2 : Slc} {a3 : Slc} {a4 : Slc} {h : Heap} {R : Bool → Heap → Prop} (hv : vc4 a0 a1 a2 a3 a4 h R) : Call Go.Proofs.Tryz.prog 4 [.lf (.int .i64 a0), .lf (.slc a1), .lf (.slc a2), .lf (.slc a3), .lf (.slc a4)] h [.one .bool] R := call_eq hng hmix Go.Proofs.Tryz.func4 (eq4 a0 a1 a2 a3 a4 h R) hv
end Go.V.YtdeihieblljfcaaGreat
