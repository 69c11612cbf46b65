/- This text proves a part of the laws of seat YtdeihieblljfcaaGreat, under no condition: F1g. -/
import Derived.Test.YtdeihieblljfcaaGreatKC
import Derived.Eval
import Derived.Test.YtdeihieblljfcaaGreatChecked
import Derived.Test.YtdeihieblljfcaaGreatKE
set_option linter.unusedVariables false
set_option maxRecDepth 100000
namespace Go.V.YtdeihieblljfcaaGreat
open Go Go.V
/- 66: (*sediment.sedimentref02.FS).Mkdir () · blk 1: #6 · loop 11: #6 -/
def pl66 : Plan := {
  blk := fun | 1 => some ⟨[(6, .one (.int .i64))], [], []⟩ | _ => none
  seq := fun _ => none
  loop := fun | 11 => some ⟨[(6, .one (.int .i64))], [], []⟩ | _ => none
  live := fun | 0 => some [0, 1] | 1 => some [0, 1, 8] | 2 => some [4] | 3 => some [0, 1, 12] | 4 => some [4] | 5 => some [0, 1, 17] | 6 => some [4] | 7 => some [0, 1, 5] | 8 => some [0, 1, 5, 27] | 9 => some [4] | 10 => some [0, 1, 6] | 11 => some [0, 1, 6, 47] | 12 => some [0, 1, 6] | 13 => some [0, 1, 6, 7] | 14 => some [0, 6, 7] | 15 => some [] | 16 => some [4] | _ => none
  track := fun | _ => false
  draw := fun | _ => .done
  iter := fun | _ => none }
def vc66 (a0 : Option (Nat × Nat)) (a1 : ByteArray) (h : Heap) (R : Int → Heap → Prop) : Prop :=
 Call Go.Proofs.Tryz.prog 127 [VV.lf (Lf.str a1)] h [VT.one LT.bool] fun (c0 : Bool) (h1 : Heap) =>
 Br (!c0) (R (1 : Int) h1)
 (Call Go.Proofs.Tryz.prog 128 [VV.lf (Lf.ptr a0), VV.lf (Lf.str a1)] h1 [VT.one (LT.int IntKind.i64)] fun (i2 : Int) (h3 : Heap) =>
 Br (Decidable.decide (i2 ≥ (0 : Int))) (R (7 : Int) h3)
 (NilC a0 fun (b4 b5 : Nat) =>
 ∃ (s6 : Slc),
 cellsAt h3 b4 (b5 + 1) [Lf.slc s6] ∧
 Br (Decidable.decide ((↑(Slc.len s6) : Int) ≥ (64 : Int))) (R (2 : Int) h3)
 (Call Go.Proofs.Tryz.prog 129 [VV.lf (Lf.ptr a0)] h3 [VT.one (LT.int IntKind.i64)] fun (i7 : Int) (h8 : Heap) =>
 Br (i7 != (0 : Int)) (R i7 h8)
 (∃ (I9 : Int → Heap → Prop),
 (∃ (I10 : Int → Heap → Nat → Prop),
 (∃ (b11 : Nat), I10 (0 : Int) h8 b11) ∧
 ∀ (i12 : Int) (h13 : Heap) (b14 : Nat),
 I10 i12 h13 b14 →
 NilC a0 fun (b15 b16 : Nat) =>
 ∃ (s17 : Slc),
 cellsAt h13 b15 (b16 + 1) [Lf.slc s17] ∧
 Br (Decidable.decide (i12 < (↑(Slc.len s17) : Int)))
 (NilC a0 fun (b18 b19 : Nat) =>
 ∃ (s20 : Slc),
 cellsAt h13 b18 (b19 + 1) [Lf.slc s20] ∧
 IxC s20 i12 2 fun (b21 b22 : Nat) =>
 ∃ (t23 : ByteArray),
 cellsAt h13 b21 (b22 + 0) [Lf.str t23] ∧
 Br (strLt t23 a1) (∃ (b24 : Nat), b24 < b14 ∧ I10 (IntKind.wrap IntKind.i64 (i12 + (1 : Int))) h13 b24) (I9 i12 h13))
 (I9 i12 h13)) ∧
 ∀ (i25 : Int) (h26 : Heap),
 I9 i25 h26 →
 New 192 [] h26 fun (b27 : Nat) (h28 : Heap) =>
 NilC a0 fun (b29 b30 : Nat) =>
 ∃ (s31 : Slc),
 cellsAt h28 b29 (b30 + 1) [Lf.slc s31] ∧
 (0 : Int) ≤ i25 ∧
 i25 ≤ (↑(Slc.cap s31) : Int) ∧
 AppC 192 [Lf.str (ByteArray.mk #[]), Lf.slc (Slc.mk Option.none 0 0)] 2 40
 (Slc.mk (Option.some (b27, 0)) 0 0) (Slc.sub s31 2 0 (Int.toNat i25) (Slc.cap s31)) h28
 fun (s32 : Slc) (h33 : Heap) =>
 New 194 [Lf.slc (Slc.mk Option.none 0 0), Lf.slc (Slc.mk Option.none 0 0)] h33
 fun (b34 : Nat) (h35 : Heap) =>
 New 192 [Lf.str a1, Lf.slc (Slc.mk (Option.some (b34, 0)) 1 1)] h35
 fun (b36 : Nat) (h37 : Heap) =>
 AppC 192 [Lf.str (ByteArray.mk #[]), Lf.slc (Slc.mk Option.none 0 0)] 2 40 s32
 (Slc.mk (Option.some (b36, 0)) 1 1) h37 fun (s38 : Slc) (h39 : Heap) =>
 NilC a0 fun (b40 b41 : Nat) =>
 ∃ (s42 : Slc),
 cellsAt h39 b40 (b41 + 1) [Lf.slc s42] ∧
 (0 : Int) ≤ i25 ∧
 i25 ≤ (↑(Slc.len s42) : Int) ∧
 AppC 192 [Lf.str (ByteArray.mk #[]), Lf.slc (Slc.mk Option.none 0 0)] 2 40 s38
 (Slc.sub s42 2 (Int.toNat i25) (Slc.len s42) (Slc.cap s42)) h39 fun (s43 : Slc) (h44 : Heap) =>
 NilC a0 fun (b45 b46 : Nat) => StC h44 b45 (b46 + 1) [Lf.slc s43] fun (h47 : Heap) => R (0 : Int) h47))))
theorem eq66 (a0 : Option (Nat × Nat)) (a1 : ByteArray) (h : Heap) (R : Int → Heap → Prop) : vc66 a0 a1 h R = vcFn Go.Proofs.Tryz.prog pl66 Go.Proofs.Tryz.f66 [.lf (.ptr a0), .lf (.str a1)] h [.one (.int .i64)] R := by kernel_rfl
theorem ok66 {a0 : Option (Nat × Nat)} {a1 : ByteArray} {h : Heap} {R : Int → Heap → Prop} (hv : vc66 a0 a1 h R) : Call Go.Proofs.Tryz.prog 66 [.lf (.ptr a0), .lf (.str a1)] h [.one (.int .i64)] R := call_eq hng hmix Go.Proofs.Tryz.func66 (eq66 a0 a1 h R) hv
/- 68: (*sediment.sedimentref02.FS).Rmdir (f, dir) -/
def pl68 : Plan := {
  blk := fun _ => none
  seq := fun _ => none
  loop := fun _ => none
  live := fun | 0 => some [0, 1] | 1 => some [0, 1, 10] | 2 => some [4] | 3 => some [0, 5] | 4 => some [0, 5, 14] | 5 => some [4] | 6 => some [0, 5, 17] | 7 => some [4] | 8 => some [0, 5, 6] | 9 => some [0, 5, 6, 27] | 10 => some [4] | 11 => some [0, 5, 7] | 12 => some [] | 13 => some [4] | _ => none
  track := fun | _ => false
  draw := fun | _ => .done
  iter := fun | _ => none }
def vc68 (a0 : Option (Nat × Nat)) (a1 : ByteArray) (h : Heap) (R : Int → Heap → Prop) : Prop :=
 Call Go.Proofs.Tryz.prog 127 [VV.lf (Lf.str a1)] h [VT.one LT.bool] fun (c0 : Bool) (h1 : Heap) =>
 Br (!c0) (R (1 : Int) h1)
 (Call Go.Proofs.Tryz.prog 128 [VV.lf (Lf.ptr a0), VV.lf (Lf.str a1)] h1 [VT.one (LT.int IntKind.i64)] fun (i2 : Int) (h3 : Heap) =>
 Br (Decidable.decide (i2 < (0 : Int))) (R (6 : Int) h3)
 (Call Go.Proofs.Tryz.prog 130 [VV.lf (Lf.ptr a0), VV.lf (Lf.int IntKind.i64 i2)] h3 [VT.agg [LT.slc, LT.slc]]
 fun (s4 s5 : Slc) (h6 : Heap) =>
 Br (Decidable.decide ((↑(Slc.len s4) : Int) > (0 : Int))) (R (8 : Int) h6)
 (Call Go.Proofs.Tryz.prog 129 [VV.lf (Lf.ptr a0)] h6 [VT.one (LT.int IntKind.i64)] fun (i7 : Int) (h8 : Heap) =>
 Br (i7 != (0 : Int)) (R i7 h8)
 (New 192 [] h8 fun (b9 : Nat) (h10 : Heap) =>
 NilC a0 fun (b11 b12 : Nat) =>
 ∃ (s13 : Slc),
 cellsAt h10 b11 (b12 + 1) [Lf.slc s13] ∧
 (0 : Int) ≤ i2 ∧
 i2 ≤ (↑(Slc.cap s13) : Int) ∧
 AppC 192 [Lf.str (ByteArray.mk #[]), Lf.slc (Slc.mk Option.none 0 0)] 2 40
 (Slc.mk (Option.some (b9, 0)) 0 0) (Slc.sub s13 2 0 (Int.toNat i2) (Slc.cap s13)) h10
 fun (s14 : Slc) (h15 : Heap) =>
 NilC a0 fun (b16 b17 : Nat) =>
 ∃ (s18 : Slc),
 cellsAt h15 b16 (b17 + 1) [Lf.slc s18] ∧
 (0 : Int) ≤ IntKind.wrap IntKind.i64 (i2 + (1 : Int)) ∧
 IntKind.wrap IntKind.i64 (i2 + (1 : Int)) ≤ (↑(Slc.len s18) : Int) ∧
 AppC 192 [Lf.str (ByteArray.mk #[]), Lf.slc (Slc.mk Option.none 0 0)] 2 40 s14
 (Slc.sub s18 2 (Int.toNat (IntKind.wrap IntKind.i64 (i2 + (1 : Int)))) (Slc.len s18) (Slc.cap s18)) h15
 fun (s19 : Slc) (h20 : Heap) =>
 NilC a0 fun (b21 b22 : Nat) => StC h20 b21 (b22 + 1) [Lf.slc s19] fun (h23 : Heap) => R (0 : Int) h23))))
theorem eq68 (a0 : Option (Nat × Nat)) (a1 : ByteArray) (h : Heap) (R : Int → Heap → Prop) : vc68 a0 a1 h R = vcFn Go.Proofs.Tryz.prog pl68 Go.Proofs.Tryz.f68 [.lf (.ptr a0), .lf (.str a1)] h [.one (.int .i64)] R := by kernel_rfl
theorem ok68 {a0 : Option (Nat × Nat)} {a1 : ByteArray} {h : Heap} {R : Int → Heap → Prop} (hv : vc68 a0 a1 h R) : Call Go.Proofs.Tryz.prog 68 [.lf (.ptr a0), .lf (.str a1)] h [.one (.int .i64)] R := call_eq hng hmix Go.Proofs.Tryz.func68 (eq68 a0 a1 h R) hv
/- 148: (*sediment.sedimentref02.FS).directory (f, dir) -/
def pl148 : Plan := {
  blk := fun _ => none
  seq := fun _ => none
  loop := fun _ => none
  live := fun | 0 => some [0, 1] | 1 => some [0, 1, 9] | 2 => some [4, 5] | 3 => some [6] | 4 => some [6, 14] | 5 => some [4, 5] | 6 => some [4, 5] | _ => none
  track := fun | _ => false
  draw := fun | _ => .done
  iter := fun | _ => none }
def vc148 (a0 : Option (Nat × Nat)) (a1 : ByteArray) (h : Heap) (R : Int → Int → Heap → Prop) : Prop :=
 Call Go.Proofs.Tryz.prog 127 [VV.lf (Lf.str a1)] h [VT.one LT.bool] fun (c0 : Bool) (h1 : Heap) =>
 Br (!c0) (R (0 : Int) (1 : Int) h1)
 (Call Go.Proofs.Tryz.prog 128 [VV.lf (Lf.ptr a0), VV.lf (Lf.str a1)] h1 [VT.one (LT.int IntKind.i64)] fun (i2 : Int) (h3 : Heap) =>
 Br (Decidable.decide (i2 < (0 : Int))) (R (0 : Int) (6 : Int) h3) (R i2 (0 : Int) h3))
theorem eq148 (a0 : Option (Nat × Nat)) (a1 : ByteArray) (h : Heap) (R : Int → Int → Heap → Prop) : vc148 a0 a1 h R = vcFn Go.Proofs.Tryz.prog pl148 Go.Proofs.Tryz.f148 [.lf (.ptr a0), .lf (.str a1)] h [.one (.int .i64), .one (.int .i64)] R := by kernel_rfl
theorem ok148 {a0 : Option (Nat × Nat)} {a1 : ByteArray} {h : Heap} {R : Int → Int → Heap → Prop} (hv : vc148 a0 a1 h R) : Call Go.Proofs.Tryz.prog 148 [.lf (.ptr a0), .lf (.str a1)] h [.one (.int .i64), .one (.int .i64)] R := call_eq hng hmix Go.Proofs.Tryz.func148 (eq148 a0 a1 h R) hv
/- 161: (*sediment.sedimentref02.FS).List (f, dir) -/
def pl161 : Plan := {
  blk := fun _ => none
  seq := fun _ => none
  loop := fun _ => none
  live := fun | 0 => some [0, 1] | 1 => some [0, 6, 7] | 2 => some [0, 6, 7, 15] | 3 => some [4, 5] | 4 => some [4, 5] | _ => none
  track := fun | _ => false
  draw := fun | _ => .done
  iter := fun | _ => none }
def vc161 (a0 : Option (Nat × Nat)) (a1 : ByteArray) (h : Heap) (R : Slc → Int → Heap → Prop) : Prop :=
 Call Go.Proofs.Tryz.prog 148 [VV.lf (Lf.ptr a0), VV.lf (Lf.str a1)] h [VT.one (LT.int IntKind.i64), VT.one (LT.int IntKind.i64)]
 fun (i0 i1 : Int) (h2 : Heap) =>
 Br (i1 != (0 : Int)) (R (Slc.mk Option.none 0 0) i1 h2)
 (Call Go.Proofs.Tryz.prog 130 [VV.lf (Lf.ptr a0), VV.lf (Lf.int IntKind.i64 i0)] h2 [VT.agg [LT.slc, LT.slc]]
 fun (s3 s4 : Slc) (h5 : Heap) => R s3 (0 : Int) h5)
theorem eq161 (a0 : Option (Nat × Nat)) (a1 : ByteArray) (h : Heap) (R : Slc → Int → Heap → Prop) : vc161 a0 a1 h R = vcFn Go.Proofs.Tryz.prog pl161 Go.Proofs.Tryz.f161 [.lf (.ptr a0), .lf (.str a1)] h [.one .slc, .one (.int .i64)] R := by kernel_rfl
theorem ok161 {a0 : Option (Nat × Nat)} {a1 : ByteArray} {h : Heap} {R : Slc → Int → Heap → Prop} (hv : vc161 a0 a1 h R) : Call Go.Proofs.Tryz.prog 161 [.lf (.ptr a0), .lf (.str a1)] h [.one .slc, .one (.int .i64)] R := call_eq hng hmix Go.Proofs.Tryz.func161 (eq161 a0 a1 h R) hv
/- 69: (*sediment.sedimentref02.FS).Create (f, path) -/
def pl69 : Plan := {
  blk := fun _ => none
  seq := fun _ => none
  loop := fun _ => none
  live := fun | 0 => some [0, 1] | 1 => some [0, 5, 6, 7] | 2 => some [0, 5, 6, 7, 15] | 3 => some [4] | 4 => some [0, 5, 6, 19] | 5 => some [4] | 6 => some [0, 5, 6, 26] | 7 => some [4] | 8 => some [0, 5, 6, 7] | 9 => some [0, 5, 6, 7, 36] | 10 => some [4] | 11 => some [0, 5, 6] | 12 => some [] | 13 => some [4] | _ => none
  track := fun | _ => false
  draw := fun | 12 => .still 0 (.still 1 (.still 2 (.still 3 (.still 5 (.still 6 (.still 7 (.still 8 (.still 9 (.still 10 (.still 11 (.mem 4 (.mem 12 (.mem 13 (.done)))))))))))))) | _ => .done
  iter := fun | _ => none }
def vc69 (a0 : Option (Nat × Nat)) (a1 : ByteArray) (h : Heap) (R : Int → Heap → Prop) : Prop :=
 Call Go.Proofs.Tryz.prog 131 [VV.lf (Lf.ptr a0), VV.lf (Lf.str a1)] h
 [VT.one (LT.int IntKind.i64), VT.one LT.str, VT.one (LT.int IntKind.i64)] fun (i0 : Int) (t1 : ByteArray) (i2 : Int) (h3 : Heap) =>
 Br (i2 != (0 : Int)) (R i2 h3)
 (Call Go.Proofs.Tryz.prog 130 [VV.lf (Lf.ptr a0), VV.lf (Lf.int IntKind.i64 i0)] h3 [VT.agg [LT.slc, LT.slc]]
 fun (s4 s5 : Slc) (h6 : Heap) =>
 Call Go.Proofs.Tryz.prog 132 [VV.agg [Lf.slc s4, Lf.slc s5], VV.lf (Lf.str t1)] h6 [VT.one (LT.int IntKind.i64)]
 fun (i7 : Int) (h8 : Heap) =>
 Br (Decidable.decide (i7 ≥ (0 : Int))) (R (7 : Int) h8)
 (Call Go.Proofs.Tryz.prog 130 [VV.lf (Lf.ptr a0), VV.lf (Lf.int IntKind.i64 i0)] h8 [VT.agg [LT.slc, LT.slc]]
 fun (s9 s10 : Slc) (h11 : Heap) =>
 Br (Decidable.decide ((↑(Slc.len s9) : Int) ≥ (1024 : Int))) (R (2 : Int) h11)
 (Call Go.Proofs.Tryz.prog 129 [VV.lf (Lf.ptr a0)] h11 [VT.one (LT.int IntKind.i64)] fun (i12 : Int) (h13 : Heap) =>
 Br (i12 != (0 : Int)) (R i12 h13)
 (New 200 [] h13 fun (b14 : Nat) (h15 : Heap) =>
 NilC a0 fun (b16 b17 : Nat) =>
 ∃ (s18 : Slc),
 cellsAt h15 b16 (b17 + 2) [Lf.slc s18] ∧
 AppC 200 [Lf.slc (Slc.mk Option.none 0 0), Lf.slc (Slc.mk Option.none 0 0)] 2 48
 (Slc.mk (Option.some (b14, 0)) 0 0) s18 h15 fun (s19 : Slc) (h20 : Heap) =>
 New 200 [Lf.slc (Slc.mk Option.none 0 0), Lf.slc (Slc.mk Option.none 0 0)] h20
 fun (b21 : Nat) (h22 : Heap) =>
 AppC 200 [Lf.slc (Slc.mk Option.none 0 0), Lf.slc (Slc.mk Option.none 0 0)] 2 48 s19
 (Slc.mk (Option.some (b21, 0)) 1 1) h22 fun (s23 : Slc) (h24 : Heap) =>
 NilC a0 fun (b25 b26 : Nat) =>
 StC h24 b25 (b26 + 2) [Lf.slc s23] fun (h27 : Heap) =>
 NilC a0 fun (b28 b29 : Nat) =>
 ∃ (s30 : Slc),
 cellsAt h27 b28 (b29 + 2) [Lf.slc s30] ∧
 Call Go.Proofs.Tryz.prog 130 [VV.lf (Lf.ptr a0), VV.lf (Lf.int IntKind.i64 i0)] h27
 [VT.agg [LT.slc, LT.slc]] fun (s31 s32 : Slc) (h33 : Heap) =>
 cellsAt h33 b28 (b29 + 2) [Lf.slc s30] ∧
 Call Go.Proofs.Tryz.prog 134
 [VV.agg [Lf.slc s31, Lf.slc s32], VV.lf (Lf.str t1),
 VV.lf (Lf.int IntKind.i64 (IntKind.wrap IntKind.i64 ((↑(Slc.len s30) : Int) - (1 : Int))))]
 h33 [VT.agg [LT.slc, LT.slc]] fun (s34 s35 : Slc) (h36 : Heap) =>
 Call Go.Proofs.Tryz.prog 133
 [VV.lf (Lf.ptr a0), VV.lf (Lf.int IntKind.i64 i0), VV.agg [Lf.slc s34, Lf.slc s35]] h36 []
 fun (h37 : Heap) => R (0 : Int) h37))))
theorem eq69 (a0 : Option (Nat × Nat)) (a1 : ByteArray) (h : Heap) (R : Int → Heap → Prop) : vc69 a0 a1 h R = vcFn Go.Proofs.Tryz.prog pl69 Go.Proofs.Tryz.f69 [.lf (.ptr a0), .lf (.str a1)] h [.one (.int .i64)] R := by kernel_rfl
theorem ok69 {a0 : Option (Nat × Nat)} {a1 : ByteArray} {h : Heap} {R : Int → Heap → Prop} (hv : vc69 a0 a1 h R) : Call Go.Proofs.Tryz.prog 69 [.lf (.ptr a0), .lf (.str a1)] h [.one (.int .i64)] R := call_eq hng hmix Go.Proofs.Tryz.func69 (eq69 a0 a1 h R) hv
/- 145: (*sediment.sedimentref02.FS).two (f, from, to) -/
def pl145 : Plan := {
  blk := fun _ => none
  seq := fun _ => none
  loop := fun _ => none
  live := fun | 0 => some [0, 1, 2] | 1 => some [0, 2, 12, 13, 14] | 2 => some [0, 2, 12, 13, 14, 26] | 3 => some [6, 7, 8, 9, 10, 11] | 4 => some [0, 12, 13, 14, 15, 16] | 5 => some [0, 12, 13, 14, 15, 16, 36] | 6 => some [6, 7, 8, 9, 10, 11] | 7 => some [12, 13, 15, 16, 17] | 8 => some [12, 13, 15, 16, 17, 44] | 9 => some [6, 7, 8, 9, 10, 11] | 10 => some [6, 7, 8, 9, 10, 11] | _ => none
  track := fun | _ => false
  draw := fun | _ => .done
  iter := fun | _ => none }
def vc145 (a0 : Option (Nat × Nat)) (a1 : ByteArray) (a2 : ByteArray) (h : Heap) (R : Int → ByteArray → Int → ByteArray → Int → Int → Heap → Prop) : Prop :=
 Call Go.Proofs.Tryz.prog 131 [VV.lf (Lf.ptr a0), VV.lf (Lf.str a1)] h
 [VT.one (LT.int IntKind.i64), VT.one LT.str, VT.one (LT.int IntKind.i64)] fun (i0 : Int) (t1 : ByteArray) (i2 : Int) (h3 : Heap) =>
 Br (i2 != (0 : Int)) (R (0 : Int) (ByteArray.mk #[]) (0 : Int) (ByteArray.mk #[]) (0 : Int) i2 h3)
 (Call Go.Proofs.Tryz.prog 131 [VV.lf (Lf.ptr a0), VV.lf (Lf.str a2)] h3
 [VT.one (LT.int IntKind.i64), VT.one LT.str, VT.one (LT.int IntKind.i64)] fun (i4 : Int) (t5 : ByteArray) (i6 : Int) (h7 : Heap) =>
 Br (i6 != (0 : Int)) (R (0 : Int) (ByteArray.mk #[]) (0 : Int) (ByteArray.mk #[]) (0 : Int) i6 h7)
 (Call Go.Proofs.Tryz.prog 130 [VV.lf (Lf.ptr a0), VV.lf (Lf.int IntKind.i64 i0)] h7 [VT.agg [LT.slc, LT.slc]]
 fun (s8 s9 : Slc) (h10 : Heap) =>
 Call Go.Proofs.Tryz.prog 132 [VV.agg [Lf.slc s8, Lf.slc s9], VV.lf (Lf.str t1)] h10 [VT.one (LT.int IntKind.i64)]
 fun (i11 : Int) (h12 : Heap) =>
 Br (Decidable.decide (i11 < (0 : Int))) (R (0 : Int) (ByteArray.mk #[]) (0 : Int) (ByteArray.mk #[]) (0 : Int) (6 : Int) h12) (R i0 t1 i4 t5 i11 (0 : Int) h12)))
theorem eq145 (a0 : Option (Nat × Nat)) (a1 : ByteArray) (a2 : ByteArray) (h : Heap) (R : Int → ByteArray → Int → ByteArray → Int → Int → Heap → Prop) : vc145 a0 a1 a2 h R = vcFn Go.Proofs.Tryz.prog pl145 Go.Proofs.Tryz.f145 [.lf (.ptr a0), .lf (.str a1), .lf (.str a2)] h [.one (.int .i64), .one .str, .one (.int .i64), .one .str, .one (.int .i64), .one (.int .i64)] R := by kernel_rfl
theorem ok145 {a0 : Option (Nat × Nat)} {a1 : ByteArray} {a2 : ByteArray} {h : Heap} {R : Int → ByteArray → Int → ByteArray → Int → Int → Heap → Prop} (hv : vc145 a0 a1 a2 h R) : Call Go.Proofs.Tryz.prog 145 [.lf (.ptr a0), .lf (.str a1), .lf (.str a2)] h [.one (.int .i64), .one .str, .one (.int .i64), .one .str, .one (.int .i64), .one (.int .i64)] R := call_eq hng hmix Go.Proofs.Tryz.func145 (eq145 a0 a1 a2 h R) hv
/- 74: (*sediment.sedimentref02.FS).Rename () · seq 5: #45 · seq 8: #54 -/
def pl74 : Plan := {
  blk := fun _ => none
  seq := fun | 5 => some ⟨[(45, .one .bool)], [], []⟩ | 8 => some ⟨[(54, .one .bool)], [], []⟩ | _ => none
  loop := fun _ => none
  live := fun | 0 => some [0, 1, 2] | 1 => some [0, 1, 2, 7, 8, 9, 10, 11, 12] | 2 => some [0, 1, 2, 7, 8, 9, 10, 11, 12, 25] | 3 => some [6] | 4 => some [0, 1, 2, 7, 8, 9, 10, 11, 45] | 5 => some [6] | 6 => some [0, 1, 2, 7, 8, 9, 10, 11, 12] | 7 => some [0, 7, 8, 9, 10, 11, 12, 54] | 8 => some [6] | 9 => some [0, 7, 8, 9, 10, 11, 58] | 10 => some [] | 11 => some [6] | 12 => some [0, 7, 8] | 13 => some [] | 14 => some [6] | _ => none
  track := fun | _ => false
  draw := fun | _ => .done
  iter := fun | _ => none }
def vc74 (a0 : Option (Nat × Nat)) (a1 : ByteArray) (a2 : ByteArray) (h : Heap) (R : Int → Heap → Prop) : Prop :=
 Call Go.Proofs.Tryz.prog 145 [VV.lf (Lf.ptr a0), VV.lf (Lf.str a1), VV.lf (Lf.str a2)] h
 [VT.one (LT.int IntKind.i64), VT.one LT.str, VT.one (LT.int IntKind.i64), VT.one LT.str, VT.one (LT.int IntKind.i64),
 VT.one (LT.int IntKind.i64)]
 fun (i0 : Int) (t1 : ByteArray) (i2 : Int) (t3 : ByteArray) (i4 i5 : Int) (h6 : Heap) =>
 Br (i5 != (0 : Int)) (R i5 h6)
 (∃ (I7 : Bool → Heap → Prop),
 Br (i0 != i2)
 (Call Go.Proofs.Tryz.prog 130 [VV.lf (Lf.ptr a0), VV.lf (Lf.int IntKind.i64 i2)] h6 [VT.agg [LT.slc, LT.slc]]
 fun (s8 s9 : Slc) (h10 : Heap) =>
 Call Go.Proofs.Tryz.prog 132 [VV.agg [Lf.slc s8, Lf.slc s9], VV.lf (Lf.str t3)] h10 [VT.one (LT.int IntKind.i64)]
 fun (i11 : Int) (h12 : Heap) =>
 Br (Decidable.decide (i11 < (0 : Int)))
 (Call Go.Proofs.Tryz.prog 130 [VV.lf (Lf.ptr a0), VV.lf (Lf.int IntKind.i64 i2)] h12 [VT.agg [LT.slc, LT.slc]]
 fun (s13 s14 : Slc) (h15 : Heap) => I7 (Decidable.decide ((↑(Slc.len s13) : Int) ≥ (1024 : Int))) h15)
 (I7 Bool.false h12))
 (I7 Bool.false h6) ∧
 ∀ (c16 : Bool) (h17 : Heap),
 I7 c16 h17 →
 Br c16 (R (2 : Int) h17)
 (Call Go.Proofs.Tryz.prog 129 [VV.lf (Lf.ptr a0)] h17 [VT.one (LT.int IntKind.i64)] fun (i18 : Int) (h19 : Heap) =>
 ∃ (I20 : Bool → Heap → Prop),
 Br (i18 != (0 : Int)) (I20 Bool.true h19) (I20 (strEq a1 a2) h19) ∧
 ∀ (c21 : Bool) (h22 : Heap),
 I20 c21 h22 →
 Br c21 (R i18 h22)
 (Br (i0 == i2)
 (Call Go.Proofs.Tryz.prog 130 [VV.lf (Lf.ptr a0), VV.lf (Lf.int IntKind.i64 i0)] h22 [VT.agg [LT.slc, LT.slc]]
 fun (s23 s24 : Slc) (h25 : Heap) =>
 Call Go.Proofs.Tryz.prog 134
 [VV.agg [Lf.slc s23, Lf.slc s24], VV.lf (Lf.str t1), VV.lf (Lf.int IntKind.i64 (-1 : Int))] h25
 [VT.agg [LT.slc, LT.slc]] fun (s26 s27 : Slc) (h28 : Heap) =>
 Call Go.Proofs.Tryz.prog 134 [VV.agg [Lf.slc s26, Lf.slc s27], VV.lf (Lf.str t3), VV.lf (Lf.int IntKind.i64 i4)] h28
 [VT.agg [LT.slc, LT.slc]] fun (s29 s30 : Slc) (h31 : Heap) =>
 Call Go.Proofs.Tryz.prog 133 [VV.lf (Lf.ptr a0), VV.lf (Lf.int IntKind.i64 i0), VV.agg [Lf.slc s29, Lf.slc s30]]
 h31 [] fun (h32 : Heap) => R (0 : Int) h32)
 (Call Go.Proofs.Tryz.prog 130 [VV.lf (Lf.ptr a0), VV.lf (Lf.int IntKind.i64 i2)] h22 [VT.agg [LT.slc, LT.slc]]
 fun (s33 s34 : Slc) (h35 : Heap) =>
 Call Go.Proofs.Tryz.prog 134 [VV.agg [Lf.slc s33, Lf.slc s34], VV.lf (Lf.str t3), VV.lf (Lf.int IntKind.i64 i4)] h35
 [VT.agg [LT.slc, LT.slc]] fun (s36 s37 : Slc) (h38 : Heap) =>
 Call Go.Proofs.Tryz.prog 133 [VV.lf (Lf.ptr a0), VV.lf (Lf.int IntKind.i64 i2), VV.agg [Lf.slc s36, Lf.slc s37]] h38
 [] fun (h39 : Heap) =>
 Call Go.Proofs.Tryz.prog 130 [VV.lf (Lf.ptr a0), VV.lf (Lf.int IntKind.i64 i0)] h39 [VT.agg [LT.slc, LT.slc]]
 fun (s40 s41 : Slc) (h42 : Heap) =>
 Call Go.Proofs.Tryz.prog 134
 [VV.agg [Lf.slc s40, Lf.slc s41], VV.lf (Lf.str t1), VV.lf (Lf.int IntKind.i64 (-1 : Int))] h42
 [VT.agg [LT.slc, LT.slc]] fun (s43 s44 : Slc) (h45 : Heap) =>
 Call Go.Proofs.Tryz.prog 133
 [VV.lf (Lf.ptr a0), VV.lf (Lf.int IntKind.i64 i0), VV.agg [Lf.slc s43, Lf.slc s44]] h45 [] fun (h46 : Heap) =>
 R (0 : Int) h46))))
theorem eq74 (a0 : Option (Nat × Nat)) (a1 : ByteArray) (a2 : ByteArray) (h : Heap) (R : Int → Heap → Prop) : vc74 a0 a1 a2 h R = vcFn Go.Proofs.Tryz.prog pl74 Go.Proofs.Tryz.f74 [.lf (.ptr a0), .lf (.str a1), .lf (.str a2)] h [.one (.int .i64)] R := by kernel_rfl
theorem ok74 {a0 : Option (Nat × Nat)} {a1 : ByteArray} {a2 : ByteArray} {h : Heap} {R : Int → Heap → Prop} (hv : vc74 a0 a1 a2 h R) : Call Go.Proofs.Tryz.prog 74 [.lf (.ptr a0), .lf (.str a1), .lf (.str a2)] h [.one (.int .i64)] R := call_eq hng hmix Go.Proofs.Tryz.func74 (eq74 a0 a1 a2 h R) hv
/- 76: (*sediment.sedimentref02.FS).Link (f, from, to) -/
def pl76 : Plan := {
  blk := fun _ => none
  seq := fun _ => none
  loop := fun _ => none
  live := fun | 0 => some [0, 1, 2] | 1 => some [0, 9, 10, 11, 12] | 2 => some [0, 9, 10, 11, 12, 24] | 3 => some [6] | 4 => some [0, 9, 10, 11, 28] | 5 => some [6] | 6 => some [0, 9, 10, 11, 35] | 7 => some [6] | 8 => some [0, 9, 10, 11, 12] | 9 => some [0, 9, 10, 11, 12, 45] | 10 => some [12] | 11 => some [6] | _ => none
  track := fun | _ => false
  draw := fun | _ => .done
  iter := fun | _ => none }
def vc76 (a0 : Option (Nat × Nat)) (a1 : ByteArray) (a2 : ByteArray) (h : Heap) (R : Int → Heap → Prop) : Prop :=
 Call Go.Proofs.Tryz.prog 145 [VV.lf (Lf.ptr a0), VV.lf (Lf.str a1), VV.lf (Lf.str a2)] h
 [VT.one (LT.int IntKind.i64), VT.one LT.str, VT.one (LT.int IntKind.i64), VT.one LT.str, VT.one (LT.int IntKind.i64),
 VT.one (LT.int IntKind.i64)]
 fun (i0 : Int) (t1 : ByteArray) (i2 : Int) (t3 : ByteArray) (i4 i5 : Int) (h6 : Heap) =>
 Br (i5 != (0 : Int)) (R i5 h6)
 (Call Go.Proofs.Tryz.prog 130 [VV.lf (Lf.ptr a0), VV.lf (Lf.int IntKind.i64 i2)] h6 [VT.agg [LT.slc, LT.slc]]
 fun (s7 s8 : Slc) (h9 : Heap) =>
 Call Go.Proofs.Tryz.prog 132 [VV.agg [Lf.slc s7, Lf.slc s8], VV.lf (Lf.str t3)] h9 [VT.one (LT.int IntKind.i64)]
 fun (i10 : Int) (h11 : Heap) =>
 Br (Decidable.decide (i10 ≥ (0 : Int))) (R (7 : Int) h11)
 (Call Go.Proofs.Tryz.prog 130 [VV.lf (Lf.ptr a0), VV.lf (Lf.int IntKind.i64 i2)] h11 [VT.agg [LT.slc, LT.slc]]
 fun (s12 s13 : Slc) (h14 : Heap) =>
 Br (Decidable.decide ((↑(Slc.len s12) : Int) ≥ (1024 : Int))) (R (2 : Int) h14)
 (Call Go.Proofs.Tryz.prog 129 [VV.lf (Lf.ptr a0)] h14 [VT.one (LT.int IntKind.i64)] fun (i15 : Int) (h16 : Heap) =>
 Br (i15 == (0 : Int))
 (Call Go.Proofs.Tryz.prog 130 [VV.lf (Lf.ptr a0), VV.lf (Lf.int IntKind.i64 i2)] h16 [VT.agg [LT.slc, LT.slc]]
 fun (s17 s18 : Slc) (h19 : Heap) =>
 Call Go.Proofs.Tryz.prog 134 [VV.agg [Lf.slc s17, Lf.slc s18], VV.lf (Lf.str t3), VV.lf (Lf.int IntKind.i64 i4)] h19
 [VT.agg [LT.slc, LT.slc]] fun (s20 s21 : Slc) (h22 : Heap) =>
 Call Go.Proofs.Tryz.prog 133 [VV.lf (Lf.ptr a0), VV.lf (Lf.int IntKind.i64 i2), VV.agg [Lf.slc s20, Lf.slc s21]] h22 []
 fun (h23 : Heap) => R i15 h23)
 (R i15 h16))))
theorem eq76 (a0 : Option (Nat × Nat)) (a1 : ByteArray) (a2 : ByteArray) (h : Heap) (R : Int → Heap → Prop) : vc76 a0 a1 a2 h R = vcFn Go.Proofs.Tryz.prog pl76 Go.Proofs.Tryz.f76 [.lf (.ptr a0), .lf (.str a1), .lf (.str a2)] h [.one (.int .i64)] R := by kernel_rfl
theorem ok76 {a0 : Option (Nat × Nat)} {a1 : ByteArray} {a2 : ByteArray} {h : Heap} {R : Int → Heap → Prop} (hv : vc76 a0 a1 a2 h R) : Call Go.Proofs.Tryz.prog 76 [.lf (.ptr a0), .lf (.str a1), .lf (.str a2)] h [.one (.int .i64)] R := call_eq hng hmix Go.Proofs.Tryz.func76 (eq76 a0 a1 a2 h R) hv
/- 78: (*sediment.sedimentref02.FS).Remove (f, path) -/
def pl78 : Plan := {
  blk := fun _ => none
  seq := fun _ => none
  loop := fun _ => none
  live := fun | 0 => some [0, 1] | 1 => some [0, 1, 6] | 2 => some [0, 1, 6, 17] | 3 => some [4] | 4 => some [0, 1, 6] | 5 => some [0, 1, 6, 22] | 6 => some [0, 6, 7, 8] | 7 => some [6] | 8 => some [4] | _ => none
  track := fun | _ => false
  draw := fun | _ => .done
  iter := fun | _ => none }
def vc78 (a0 : Option (Nat × Nat)) (a1 : ByteArray) (h : Heap) (R : Int → Heap → Prop) : Prop :=
 Call Go.Proofs.Tryz.prog 138 [VV.lf (Lf.ptr a0), VV.lf (Lf.str a1)] h [VT.one (LT.int IntKind.i64), VT.one (LT.int IntKind.i64)]
 fun (i0 i1 : Int) (h2 : Heap) =>
 Br (i1 != (0 : Int)) (R i1 h2)
 (Call Go.Proofs.Tryz.prog 129 [VV.lf (Lf.ptr a0)] h2 [VT.one (LT.int IntKind.i64)] fun (i3 : Int) (h4 : Heap) =>
 Br (i3 == (0 : Int))
 (Call Go.Proofs.Tryz.prog 131 [VV.lf (Lf.ptr a0), VV.lf (Lf.str a1)] h4
 [VT.one (LT.int IntKind.i64), VT.one LT.str, VT.one (LT.int IntKind.i64)] fun (i5 : Int) (t6 : ByteArray) (i7 : Int) (h8 : Heap) =>
 Call Go.Proofs.Tryz.prog 130 [VV.lf (Lf.ptr a0), VV.lf (Lf.int IntKind.i64 i5)] h8 [VT.agg [LT.slc, LT.slc]]
 fun (s9 s10 : Slc) (h11 : Heap) =>
 Call Go.Proofs.Tryz.prog 134 [VV.agg [Lf.slc s9, Lf.slc s10], VV.lf (Lf.str t6), VV.lf (Lf.int IntKind.i64 (-1 : Int))] h11
 [VT.agg [LT.slc, LT.slc]] fun (s12 s13 : Slc) (h14 : Heap) =>
 Call Go.Proofs.Tryz.prog 133 [VV.lf (Lf.ptr a0), VV.lf (Lf.int IntKind.i64 i5), VV.agg [Lf.slc s12, Lf.slc s13]] h14 []
 fun (h15 : Heap) => R i3 h15)
 (R i3 h4))
theorem eq78 (a0 : Option (Nat × Nat)) (a1 : ByteArray) (h : Heap) (R : Int → Heap → Prop) : vc78 a0 a1 h R = vcFn Go.Proofs.Tryz.prog pl78 Go.Proofs.Tryz.f78 [.lf (.ptr a0), .lf (.str a1)] h [.one (.int .i64)] R := by kernel_rfl
theorem ok78 {a0 : Option (Nat × Nat)} {a1 : ByteArray} {h : Heap} {R : Int → Heap → Prop} (hv : vc78 a0 a1 h R) : Call Go.Proofs.Tryz.prog 78 [.lf (.ptr a0), .lf (.str a1)] h [.one (.int .i64)] R := call_eq hng hmix Go.Proofs.Tryz.func78 (eq78 a0 a1 h R) hv
/- 163: (*sediment.sedimentref02.FS).Same (f, a, b) -/
def pl163 : Plan := {
  blk := fun _ => none
  seq := fun _ => none
  loop := fun _ => none
  live := fun | 0 => some [0, 1, 2] | 1 => some [0, 2, 7, 8] | 2 => some [7, 8, 9, 10] | 3 => some [6] | _ => none
  track := fun | _ => false
  draw := fun | _ => .done
  iter := fun | _ => none }
def vc163 (a0 : Option (Nat × Nat)) (a1 : ByteArray) (a2 : ByteArray) (h : Heap) (R : Bool → Heap → Prop) : Prop :=
 Call Go.Proofs.Tryz.prog 138 [VV.lf (Lf.ptr a0), VV.lf (Lf.str a1)] h [VT.one (LT.int IntKind.i64), VT.one (LT.int IntKind.i64)]
 fun (i0 i1 : Int) (h2 : Heap) =>
 Call Go.Proofs.Tryz.prog 138 [VV.lf (Lf.ptr a0), VV.lf (Lf.str a2)] h2 [VT.one (LT.int IntKind.i64), VT.one (LT.int IntKind.i64)]
 fun (i3 i4 : Int) (h5 : Heap) => Br (i1 == (0 : Int)) (Br (i4 == (0 : Int)) (R (i0 == i3) h5) (R Bool.false h5)) (R Bool.false h5)
theorem eq163 (a0 : Option (Nat × Nat)) (a1 : ByteArray) (a2 : ByteArray) (h : Heap) (R : Bool → Heap → Prop) : vc163 a0 a1 a2 h R = vcFn Go.Proofs.Tryz.prog pl163 Go.Proofs.Tryz.f163 [.lf (.ptr a0), .lf (.str a1), .lf (.str a2)] h [.one .bool] R := by kernel_rfl
theorem ok163 {a0 : Option (Nat × Nat)} {a1 : ByteArray} {a2 : ByteArray} {h : Heap} {R : Bool → Heap → Prop} (hv : vc163 a0 a1 a2 h R) : Call Go.Proofs.Tryz.prog 163 [.lf (.ptr a0), .lf (.str a1), .lf (.str a2)] h [.one .bool] R := call_eq hng hmix Go.Proofs.Tryz.func163 (eq163 a0 a1 a2 h R) hv
/- 199: sediment.sedimentref02.has (l, n) · loop 2: i -/
def pl199 : Plan := {
  blk := fun _ => none
  seq := fun _ => none
  loop := fun | 2 => some ⟨[(5, .one (.int .i64))], [], []⟩ | _ => none
  live := fun | 0 => some [0, 1] | 1 => some [0, 1, 5] | 2 => some [0, 1, 5, 9] | 3 => some [0, 1, 5] | 4 => some [0, 1, 5, 17] | 5 => some [4] | 6 => some [4] | _ => none
  track := fun | _ => false
  draw := fun | _ => .done
  iter := fun | _ => none }
def vc199 (a0 : Slc) (a1 : Int) (h : Heap) (R : Bool → Heap → Prop) : Prop :=
 ∃ (I0 : Int → Heap → Nat → Prop),
 (∃ (b1 : Nat), I0 (0 : Int) h b1) ∧
 ∀ (i2 : Int) (h3 : Heap) (b4 : Nat),
 I0 i2 h3 b4 →
 Br (Decidable.decide (i2 < (↑(Slc.len a0) : Int)))
 (IxC a0 i2 1 fun (b5 b6 : Nat) =>
 ∃ (i7 : Int),
 cellsAt h3 b5 b6 [Lf.int IntKind.i64 i7] ∧ Br (i7 == a1) (R Bool.true h3) (∃ (b8 : Nat), b8 < b4 ∧ I0 (IntKind.wrap IntKind.i64 (i2 + (1 : Int))) h3 b8))
 (R Bool.false h3)
theorem eq199 (a0 : Slc) (a1 : Int) (h : Heap) (R : Bool → Heap → Prop) : vc199 a0 a1 h R = vcFn Go.Proofs.Tryz.prog pl199 Go.Proofs.Tryz.f199 [.lf (.slc a0), .lf (.int .i64 a1)] h [.one .bool] R := by kernel_rfl
theorem ok199 {a0 : Slc} {a1 : Int} {h : Heap} {R : Bool → Heap → Prop} (hv : vc199 a0 a1 h R) : Call Go.Proofs.Tryz.prog 199 [.lf (.slc a0), .lf (.int .i64 a1)] h [.one .bool] R := call_eq hng hmix Go.Proofs.Tryz.func199 (eq199 a0 a1 h R) hv
/- 151: (*sediment.sedimentref02.FS).all (f) · loop 3: out, i · loop 7: out, k -/
def pl151 : Plan := {
  blk := fun _ => none
  seq := fun _ => none
  loop := fun | 3 => some ⟨[(3, .one .slc), (4, .one (.int .i64))], [], []⟩ | 7 => some ⟨[(3, .one .slc), (6, .one (.int .i64))], [], []⟩ | _ => none
  live := fun | 0 => some [0] | 1 => some [0, 3] | 2 => some [0, 3, 4] | 3 => some [0, 3, 4, 13] | 4 => some [0, 3, 4] | 5 => some [0, 3, 4, 5] | 6 => some [0, 3, 4, 5, 6] | 7 => some [0, 3, 4, 5, 6, 23] | 8 => some [0, 3, 4, 5, 6] | 9 => some [0, 3, 4, 5, 6, 32] | 10 => some [0, 3, 4, 5, 6] | 11 => some [2] | _ => none
  track := fun | _ => false
  draw := fun | _ => .done
  iter := fun | _ => none }
def vc151 (a0 : Option (Nat × Nat)) (h : Heap) (R : Slc → Heap → Prop) : Prop :=
 ∃ (I0 : Slc → Int → Heap → Nat → Prop),
 (∃ (b1 : Nat), I0 (Slc.mk Option.none 0 0) (0 : Int) h b1) ∧
 ∀ (s2 : Slc) (i3 : Int) (h4 : Heap) (b5 : Nat),
 I0 s2 i3 h4 b5 →
 NilC a0 fun (b6 b7 : Nat) =>
 ∃ (s8 : Slc),
 cellsAt h4 b6 (b7 + 1) [Lf.slc s8] ∧
 Br (Decidable.decide (i3 < (↑(Slc.len s8) : Int)))
 (Call Go.Proofs.Tryz.prog 130 [VV.lf (Lf.ptr a0), VV.lf (Lf.int IntKind.i64 i3)] h4 [VT.agg [LT.slc, LT.slc]]
 fun (s9 s10 : Slc) (h11 : Heap) =>
 ∃ (I12 : Slc → Int → Heap → Nat → Prop),
 (∃ (b13 : Nat), I12 s2 (0 : Int) h11 b13) ∧
 ∀ (s14 : Slc) (i15 : Int) (h16 : Heap) (b17 : Nat),
 I12 s14 i15 h16 b17 →
 Br (Decidable.decide (i15 < (↑(Slc.len s10) : Int)))
 (IxC s10 i15 1 fun (b18 b19 : Nat) =>
 ∃ (i20 : Int),
 cellsAt h16 b18 b19 [Lf.int IntKind.i64 i20] ∧
 Call Go.Proofs.Tryz.prog 199 [VV.lf (Lf.slc s14), VV.lf (Lf.int IntKind.i64 i20)] h16 [VT.one LT.bool]
 fun (c21 : Bool) (h22 : Heap) =>
 Br (!c21)
 (IxC s10 i15 1 fun (b23 b24 : Nat) =>
 ∃ (i25 : Int),
 cellsAt h22 b23 b24 [Lf.int IntKind.i64 i25] ∧
 New 3 [Lf.int IntKind.i64 i25] h22 fun (b26 : Nat) (h27 : Heap) =>
 AppC 3 [Lf.int IntKind.i64 (0 : Int)] 1 8 s14 (Slc.mk (Option.some (b26, 0)) 1 1) h27
 fun (s28 : Slc) (h29 : Heap) => ∃ (b30 : Nat), b30 < b17 ∧ I12 s28 (IntKind.wrap IntKind.i64 (i15 + (1 : Int))) h29 b30)
 (∃ (b31 : Nat), b31 < b17 ∧ I12 s14 (IntKind.wrap IntKind.i64 (i15 + (1 : Int))) h22 b31))
 (∃ (b32 : Nat), b32 < b5 ∧ I0 s14 (IntKind.wrap IntKind.i64 (i3 + (1 : Int))) h16 b32))
 (R s2 h4)
theorem eq151 (a0 : Option (Nat × Nat)) (h : Heap) (R : Slc → Heap → Prop) : vc151 a0 h R = vcFn Go.Proofs.Tryz.prog pl151 Go.Proofs.Tryz.f151 [.lf (.ptr a0)] h [.one .slc] R := by kernel_rfl
theorem ok151 {a0 : Option (Nat × Nat)} {h : Heap} {R : Slc → Heap → Prop} (hv : vc151 a0 h R) : Call Go.Proofs.Tryz.prog 151 [.lf (.ptr a0)] h [.one .slc] R := call_eq hng hmix Go.Proofs.Tryz.func151 (eq151 a0 h R) hv
/- 88: (*sediment.sedimentref02.FS).Used (f) · loop 4: n, i -/
def pl88 : Plan := {
  blk := fun _ => none
  seq := fun _ => none
  loop := fun | 4 => some ⟨[(3, .one (.int .i64)), (5, .one (.int .i64))], [], []⟩ | _ => none
  live := fun | 0 => some [0] | 1 => some [0, 3] | 2 => some [0, 3, 4] | 3 => some [0, 3, 4, 5] | 4 => some [0, 3, 4, 5, 11] | 5 => some [0, 3, 4, 5] | 6 => some [0, 3, 4, 5] | 7 => some [2] | _ => none
  track := fun | _ => false
  draw := fun | 6 => .still 0 (.still 1 (.still 2 (.still 3 (.still 4 (.still 5 (.still 6 (.still 7 (.still 8 (.still 9 (.still 10 (.mem 11 (.still 12 (.still 13 (.still 14 (.done))))))))))))))) | _ => .done
  iter := fun | _ => none }
def vc88 (a0 : Option (Nat × Nat)) (h : Heap) (R : Int → Heap → Prop) : Prop :=
 Call Go.Proofs.Tryz.prog 151 [VV.lf (Lf.ptr a0)] h [VT.one LT.slc] fun (s0 : Slc) (h1 : Heap) =>
 ∃ (I2 : Int → Int → Heap → Nat → Prop),
 (∃ (b3 : Nat), I2 (0 : Int) (0 : Int) h1 b3) ∧
 ∀ (i4 i5 : Int) (h6 : Heap) (b7 : Nat),
 I2 i4 i5 h6 b7 →
 Br (Decidable.decide (i5 < (↑(Slc.len s0) : Int)))
 (NilC a0 fun (b8 b9 : Nat) =>
 ∃ (s10 : Slc),
 cellsAt h6 b8 (b9 + 2) [Lf.slc s10] ∧
 IxC s0 i5 1 fun (b11 b12 : Nat) =>
 ∃ (i13 : Int),
 cellsAt h6 b11 b12 [Lf.int IntKind.i64 i13] ∧
 IxC s10 i13 2 fun (b14 b15 : Nat) =>
 ∃ (s16 : Slc),
 ∃ (s17 : Slc),
 cellsAt h6 b14 b15 [Lf.slc s16, Lf.slc s17] ∧
 Call Go.Proofs.Tryz.prog 139 [VV.agg [Lf.slc s16, Lf.slc s17]] h6 [VT.one LT.slc] fun (s18 : Slc) (h19 : Heap) =>
 ∃ (b20 : Nat), b20 < b7 ∧ I2 (IntKind.wrap IntKind.i64 (i4 + (↑(Slc.len s18) : Int))) (IntKind.wrap IntKind.i64 (i5 + (1 : Int))) h19 b20)
 (R i4 h6)
theorem eq88 (a0 : Option (Nat × Nat)) (h : Heap) (R : Int → Heap → Prop) : vc88 a0 h R = vcFn Go.Proofs.Tryz.prog pl88 Go.Proofs.Tryz.f88 [.lf (.ptr a0)] h [.one (.int .i64)] R := by kernel_rfl
theorem ok88 {a0 : Option (Nat × Nat)} {h : Heap} {R : Int → Heap → Prop} (hv : vc88 a0 h R) : Call Go.Proofs.Tryz.prog 88 [.lf (.ptr a0)] h [.one (.int .i64)] R := call_eq hng hmix Go.Proofs.Tryz.func88 (eq88 a0 h R) hv
end Go.V.YtdeihieblljfcaaGreat
