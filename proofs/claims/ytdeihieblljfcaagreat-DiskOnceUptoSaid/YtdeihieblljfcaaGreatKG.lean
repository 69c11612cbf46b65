/- This text proves a part of the laws of seat YtdeihieblljfcaaGreat, under no condition: F1e. -/
import Derived.Test.YtdeihieblljfcaaGreatKC
import Derived.Eval
import Derived.Test.YtdeihieblljfcaaGreatChecked
import Derived.Test.YtdeihieblljfcaaGreatKE
set_option linter.unusedVariables false
set_option maxRecDepth 100000
namespace Go.V.YtdeihieblljfcaaGreat
open Go Go.V
/- 67: (*sediment.vfs.FS).Rmdir (f, name) -/
def pl67 : Plan := {
  blk := fun _ => none
  seq := fun _ => none
  loop := fun _ => none
  live := fun | 0 => some [0, 1] | 1 => some [0, 1, 5, 6] | 2 => some [0, 1, 5, 6, 16] | 3 => some [4] | 4 => some [0, 1, 23] | 5 => some [4] | 6 => some [0, 1, 7] | 7 => some [0, 1, 7, 30] | 8 => some [4] | 9 => some [] | 10 => some [4] | _ => none
  track := fun | _ => false
  draw := fun | _ => .done
  iter := fun | _ => none }
def vc67 (a0 : Option (Nat × Nat)) (a1 : ByteArray) (h : Heap) (R : Int → Heap → Prop) : Prop :=
 Call Go.Proofs.Tryz.prog 106 [VV.lf (Lf.ptr a0), VV.lf (Lf.str a1)] h [VT.one LT.ptr, VT.one (LT.int IntKind.i64)]
 fun (p0 : Option (Nat × Nat)) (i1 : Int) (h2 : Heap) =>
 Br (i1 != (0 : Int)) (R i1 h2)
 (NilC p0 fun (b3 b4 : Nat) =>
 ∃ (p5 : Option Nat),
 cellsAt h2 b3 (b4 + 0) [Lf.map p5] ∧
 ∃ (i6 : Int),
 LenR h2 p5 i6 ∧
 Br (Decidable.decide (i6 > (0 : Int))) (R (8 : Int) h2)
 (Call Go.Proofs.Tryz.prog 55 [VV.lf (Lf.ptr a0)] h2 [VT.one (LT.int IntKind.i64), VT.one LT.bool]
 fun (i7 : Int) (c8 : Bool) (h9 : Heap) =>
 Br (i7 != (0 : Int)) (R i7 h9)
 (NilC a0 fun (b10 b11 : Nat) =>
 ∃ (p12 : Option Nat),
 cellsAt h9 b10 (b11 + 1) [Lf.map p12] ∧ DelC LT.str (VT.one LT.ptr) h9 p12 a1 fun (h13 : Heap) => R (0 : Int) h13)))
theorem eq67 (a0 : Option (Nat × Nat)) (a1 : ByteArray) (h : Heap) (R : Int → Heap → Prop) : vc67 a0 a1 h R = vcFn Go.Proofs.Tryz.prog pl67 Go.Proofs.Tryz.f67 [.lf (.ptr a0), .lf (.str a1)] h [.one (.int .i64)] R := by kernel_rfl
theorem ok67 {a0 : Option (Nat × Nat)} {a1 : ByteArray} {h : Heap} {R : Int → Heap → Prop} (hv : vc67 a0 a1 h R) : Call Go.Proofs.Tryz.prog 67 [.lf (.ptr a0), .lf (.str a1)] h [.one (.int .i64)] R := call_eq hng hmix Go.Proofs.Tryz.func67 (eq67 a0 a1 h R) hv
/- 71: (*sediment.vfs.FS).Cut (f, path, n) · seq 5: #30 -/
def pl71 : Plan := {
  blk := fun _ => none
  seq := fun | 5 => some ⟨[(30, .one .bool)], [], []⟩ | _ => none
  loop := fun _ => none
  live := fun | 0 => some [0, 1, 2] | 1 => some [0, 2, 7, 8] | 2 => some [0, 2, 7, 8, 18] | 3 => some [6] | 4 => some [0, 2, 7, 30] | 5 => some [6] | 6 => some [2, 7, 9] | 7 => some [2, 7, 9, 37] | 8 => some [6] | 9 => some [7] | 10 => some [] | 11 => some [6] | _ => none
  track := fun | _ => false
  draw := fun | _ => .done
  iter := fun | _ => none }
def vc71 (a0 : Option (Nat × Nat)) (a1 : ByteArray) (a2 : Int) (h : Heap) (R : Int → Heap → Prop) : Prop :=
 Call Go.Proofs.Tryz.prog 53 [VV.lf (Lf.ptr a0), VV.lf (Lf.str a1)] h [VT.one LT.ptr, VT.one (LT.int IntKind.i64)]
 fun (p0 : Option (Nat × Nat)) (i1 : Int) (h2 : Heap) =>
 Br (i1 != (0 : Int)) (R i1 h2)
 (∃ (I3 : Bool → Heap → Prop),
 Br (Decidable.decide (a2 < (0 : Int))) (I3 Bool.true h2)
 (NilC p0 fun (b4 b5 : Nat) => ∃ (s6 : Slc), cellsAt h2 b4 (b5 + 2) [Lf.slc s6] ∧ I3 (Decidable.decide (a2 > (↑(Slc.len s6) : Int))) h2) ∧
 ∀ (c7 : Bool) (h8 : Heap),
 I3 c7 h8 →
 Br c7 (R (1 : Int) h8)
 (Call Go.Proofs.Tryz.prog 55 [VV.lf (Lf.ptr a0)] h8 [VT.one (LT.int IntKind.i64), VT.one LT.bool]
 fun (i9 : Int) (c10 : Bool) (h11 : Heap) =>
 Br (i9 != (0 : Int)) (R i9 h11)
 (NilC p0 fun (b12 b13 : Nat) =>
 ∃ (s14 : Slc),
 cellsAt h11 b12 (b13 + 2) [Lf.slc s14] ∧
 (0 : Int) ≤ a2 ∧
 a2 ≤ (↑(Slc.cap s14) : Int) ∧
 Call Go.Proofs.Tryz.prog 47 [VV.lf (Lf.slc (Slc.sub s14 1 0 (Int.toNat a2) (Slc.cap s14)))] h11 [VT.one LT.slc]
 fun (s15 : Slc) (h16 : Heap) =>
 NilC p0 fun (b17 b18 : Nat) =>
 StC h16 b17 (b18 + 2) [Lf.slc s15] fun (h19 : Heap) =>
 NilC p0 fun (b20 b21 : Nat) =>
 ∃ (s22 : Slc),
 cellsAt h19 b20 (b21 + 2) [Lf.slc s22] ∧
 NilC p0 fun (b23 b24 : Nat) =>
 StC h19 b23 (b24 + 0) [Lf.slc s22] fun (h25 : Heap) =>
 NilC p0 fun (b26 b27 : Nat) =>
 StC h25 b26 (b27 + 1) [Lf.slc (Slc.mk Option.none 0 0)] fun (h28 : Heap) => R (0 : Int) h28)))
theorem eq71 (a0 : Option (Nat × Nat)) (a1 : ByteArray) (a2 : Int) (h : Heap) (R : Int → Heap → Prop) : vc71 a0 a1 a2 h R = vcFn Go.Proofs.Tryz.prog pl71 Go.Proofs.Tryz.f71 [.lf (.ptr a0), .lf (.str a1), .lf (.int .i64 a2)] h [.one (.int .i64)] R := by kernel_rfl
theorem ok71 {a0 : Option (Nat × Nat)} {a1 : ByteArray} {a2 : Int} {h : Heap} {R : Int → Heap → Prop} (hv : vc71 a0 a1 a2 h R) : Call Go.Proofs.Tryz.prog 71 [.lf (.ptr a0), .lf (.str a1), .lf (.int .i64 a2)] h [.one (.int .i64)] R := call_eq hng hmix Go.Proofs.Tryz.func71 (eq71 a0 a1 a2 h R) hv
/- 83: (*sediment.vfs.FS).Flip (f, path, bit) · seq 7: #35 -/
def pl83 : Plan := {
  blk := fun _ => none
  seq := fun | 7 => some ⟨[(35, .one .bool)], [], []⟩ | _ => none
  loop := fun _ => none
  live := fun | 0 => some [0, 1, 2] | 1 => some [2, 7, 8] | 2 => some [2, 7, 8, 16] | 3 => some [6] | 4 => some [2, 7, 23] | 5 => some [6] | 6 => some [2, 7, 35] | 7 => some [6] | 8 => some [2, 7] | 9 => some [7] | 10 => some [] | 11 => some [6] | _ => none
  track := fun | _ => false
  draw := fun | 9 => .still 0 (.still 1 (.still 2 (.still 3 (.still 4 (.still 5 (.still 6 (.still 7 (.still 8 (.still 9 (.still 10 (.still 11 (.still 12 (.mem 13 (.done)))))))))))))) | _ => .done
  iter := fun | _ => none }
def vc83 (a0 : Option (Nat × Nat)) (a1 : ByteArray) (a2 : Int) (h : Heap) (R : Int → Heap → Prop) : Prop :=
 Call Go.Proofs.Tryz.prog 53 [VV.lf (Lf.ptr a0), VV.lf (Lf.str a1)] h [VT.one LT.ptr, VT.one (LT.int IntKind.i64)]
 fun (p0 : Option (Nat × Nat)) (i1 : Int) (h2 : Heap) =>
 Br (i1 != (0 : Int)) (R i1 h2)
 (NilC p0 fun (b3 b4 : Nat) =>
 ∃ (s5 : Slc),
 cellsAt h2 b3 (b4 + 1) [Lf.slc s5] ∧
 Br (Decidable.decide ((↑(Slc.len s5) : Int) > (0 : Int))) (R (8 : Int) h2)
 (∃ (I6 : Bool → Heap → Prop),
 Br (Decidable.decide (a2 < (0 : Int))) (I6 Bool.true h2)
 (NilC p0 fun (b7 b8 : Nat) =>
 ∃ (s9 : Slc), cellsAt h2 b7 (b8 + 2) [Lf.slc s9] ∧ I6 (Decidable.decide (a2 ≥ IntKind.wrap IntKind.i64 ((8 : Int) * (↑(Slc.len s9) : Int)))) h2) ∧
 ∀ (c10 : Bool) (h11 : Heap),
 I6 c10 h11 →
 Br c10 (R (1 : Int) h11)
 (NilC p0 fun (b12 b13 : Nat) =>
 ∃ (s14 : Slc),
 cellsAt h11 b12 (b13 + 2) [Lf.slc s14] ∧
 Call Go.Proofs.Tryz.prog 47 [VV.lf (Lf.slc s14)] h11 [VT.one LT.slc] fun (s15 : Slc) (h16 : Heap) =>
 NilC p0 fun (b17 b18 : Nat) =>
 StC h16 b17 (b18 + 2) [Lf.slc s15] fun (h19 : Heap) =>
 NilC p0 fun (b20 b21 : Nat) =>
 ∃ (s22 : Slc),
 cellsAt h19 b20 (b21 + 2) [Lf.slc s22] ∧
 ((8 : Int) = (0 : Int) → False) ∧
 IxC s22 (IntKind.wrap IntKind.i64 (Int.tdiv a2 (8 : Int))) 1 fun (b23 b24 : Nat) =>
 ∃ (i25 : Int),
 cellsAt h19 b23 b24 [Lf.int IntKind.u8 i25] ∧
 ((8 : Int) = (0 : Int) → False) ∧
 (0 : Int) ≤ Int.tmod a2 (8 : Int) ∧
 IxC s22 (IntKind.wrap IntKind.i64 (Int.tdiv a2 (8 : Int))) 1 fun (b26 b27 : Nat) =>
 StC h19 b26 b27
 [Lf.int IntKind.u8 (bitop IntKind.u8 BinOp.xor i25 (shiftL IntKind.u8 (1 : Int) (Int.tmod a2 (8 : Int))))]
 fun (h28 : Heap) =>
 NilC p0 fun (b29 b30 : Nat) =>
 ∃ (s31 : Slc),
 cellsAt h28 b29 (b30 + 2) [Lf.slc s31] ∧
 NilC p0 fun (b32 b33 : Nat) => StC h28 b32 (b33 + 0) [Lf.slc s31] fun (h34 : Heap) => R (0 : Int) h34)))
theorem eq83 (a0 : Option (Nat × Nat)) (a1 : ByteArray) (a2 : Int) (h : Heap) (R : Int → Heap → Prop) : vc83 a0 a1 a2 h R = vcFn Go.Proofs.Tryz.prog pl83 Go.Proofs.Tryz.f83 [.lf (.ptr a0), .lf (.str a1), .lf (.int .i64 a2)] h [.one (.int .i64)] R := by kernel_rfl
theorem ok83 {a0 : Option (Nat × Nat)} {a1 : ByteArray} {a2 : Int} {h : Heap} {R : Int → Heap → Prop} (hv : vc83 a0 a1 a2 h R) : Call Go.Proofs.Tryz.prog 83 [.lf (.ptr a0), .lf (.str a1), .lf (.int .i64 a2)] h [.one (.int .i64)] R := call_eq hng hmix Go.Proofs.Tryz.func83 (eq83 a0 a1 a2 h R) hv
/- 42: (*sediment.vfs.FS).Fail (f, n, many) -/
def pl42 : Plan := {
  blk := fun _ => none
  seq := fun _ => none
  loop := fun _ => none
  live := fun | 0 => some [] | _ => none
  track := fun | _ => false
  draw := fun | _ => .done
  iter := fun | _ => none }
def vc42 (a0 : Option (Nat × Nat)) (a1 : Int) (a2 : Int) (h : Heap) (R : Heap → Prop) : Prop :=
 NilC a0 fun (b0 b1 : Nat) =>
 StC h b0 (b1 + 2) [Lf.int IntKind.i64 a1, Lf.int IntKind.i64 (if (0 : Int) > a2 then (0 : Int) else a2), Lf.int IntKind.i64 (0 : Int)] fun (h2 : Heap) =>
 R h2
theorem eq42 (a0 : Option (Nat × Nat)) (a1 : Int) (a2 : Int) (h : Heap) (R : Heap → Prop) : vc42 a0 a1 a2 h R = vcFn Go.Proofs.Tryz.prog pl42 Go.Proofs.Tryz.f42 [.lf (.ptr a0), .lf (.int .i64 a1), .lf (.int .i64 a2)] h [] R := by kernel_rfl
theorem ok42 {a0 : Option (Nat × Nat)} {a1 : Int} {a2 : Int} {h : Heap} {R : Heap → Prop} (hv : vc42 a0 a1 a2 h R) : Call Go.Proofs.Tryz.prog 42 [.lf (.ptr a0), .lf (.int .i64 a1), .lf (.int .i64 a2)] h [] R := call_eq hng hmix Go.Proofs.Tryz.func42 (eq42 a0 a1 a2 h R) hv
/- 44: (*sediment.vfs.FS).Dirs (f) -/
def pl44 : Plan := {
  blk := fun _ => none
  seq := fun _ => none
  loop := fun _ => none
  live := fun | 0 => some [0] | 1 => some [2] | _ => none
  track := fun | _ => false
  draw := fun | _ => .done
  iter := fun | _ => none }
def vc44 (a0 : Option (Nat × Nat)) (h : Heap) (R : Slc → Heap → Prop) : Prop :=
 Call Go.Proofs.Tryz.prog 50 [VV.lf (Lf.ptr a0)] h [VT.one LT.slc] fun (s0 : Slc) (h1 : Heap) => R s0 h1
theorem eq44 (a0 : Option (Nat × Nat)) (h : Heap) (R : Slc → Heap → Prop) : vc44 a0 h R = vcFn Go.Proofs.Tryz.prog pl44 Go.Proofs.Tryz.f44 [.lf (.ptr a0)] h [.one .slc] R := by kernel_rfl
theorem ok44 {a0 : Option (Nat × Nat)} {h : Heap} {R : Slc → Heap → Prop} (hv : vc44 a0 h R) : Call Go.Proofs.Tryz.prog 44 [.lf (.ptr a0)] h [.one .slc] R := call_eq hng hmix Go.Proofs.Tryz.func44 (eq44 a0 h R) hv
/- 91: (*sediment.vfs.FS).Open (f, name) -/
def pl91 : Plan := {
  blk := fun _ => none
  seq := fun _ => none
  loop := fun _ => none
  live := fun | 0 => some [0, 1] | 1 => some [6, 7] | 2 => some [6, 7, 15] | 3 => some [4, 5] | 4 => some [4, 5] | _ => none
  track := fun | _ => false
  draw := fun | _ => .done
  iter := fun | _ => none }
def vc91 (a0 : Option (Nat × Nat)) (a1 : ByteArray) (h : Heap) (R : Int → Int → Heap → Prop) : Prop :=
 Call Go.Proofs.Tryz.prog 106 [VV.lf (Lf.ptr a0), VV.lf (Lf.str a1)] h [VT.one LT.ptr, VT.one (LT.int IntKind.i64)]
 fun (p0 : Option (Nat × Nat)) (i1 : Int) (h2 : Heap) =>
 Br (i1 != (0 : Int)) (R (0 : Int) i1 h2) (NilC p0 fun (b3 b4 : Nat) => ∃ (s5 : Slc), cellsAt h2 b3 (b4 + 1) [Lf.slc s5] ∧ R (↑(Slc.len s5) : Int) (0 : Int) h2)
theorem eq91 (a0 : Option (Nat × Nat)) (a1 : ByteArray) (h : Heap) (R : Int → Int → Heap → Prop) : vc91 a0 a1 h R = vcFn Go.Proofs.Tryz.prog pl91 Go.Proofs.Tryz.f91 [.lf (.ptr a0), .lf (.str a1)] h [.one (.int .i64), .one (.int .i64)] R := by kernel_rfl
theorem ok91 {a0 : Option (Nat × Nat)} {a1 : ByteArray} {h : Heap} {R : Int → Int → Heap → Prop} (hv : vc91 a0 a1 h R) : Call Go.Proofs.Tryz.prog 91 [.lf (.ptr a0), .lf (.str a1)] h [.one (.int .i64), .one (.int .i64)] R := call_eq hng hmix Go.Proofs.Tryz.func91 (eq91 a0 a1 h R) hv
/- 158: (*sediment.vfs.FS).Unsynced (f, path) -/
def pl158 : Plan := {
  blk := fun _ => none
  seq := fun _ => none
  loop := fun _ => none
  live := fun | 0 => some [0, 1] | 1 => some [6, 7] | 2 => some [6, 7, 15] | 3 => some [4, 5] | 4 => some [4, 5] | _ => none
  track := fun | _ => false
  draw := fun | _ => .done
  iter := fun | _ => none }
def vc158 (a0 : Option (Nat × Nat)) (a1 : ByteArray) (h : Heap) (R : Int → Int → Heap → Prop) : Prop :=
 Call Go.Proofs.Tryz.prog 53 [VV.lf (Lf.ptr a0), VV.lf (Lf.str a1)] h [VT.one LT.ptr, VT.one (LT.int IntKind.i64)]
 fun (p0 : Option (Nat × Nat)) (i1 : Int) (h2 : Heap) =>
 Br (i1 != (0 : Int)) (R (0 : Int) i1 h2)
 (Call Go.Proofs.Tryz.prog 48 [VV.lf (Lf.ptr p0)] h2 [VT.one (LT.int IntKind.i64)] fun (i3 : Int) (h4 : Heap) => R i3 (0 : Int) h4)
theorem eq158 (a0 : Option (Nat × Nat)) (a1 : ByteArray) (h : Heap) (R : Int → Int → Heap → Prop) : vc158 a0 a1 h R = vcFn Go.Proofs.Tryz.prog pl158 Go.Proofs.Tryz.f158 [.lf (.ptr a0), .lf (.str a1)] h [.one (.int .i64), .one (.int .i64)] R := by kernel_rfl
theorem ok158 {a0 : Option (Nat × Nat)} {a1 : ByteArray} {h : Heap} {R : Int → Int → Heap → Prop} (hv : vc158 a0 a1 h R) : Call Go.Proofs.Tryz.prog 158 [.lf (.ptr a0), .lf (.str a1)] h [.one (.int .i64), .one (.int .i64)] R := call_eq hng hmix Go.Proofs.Tryz.func158 (eq158 a0 a1 h R) hv
/- 155: (*sediment.vfs.FS).Size (f, path) -/
def pl155 : Plan := {
  blk := fun _ => none
  seq := fun _ => none
  loop := fun _ => none
  live := fun | 0 => some [0, 1] | 1 => some [6, 7] | 2 => some [6, 7, 15] | 3 => some [4, 5] | 4 => some [4, 5] | _ => none
  track := fun | _ => false
  draw := fun | _ => .done
  iter := fun | _ => none }
def vc155 (a0 : Option (Nat × Nat)) (a1 : ByteArray) (h : Heap) (R : Int → Int → Heap → Prop) : Prop :=
 Call Go.Proofs.Tryz.prog 53 [VV.lf (Lf.ptr a0), VV.lf (Lf.str a1)] h [VT.one LT.ptr, VT.one (LT.int IntKind.i64)]
 fun (p0 : Option (Nat × Nat)) (i1 : Int) (h2 : Heap) =>
 Br (i1 != (0 : Int)) (R (0 : Int) i1 h2) (NilC p0 fun (b3 b4 : Nat) => ∃ (s5 : Slc), cellsAt h2 b3 (b4 + 2) [Lf.slc s5] ∧ R (↑(Slc.len s5) : Int) (0 : Int) h2)
theorem eq155 (a0 : Option (Nat × Nat)) (a1 : ByteArray) (h : Heap) (R : Int → Int → Heap → Prop) : vc155 a0 a1 h R = vcFn Go.Proofs.Tryz.prog pl155 Go.Proofs.Tryz.f155 [.lf (.ptr a0), .lf (.str a1)] h [.one (.int .i64), .one (.int .i64)] R := by kernel_rfl
theorem ok155 {a0 : Option (Nat × Nat)} {a1 : ByteArray} {h : Heap} {R : Int → Int → Heap → Prop} (hv : vc155 a0 a1 h R) : Call Go.Proofs.Tryz.prog 155 [.lf (.ptr a0), .lf (.str a1)] h [.one (.int .i64), .one (.int .i64)] R := call_eq hng hmix Go.Proofs.Tryz.func155 (eq155 a0 a1 h R) hv
/- 156: (*sediment.vfs.FS).ReadAt (f, path, at, n) · seq 6:  -/
def pl156 : Plan := {
  blk := fun _ => none
  seq := fun | 6 => some ⟨[], [], []⟩ | _ => none
  loop := fun _ => none
  live := fun | 0 => some [0, 1, 2, 3] | 1 => some [2, 3, 10, 11] | 2 => some [2, 3, 10, 11, 20] | 3 => some [8, 9] | 4 => some [2, 3, 10, 36] | 5 => some [8, 9] | 6 => some [3, 12] | 7 => some [8, 9] | _ => none
  track := fun | _ => false
  draw := fun | _ => .done
  iter := fun | _ => none }
def vc156 (a0 : Option (Nat × Nat)) (a1 : ByteArray) (a2 : Int) (a3 : Int) (h : Heap) (R : Slc → Int → Heap → Prop) : Prop :=
 Call Go.Proofs.Tryz.prog 53 [VV.lf (Lf.ptr a0), VV.lf (Lf.str a1)] h [VT.one LT.ptr, VT.one (LT.int IntKind.i64)]
 fun (p0 : Option (Nat × Nat)) (i1 : Int) (h2 : Heap) =>
 Br (i1 != (0 : Int)) (R (Slc.mk Option.none 0 0) i1 h2)
 (∃ (I3 : Heap → Prop),
 Br (Decidable.decide (a3 < (0 : Int))) (R (Slc.mk Option.none 0 0) (1 : Int) h2)
 (Br (Decidable.decide (a2 < (0 : Int))) (R (Slc.mk Option.none 0 0) (1 : Int) h2)
 (NilC p0 fun (b4 b5 : Nat) =>
 ∃ (s6 : Slc),
 cellsAt h2 b4 (b5 + 2) [Lf.slc s6] ∧
 Br (Decidable.decide (a2 > (↑(Slc.len s6) : Int))) (R (Slc.mk Option.none 0 0) (1 : Int) h2) (I3 h2))) ∧
 ∀ (h7 : Heap),
 I3 h7 →
 NilC p0 fun (b8 b9 : Nat) =>
 ∃ (s10 : Slc),
 cellsAt h7 b8 (b9 + 2) [Lf.slc s10] ∧
 (0 : Int) ≤ a2 ∧
 a2 ≤ (↑(Slc.len s10) : Int) ∧
 ((0 : Int) ≤
 if (↑(Slc.len (Slc.sub s10 1 (Int.toNat a2) (Slc.len s10) (Slc.cap s10))) : Int) < a3 then
 (↑(Slc.len (Slc.sub s10 1 (Int.toNat a2) (Slc.len s10) (Slc.cap s10))) : Int)
 else a3) ∧
 (if (↑(Slc.len (Slc.sub s10 1 (Int.toNat a2) (Slc.len s10) (Slc.cap s10))) : Int) < a3 then
 (↑(Slc.len (Slc.sub s10 1 (Int.toNat a2) (Slc.len s10) (Slc.cap s10))) : Int)
 else a3) ≤
 (↑(Slc.cap (Slc.sub s10 1 (Int.toNat a2) (Slc.len s10) (Slc.cap s10))) : Int) ∧
 Call Go.Proofs.Tryz.prog 47
 [VV.lf
 (Lf.slc
 (Slc.sub (Slc.sub s10 1 (Int.toNat a2) (Slc.len s10) (Slc.cap s10)) 1 0
 (Int.toNat
 (if (↑(Slc.len (Slc.sub s10 1 (Int.toNat a2) (Slc.len s10) (Slc.cap s10))) : Int) < a3 then
 (↑(Slc.len (Slc.sub s10 1 (Int.toNat a2) (Slc.len s10) (Slc.cap s10))) : Int)
 else a3))
 (Slc.cap (Slc.sub s10 1 (Int.toNat a2) (Slc.len s10) (Slc.cap s10)))))]
 h7 [VT.one LT.slc] fun (s11 : Slc) (h12 : Heap) => R s11 (0 : Int) h12)
theorem eq156 (a0 : Option (Nat × Nat)) (a1 : ByteArray) (a2 : Int) (a3 : Int) (h : Heap) (R : Slc → Int → Heap → Prop) : vc156 a0 a1 a2 a3 h R = vcFn Go.Proofs.Tryz.prog pl156 Go.Proofs.Tryz.f156 [.lf (.ptr a0), .lf (.str a1), .lf (.int .i64 a2), .lf (.int .i64 a3)] h [.one .slc, .one (.int .i64)] R := by kernel_rfl
theorem ok156 {a0 : Option (Nat × Nat)} {a1 : ByteArray} {a2 : Int} {a3 : Int} {h : Heap} {R : Slc → Int → Heap → Prop} (hv : vc156 a0 a1 a2 a3 h R) : Call Go.Proofs.Tryz.prog 156 [.lf (.ptr a0), .lf (.str a1), .lf (.int .i64 a2), .lf (.int .i64 a3)] h [.one .slc, .one (.int .i64)] R := call_eq hng hmix Go.Proofs.Tryz.func156 (eq156 a0 a1 a2 a3 h R) hv
/- 160: (*sediment.vfs.FS).List (f, name) -/
def pl160 : Plan := {
  blk := fun _ => none
  seq := fun _ => none
  loop := fun _ => none
  live := fun | 0 => some [0, 1] | 1 => some [6, 7] | 2 => some [6, 7, 15] | 3 => some [4, 5] | 4 => some [4, 5] | _ => none
  track := fun | _ => false
  draw := fun | _ => .done
  iter := fun | _ => none }
def vc160 (a0 : Option (Nat × Nat)) (a1 : ByteArray) (h : Heap) (R : Slc → Int → Heap → Prop) : Prop :=
 Call Go.Proofs.Tryz.prog 106 [VV.lf (Lf.ptr a0), VV.lf (Lf.str a1)] h [VT.one LT.ptr, VT.one (LT.int IntKind.i64)]
 fun (p0 : Option (Nat × Nat)) (i1 : Int) (h2 : Heap) =>
 Br (i1 != (0 : Int)) (R (Slc.mk Option.none 0 0) i1 h2)
 (NilC p0 fun (b3 b4 : Nat) =>
 ∃ (p5 : Option Nat),
 cellsAt h2 b3 (b4 + 0) [Lf.map p5] ∧
 Call Go.Proofs.Tryz.prog 108 [VV.lf (Lf.map p5)] h2 [VT.one LT.raw] fun (x6 : Value) (h7 : Heap) =>
 Call Go.Proofs.Tryz.prog 107 [VV.lf (Lf.raw x6)] h7 [VT.one LT.slc] fun (s8 : Slc) (h9 : Heap) => R s8 (0 : Int) h9)
theorem eq160 (a0 : Option (Nat × Nat)) (a1 : ByteArray) (h : Heap) (R : Slc → Int → Heap → Prop) : vc160 a0 a1 h R = vcFn Go.Proofs.Tryz.prog pl160 Go.Proofs.Tryz.f160 [.lf (.ptr a0), .lf (.str a1)] h [.one .slc, .one (.int .i64)] R := by kernel_rfl
theorem ok160 {a0 : Option (Nat × Nat)} {a1 : ByteArray} {h : Heap} {R : Slc → Int → Heap → Prop} (hv : vc160 a0 a1 h R) : Call Go.Proofs.Tryz.prog 160 [.lf (.ptr a0), .lf (.str a1)] h [.one .slc, .one (.int .i64)] R := call_eq hng hmix Go.Proofs.Tryz.func160 (eq160 a0 a1 h R) hv
/- 12: (*sediment.vfs.FS).Image (f) -/
def pl12 : Plan := {
  blk := fun _ => none
  seq := fun _ => none
  loop := fun _ => none
  live := fun | 0 => some [0] | 1 => some [0, 3] | 2 => some [0, 3, 4] | 3 => some [3] | 4 => some [2] | _ => none
  track := fun | _ => false
  draw := fun | _ => .done
  iter := fun | _ => none }
def vc12 (a0 : Option (Nat × Nat)) (h : Heap) (R : Slc → Heap → Prop) : Prop :=
 New 29 [Lf.slc (Slc.mk Option.none 0 0)] h fun (b0 : Nat) (h1 : Heap) =>
 NewM h1 fun (b2 : Nat) (h3 : Heap) =>
 New 96 [Lf.map Option.none] h3 fun (b4 : Nat) (h5 : Heap) =>
 StC h5 b4 0 [Lf.map (Option.some b2)] fun (h6 : Heap) =>
 Call Go.Proofs.Tryz.prog 45
 [VV.lf (Lf.ptr a0),
 VV.lf
 (Lf.raw
 (Value.func (Fn.func 46) #[]
 #[Value.pointer (Option.some (Addr.mk b4 0 Option.none)), Value.pointer (Option.some (Addr.mk b0 0 Option.none))]))]
 h6 [] fun (h7 : Heap) => ∃ (s8 : Slc), cellsAt h7 b0 0 [Lf.slc s8] ∧ R s8 h7
theorem eq12 (a0 : Option (Nat × Nat)) (h : Heap) (R : Slc → Heap → Prop) : vc12 a0 h R = vcFn Go.Proofs.Tryz.prog pl12 Go.Proofs.Tryz.f12 [.lf (.ptr a0)] h [.one .slc] R := by kernel_rfl
theorem ok12 {a0 : Option (Nat × Nat)} {h : Heap} {R : Slc → Heap → Prop} (hv : vc12 a0 h R) : Call Go.Proofs.Tryz.prog 12 [.lf (.ptr a0)] h [.one .slc] R := call_eq hng hmix Go.Proofs.Tryz.func12 (eq12 a0 h R) hv
/- 46: (*sediment.vfs.FS).Image$1 (path, x, first) · seq 2:  -/
def pl46 : Plan := {
  blk := fun _ => none
  seq := fun | 2 => some ⟨[], [], []⟩ | _ => none
  loop := fun _ => none
  live := fun | 0 => some [0, 1, 3, 4, 8] | 1 => some [0, 1, 3, 4] | 2 => some [] | _ => none
  track := fun | _ => false
  draw := fun | 2 => .still 0 (.still 1 (.still 2 (.still 3 (.still 4 (.still 5 (.still 7 (.still 9 (.still 10 (.still 11 (.mem 6 (.mem 8 (.still 12 (.mem 13 (.mem 14 (.mem 15 (.done)))))))))))))))) | _ => .done
  iter := fun | _ => none }
def vc46 (a0 : ByteArray) (a1 : Option (Nat × Nat)) (a2 : Bool) (f0 : Nat) (o0 : Nat) (f1 : Nat) (o1 : Nat) (h : Heap) (R : Heap → Prop) : Prop :=
 ∃ (I0 : Heap → Prop),
 Br a2 (∃ (p1 : Option Nat), cellsAt h f0 o0 [Lf.map p1] ∧ UpdC LT.ptr (VT.one LT.str) h p1 a1 [Lf.str a0] fun (h2 : Heap) => I0 h2) (I0 h) ∧
 ∀ (h3 : Heap),
 I0 h3 →
 ∃ (s4 : Slc),
 cellsAt h3 f1 o1 [Lf.slc s4] ∧
 NilC a1 fun (b5 b6 : Nat) =>
 ∃ (s7 : Slc),
 cellsAt h3 b5 (b6 + 2) [Lf.slc s7] ∧
 ∃ (p8 : Option Nat),
 cellsAt h3 f0 o0 [Lf.map p8] ∧
 ∃ (t9 : ByteArray),
 ∃ (c10 : Bool),
 LookR h3 LT.ptr (VT.one LT.str) [Lf.str (ByteArray.mk #[])] p8 a1 [Lf.str t9] c10 ∧
 Call Go.Proofs.Tryz.prog 47 [VV.lf (Lf.slc s7)] h3 [VT.one LT.slc] fun (s11 : Slc) (h12 : Heap) =>
 LookR h12 LT.ptr (VT.one LT.str) [Lf.str (ByteArray.mk #[])] p8 a1 [Lf.str t9] c10 ∧
 cellsAt h12 f0 o0 [Lf.map p8] ∧
 cellsAt h12 f1 o1 [Lf.slc s4] ∧
 Call Go.Proofs.Tryz.prog 48 [VV.lf (Lf.ptr a1)] h12 [VT.one (LT.int IntKind.i64)] fun (i13 : Int) (h14 : Heap) =>
 LookR h14 LT.ptr (VT.one LT.str) [Lf.str (ByteArray.mk #[])] p8 a1 [Lf.str t9] c10 ∧
 cellsAt h14 f0 o0 [Lf.map p8] ∧
 cellsAt h14 f1 o1 [Lf.slc s4] ∧
 New 34 [Lf.str a0, Lf.slc s11, Lf.int IntKind.i64 i13, Lf.str t9] h14 fun (b15 : Nat) (h16 : Heap) =>
 cellsAt h16 f1 o1 [Lf.slc s4] ∧
 AppC 34
 [Lf.str (ByteArray.mk #[]), Lf.slc (Slc.mk Option.none 0 0), Lf.int IntKind.i64 (0 : Int),
 Lf.str (ByteArray.mk #[])]
 4 64 s4 (Slc.mk (Option.some (b15, 0)) 1 1) h16 fun (s17 : Slc) (h18 : Heap) =>
 StC h18 f1 o1 [Lf.slc s17] fun (h19 : Heap) => R h19
theorem eq46 (a0 : ByteArray) (a1 : Option (Nat × Nat)) (a2 : Bool) (f0 : Nat) (o0 : Nat) (f1 : Nat) (o1 : Nat) (h : Heap) (R : Heap → Prop) : vc46 a0 a1 a2 f0 o0 f1 o1 h R = vcFn Go.Proofs.Tryz.prog pl46 Go.Proofs.Tryz.f46 [.lf (.str a0), .lf (.ptr a1), .lf (.bool a2), .lf (.ptr (some (f0, o0))), .lf (.ptr (some (f1, o1)))] h [] R := by kernel_rfl
theorem ok46 {a0 : ByteArray} {a1 : Option (Nat × Nat)} {a2 : Bool} {f0 : Nat} {o0 : Nat} {f1 : Nat} {o1 : Nat} {h : Heap} {R : Heap → Prop} (hv : vc46 a0 a1 a2 f0 o0 f1 o1 h R) : Call Go.Proofs.Tryz.prog 46 [.lf (.str a0), .lf (.ptr a1), .lf (.bool a2), .lf (.ptr (some (f0, o0))), .lf (.ptr (some (f1, o1)))] h [] R := call_eq hng hmix Go.Proofs.Tryz.func46 (eq46 a0 a1 a2 f0 o0 f1 o1 h R) hv
end Go.V.YtdeihieblljfcaaGreat
