/- This text proves a part of the laws of seat YtdeihieblljfcaaGreat, under no condition: F1e. -/
import Derived.Test.YtdeihieblljfcaaGreatPC
import Derived.Eval
import Derived.Test.YtdeihieblljfcaaGreatChecked
import Derived.Test.YtdeihieblljfcaaGreatPE
set_option linter.unusedVariables false
set_option maxRecDepth 100000
namespace Go.V.YtdeihieblljfcaaGreat
open Go Go.V
def pl67 : Plan := {
  blk := fun _ => none
  seq := fun _ => none
  loop := fun _ => none
  live := fun | 0 => some [0,1] | 1 => some [0,1,5,6] | 2 => some [0,1,5,6,16] | 3 => some [4] | 4 => some [0,1,23] | 5 => some [4] | 6 => some [0,1,7] | 7 => some [0,1,7,30] | 8 => some [4] | 9 => some [] | 10 => some [4] | _ => none
  track := fun | _ => false
  draw := fun | _ => .done
  iter := fun | _ => none }
def vc67 (a0 : Option (Nat × Nat)) (a1 : ByteArray) (h : Heap) (R : Int → Heap → Prop) : Prop :=
 Call Proofs.Tryz.prog 106 [.lf (.ptr a0), .lf (.str a1)] h [.one .ptr, .one (.int .i64)] fun (p0 : Option (Nat × Nat)) (i1 : Int) h2 => Br (i1 != 0) (R i1 h2) (NilC p0 fun b3 b4 => ∃ (p5 : Option Nat),
 cellsAt h2 b3 (b4 + 0) [.map p5] ∧ ∃ i6, LenR h2 p5 i6 ∧ Br (decide (i6 > 0)) (R 8 h2) (Call Proofs.Tryz.prog 55 [.lf (.ptr a0)] h2 [.one (.int .i64), .one .bool] fun (i7 : Int) (c8 : Bool) h9 => Br
 (i7 != 0) (R i7 h9) (NilC a0 fun b10 b11 => ∃ (p12 : Option Nat), cellsAt h9 b10 (b11 + 1) [.map p12] ∧ DelC .str (.one .ptr) h9 p12 a1 fun h13 => R 0 h13)))
theorem ok67 {a0 : Option (Nat × Nat)} {a1 : ByteArray} {h : Heap} {R : Int → Heap → Prop} (hv : vc67 a0 a1 h R) : Call Proofs.Tryz.prog 67 [.lf (.ptr a0), .lf (.str a1)] h [.one (.int .i64)] R := call_eq (pl := pl67) hng hmix Proofs.Tryz.func67 (by kernel_rfl) hv
def pl71 : Plan := {
  blk := fun _ => none
  seq := fun | 5 => some ⟨[(30, .one .bool)], [], []⟩ | _ => none
  loop := fun _ => none
  live := fun | 0 => some [0,1,2] | 1 => some [0,2,7,8] | 2 => some [0,2,7,8,18] | 3 => some [6] | 4 => some [0,2,7,30] | 5 => some [6] | 6 => some [2,7,9] | 7 => some [2,7,9,37] | 8 => some [6] | 9 => some [7] | 10 => some [] | 11 => some [6] | _ => none
  track := fun | _ => false
  draw := fun | _ => .done
  iter := fun | _ => none }
def vc71 (a0 : Option (Nat × Nat)) (a1 : ByteArray) (a2 : Int) (h : Heap) (R : Int → Heap → Prop) : Prop :=
 Call Proofs.Tryz.prog 53 [.lf (.ptr a0), .lf (.str a1)] h [.one .ptr, .one (.int .i64)] fun (p0 : Option (Nat × Nat)) (i1 : Int) h2 => Br (i1 != 0) (R i1 h2) (∃ (I3 : Bool → Heap → Prop), Br (decide
 (a2 < 0)) (I3 true h2) (NilC p0 fun b4 b5 => ∃ s6, cellsAt h2 b4 (b5 + 2) [.slc s6] ∧ I3 (decide (a2 > (↑(Slc.len s6) : Int))) h2) ∧ ∀ c7 h8, I3 c7 h8 → Br c7 (R 1 h8) (Call Proofs.Tryz.prog 55 [.lf
 (.ptr a0)] h8 [.one (.int .i64), .one .bool] fun (i9 : Int) (c10 : Bool) h11 => Br (i9 != 0) (R i9 h11) (NilC p0 fun b12 b13 => ∃ s14, cellsAt h11 b12 (b13 + 2) [.slc s14] ∧ 0 ≤ a2 ∧ a2 ≤ (↑(Slc.cap
 s14) : Int) ∧ Call Proofs.Tryz.prog 47 [.lf (.slc (Slc.sub s14 1 0 (Int.toNat a2) (Slc.cap s14)))] h11 [.one .slc] fun (s15 : Slc) h16 => NilC p0 fun b17 b18 => StC h16 b17 (b18 + 2) [.slc s15] fun h19
 => NilC p0 fun b20 b21 => ∃ s22, cellsAt h19 b20 (b21 + 2) [.slc s22] ∧ NilC p0 fun b23 b24 => StC h19 b23 (b24 + 0) [.slc s22] fun h25 => NilC p0 fun b26 b27 => StC h25 b26 (b27 + 1) [.slc (Slc.mk
 none 0 0)] fun h28 => R 0 h28)))
theorem ok71 {a0 : Option (Nat × Nat)} {a1 : ByteArray} {a2 : Int} {h : Heap} {R : Int → Heap → Prop} (hv : vc71 a0 a1 a2 h R) : Call Proofs.Tryz.prog 71 [.lf (.ptr a0), .lf (.str a1), .lf (.int .i64 a2)] h [.one (.int .i64)] R := call_eq (pl := pl71) hng hmix Proofs.Tryz.func71 (by kernel_rfl) hv
def pl83 : Plan := {
  blk := fun _ => none
  seq := fun | 7 => some ⟨[(35, .one .bool)], [], []⟩ | _ => none
  loop := fun _ => none
  live := fun | 0 => some [0,1,2] | 1 => some [2,7,8] | 2 => some [2,7,8,16] | 3 => some [6] | 4 => some [2,7,23] | 5 => some [6] | 6 => some [2,7,35] | 7 => some [6] | 8 => some [2,7] | 9 => some [7] | 10 => some [] | 11 => some [6] | _ => none
  track := fun | _ => false
  draw := fun | 9 => .still 0 (.still 1 (.still 2 (.still 3 (.still 4 (.still 5 (.still 6 (.still 7 (.still 8 (.still 9 (.still 10 (.still 11 (.still 12 (.mem 13 (.done)))))))))))))) | _ => .done
  iter := fun | _ => none }
def vc83 (a0 : Option (Nat × Nat)) (a1 : ByteArray) (a2 : Int) (h : Heap) (R : Int → Heap → Prop) : Prop :=
 Call Proofs.Tryz.prog 53 [VV.lf (Lf.ptr a0), VV.lf (Lf.str a1)] h [VT.one LT.ptr, VT.one (LT.int IntKind.i64)]
 fun (p0 : Option (Nat × Nat)) (i1 : Int) (h2 : Heap) =>
 Br (i1 != (0 : Int)) (R i1 h2)
 (NilC p0 fun (b3 b4 : Nat) =>
 ∃ (s5 : Slc),
 cellsAt h2 b3 (b4 + 1) [Lf.slc s5] ∧
 Br (Decidable.decide ((↑(Slc.len s5) : Int) > (0 : Int))) (R (8 : Int) h2)
 (∃ (I6 : Bool → Heap → Prop),
 Br (Decidable.decide (a2 < (0 : Int))) (I6 Bool.true h2)
 (NilC p0 fun (b7 b8 : Nat) =>
 ∃ (s9 : Slc), cellsAt h2 b7 (b8 + 2) [Lf.slc s9] ∧ I6 (Decidable.decide (a2 ≥ IntKind.wrap IntKind.i64 ((8 : Int) * (↑(Slc.len s9) : Int)))) h2) ∧
 ∀ (c10 : Bool) (h11 : Heap),
 I6 c10 h11 →
 Br c10 (R (1 : Int) h11)
 (NilC p0 fun (b12 b13 : Nat) =>
 ∃ (s14 : Slc),
 cellsAt h11 b12 (b13 + 2) [Lf.slc s14] ∧
 Call Proofs.Tryz.prog 47 [VV.lf (Lf.slc s14)] h11 [VT.one LT.slc] fun (s15 : Slc) (h16 : Heap) =>
 NilC p0 fun (b17 b18 : Nat) =>
 StC h16 b17 (b18 + 2) [Lf.slc s15] fun (h19 : Heap) =>
 NilC p0 fun (b20 b21 : Nat) =>
 ∃ (s22 : Slc),
 cellsAt h19 b20 (b21 + 2) [Lf.slc s22] ∧
 ((8 : Int) = (0 : Int) → False) ∧
 IxC s22 (IntKind.wrap IntKind.i64 (Int.tdiv a2 (8 : Int))) 1 fun (b23 b24 : Nat) =>
 ∃ (i25 : Int),
 cellsAt h19 b23 b24 [Lf.int IntKind.u8 i25] ∧
 ((8 : Int) = (0 : Int) → False) ∧
 (0 : Int) ≤ Int.tmod a2 (8 : Int) ∧
 IxC s22 (IntKind.wrap IntKind.i64 (Int.tdiv a2 (8 : Int))) 1 fun (b26 b27 : Nat) =>
 StC h19 b26 b27
 [Lf.int IntKind.u8 (bitop IntKind.u8 BinOp.xor i25 (shiftL IntKind.u8 (1 : Int) (Int.tmod a2 (8 : Int))))]
 fun (h28 : Heap) =>
 NilC p0 fun (b29 b30 : Nat) =>
 ∃ (s31 : Slc),
 cellsAt h28 b29 (b30 + 2) [Lf.slc s31] ∧
 NilC p0 fun (b32 b33 : Nat) => StC h28 b32 (b33 + 0) [Lf.slc s31] fun (h34 : Heap) => R (0 : Int) h34)))
theorem ok83 {a0 : Option (Nat × Nat)} {a1 : ByteArray} {a2 : Int} {h : Heap} {R : Int → Heap → Prop} (hv : vc83 a0 a1 a2 h R) : Call Proofs.Tryz.prog 83 [.lf (.ptr a0), .lf (.str a1), .lf (.int .i64 a2)] h [.one (.int .i64)] R := call_eq (pl := pl83) hng hmix Proofs.Tryz.func83 (by kernel_rfl) hv
def pl42 : Plan := {
  blk := fun _ => none
  seq := fun _ => none
  loop := fun _ => none
  live := fun | 0 => some [] | _ => none
  track := fun | _ => false
  draw := fun | _ => .done
  iter := fun | _ => none }
def vc42 (a0 : Option (Nat × Nat)) (a1 : Int) (a2 : Int) (h : Heap) (R : Heap → Prop) : Prop :=
 NilC a0 fun b0 b1 => StC h b0 (b1 + 2) [.int .i64 a1, .int .i64 (if 0 > a2 then 0 else a2), .int .i64 0] fun h2 => R h2
theorem ok42 {a0 : Option (Nat × Nat)} {a1 : Int} {a2 : Int} {h : Heap} {R : Heap → Prop} (hv : vc42 a0 a1 a2 h R) : Call Proofs.Tryz.prog 42 [.lf (.ptr a0), .lf (.int .i64 a1), .lf (.int .i64 a2)] h [] R := call_eq (pl := pl42) hng hmix Proofs.Tryz.func42 (by kernel_rfl) hv
def pl44 : Plan := {
  blk := fun _ => none
  seq := fun _ => none
  loop := fun _ => none
  live := fun | 0 => some [0] | 1 => some [2] | _ => none
  track := fun | _ => false
  draw := fun | _ => .done
  iter := fun | _ => none }
def vc44 (a0 : Option (Nat × Nat)) (h : Heap) (R : Slc → Heap → Prop) : Prop :=
 Call Proofs.Tryz.prog 50 [.lf (.ptr a0)] h [.one .slc] fun (s0 : Slc) h1 => R s0 h1
theorem ok44 {a0 : Option (Nat × Nat)} {h : Heap} {R : Slc → Heap → Prop} (hv : vc44 a0 h R) : Call Proofs.Tryz.prog 44 [.lf (.ptr a0)] h [.one .slc] R := call_eq (pl := pl44) hng hmix Proofs.Tryz.func44 (by kernel_rfl) hv
def pl91 : Plan := {
  blk := fun _ => none
  seq := fun _ => none
  loop := fun _ => none
  live := fun | 0 => some [0,1] | 1 => some [6,7] | 2 => some [6,7,15] | 3 => some [4,5] | 4 => some [4,5] | _ => none
  track := fun | _ => false
  draw := fun | _ => .done
  iter := fun | _ => none }
def vc91 (a0 : Option (Nat × Nat)) (a1 : ByteArray) (h : Heap) (R : Int → Int → Heap → Prop) : Prop :=
 Call Proofs.Tryz.prog 106 [.lf (.ptr a0), .lf (.str a1)] h [.one .ptr, .one (.int .i64)] fun (p0 : Option (Nat × Nat)) (i1 : Int) h2 => Br (i1 != 0) (R 0 i1 h2) (NilC p0 fun b3 b4 => ∃ s5, cellsAt h2
 b3 (b4 + 1) [.slc s5] ∧ R (↑(Slc.len s5) : Int) 0 h2)
theorem ok91 {a0 : Option (Nat × Nat)} {a1 : ByteArray} {h : Heap} {R : Int → Int → Heap → Prop} (hv : vc91 a0 a1 h R) : Call Proofs.Tryz.prog 91 [.lf (.ptr a0), .lf (.str a1)] h [.one (.int .i64), .one (.int .i64)] R := call_eq (pl := pl91) hng hmix Proofs.Tryz.func91 (by kernel_rfl) hv
def pl158 : Plan := {
  blk := fun _ => none
  seq := fun _ => none
  loop := fun _ => none
  live := fun | 0 => some [0,1] | 1 => some [6,7] | 2 => some [6,7,15] | 3 => some [4,5] | 4 => some [4,5] | _ => none
  track := fun | _ => false
  draw := fun | _ => .done
  iter := fun | _ => none }
def vc158 (a0 : Option (Nat × Nat)) (a1 : ByteArray) (h : Heap) (R : Int → Int → Heap → Prop) : Prop :=
 Call Proofs.Tryz.prog 53 [.lf (.ptr a0), .lf (.str a1)] h [.one .ptr, .one (.int .i64)] fun (p0 : Option (Nat × Nat)) (i1 : Int) h2 => Br (i1 != 0) (R 0 i1 h2) (Call Proofs.Tryz.prog 48 [.lf (.ptr p0)]
 h2 [.one (.int .i64)] fun (i3 : Int) h4 => R i3 0 h4)
theorem ok158 {a0 : Option (Nat × Nat)} {a1 : ByteArray} {h : Heap} {R : Int → Int → Heap → Prop} (hv : vc158 a0 a1 h R) : Call Proofs.Tryz.prog 158 [.lf (.ptr a0), .lf (.str a1)] h [.one (.int .i64), .one (.int .i64)] R := call_eq (pl := pl158) hng hmix Proofs.Tryz.func158 (by kernel_rfl) hv
def pl155 : Plan := {
  blk := fun _ => none
  seq := fun _ => none
  loop := fun _ => none
  live := fun | 0 => some [0,1] | 1 => some [6,7] | 2 => some [6,7,15] | 3 => some [4,5] | 4 => some [4,5] | _ => none
  track := fun | _ => false
  draw := fun | _ => .done
  iter := fun | _ => none }
def vc155 (a0 : Option (Nat × Nat)) (a1 : ByteArray) (h : Heap) (R : Int → Int → Heap → Prop) : Prop :=
 Call Proofs.Tryz.prog 53 [.lf (.ptr a0), .lf (.str a1)] h [.one .ptr, .one (.int .i64)] fun (p0 : Option (Nat × Nat)) (i1 : Int) h2 => Br (i1 != 0) (R 0 i1 h2) (NilC p0 fun b3 b4 => ∃ s5, cellsAt h2 b3
 (b4 + 2) [.slc s5] ∧ R (↑(Slc.len s5) : Int) 0 h2)
theorem ok155 {a0 : Option (Nat × Nat)} {a1 : ByteArray} {h : Heap} {R : Int → Int → Heap → Prop} (hv : vc155 a0 a1 h R) : Call Proofs.Tryz.prog 155 [.lf (.ptr a0), .lf (.str a1)] h [.one (.int .i64), .one (.int .i64)] R := call_eq (pl := pl155) hng hmix Proofs.Tryz.func155 (by kernel_rfl) hv
def pl156 : Plan := {
  blk := fun _ => none
  seq := fun | 6 => some ⟨[], [], []⟩ | _ => none
  loop := fun _ => none
  live := fun | 0 => some [0,1,2,3] | 1 => some [2,3,10,11] | 2 => some [2,3,10,11,20] | 3 => some [8,9] | 4 => some [2,3,10,36] | 5 => some [8,9] | 6 => some [3,12] | 7 => some [8,9] | _ => none
  track := fun | _ => false
  draw := fun | _ => .done
  iter := fun | _ => none }
def vc156 (a0 : Option (Nat × Nat)) (a1 : ByteArray) (a2 : Int) (a3 : Int) (h : Heap) (R : Slc → Int → Heap → Prop) : Prop :=
 Call Proofs.Tryz.prog 53 [.lf (.ptr a0), .lf (.str a1)] h [.one .ptr, .one (.int .i64)] fun (p0 : Option (Nat × Nat)) (i1 : Int) h2 => Br (i1 != 0) (R (Slc.mk none 0 0) i1 h2) (∃ (I3 : Heap → Prop), Br
 (decide (a3 < 0)) (R (Slc.mk none 0 0) 1 h2) (Br (decide (a2 < 0)) (R (Slc.mk none 0 0) 1 h2) (NilC p0 fun b4 b5 => ∃ s6, cellsAt h2 b4 (b5 + 2) [.slc s6] ∧ Br (decide (a2 > (↑(Slc.len s6) : Int))) (R
 (Slc.mk none 0 0) 1 h2) (I3 h2))) ∧ ∀ h7, I3 h7 → NilC p0 fun b8 b9 => ∃ s10, cellsAt h7 b8 (b9 + 2) [.slc s10] ∧ 0 ≤ a2 ∧ a2 ≤ (↑(Slc.len s10) : Int) ∧ (0 ≤ if (↑(Slc.len (Slc.sub s10 1 (Int.toNat a2)
 (Slc.len s10) (Slc.cap s10))) : Int) < a3 then (↑(Slc.len (Slc.sub s10 1 (Int.toNat a2) (Slc.len s10) (Slc.cap s10))) : Int) else a3) ∧ (if (↑(Slc.len (Slc.sub s10 1 (Int.toNat a2) (Slc.len s10)
 (Slc.cap s10))) : Int) < a3 then (↑(Slc.len (Slc.sub s10 1 (Int.toNat a2) (Slc.len s10) (Slc.cap s10))) : Int) else a3) ≤ (↑(Slc.cap (Slc.sub s10 1 (Int.toNat a2) (Slc.len s10) (Slc.cap s10))) : Int) ∧
 Call Proofs.Tryz.prog 47 [.lf (.slc (Slc.sub (Slc.sub s10 1 (Int.toNat a2) (Slc.len s10) (Slc.cap s10)) 1 0 (Int.toNat (if (↑(Slc.len (Slc.sub s10 1 (Int.toNat a2) (Slc.len s10) (Slc.cap s10))) : Int)
 < a3 then (↑(Slc.len (Slc.sub s10 1 (Int.toNat a2) (Slc.len s10) (Slc.cap s10))) : Int) else a3)) (Slc.cap (Slc.sub s10 1 (Int.toNat a2) (Slc.len s10) (Slc.cap s10)))))] h7 [.one .slc] fun (s11 : Slc)
 h12 => R s11 0 h12)
theorem ok156 {a0 : Option (Nat × Nat)} {a1 : ByteArray} {a2 : Int} {a3 : Int} {h : Heap} {R : Slc → Int → Heap → Prop} (hv : vc156 a0 a1 a2 a3 h R) : Call Proofs.Tryz.prog 156 [.lf (.ptr a0), .lf (.str a1), .lf (.int .i64 a2), .lf (.int .i64 a3)] h [.one .slc, .one (.int .i64)] R := call_eq (pl := pl156) hng hmix Proofs.Tryz.func156 (by kernel_rfl) hv
def pl160 : Plan := {
  blk := fun _ => none
  seq := fun _ => none
  loop := fun _ => none
  live := fun | 0 => some [0,1] | 1 => some [6,7] | 2 => some [6,7,15] | 3 => some [4,5] | 4 => some [4,5] | _ => none
  track := fun | _ => false
  draw := fun | _ => .done
  iter := fun | _ => none }
def vc160 (a0 : Option (Nat × Nat)) (a1 : ByteArray) (h : Heap) (R : Slc → Int → Heap → Prop) : Prop :=
 Call Proofs.Tryz.prog 106 [.lf (.ptr a0), .lf (.str a1)] h [.one .ptr, .one (.int .i64)] fun (p0 : Option (Nat × Nat)) (i1 : Int) h2 => Br (i1 != 0) (R (Slc.mk none 0 0) i1 h2) (NilC p0 fun b3 b4 => ∃
 (p5 : Option Nat), cellsAt h2 b3 (b4 + 0) [.map p5] ∧ Call Proofs.Tryz.prog 108 [.lf (.map p5)] h2 [.one .raw] fun (x6 : Value) (h7 : Heap) => Call Proofs.Tryz.prog 107 [.lf (.raw x6)] h7 [.one .slc]
 fun (s8 : Slc) h9 => R s8 0 h9)
theorem ok160 {a0 : Option (Nat × Nat)} {a1 : ByteArray} {h : Heap} {R : Slc → Int → Heap → Prop} (hv : vc160 a0 a1 h R) : Call Proofs.Tryz.prog 160 [.lf (.ptr a0), .lf (.str a1)] h [.one .slc, .one (.int .i64)] R := call_eq (pl := pl160) hng hmix Proofs.Tryz.func160 (by kernel_rfl) hv
def pl12 : Plan := {
  blk := fun _ => none
  seq := fun _ => none
  loop := fun _ => none
  live := fun | 0 => some [0] | 1 => some [0,3] | 2 => some [0,3,4] | 3 => some [3] | 4 => some [2] | _ => none
  track := fun | _ => false
  draw := fun | _ => .done
  iter := fun | _ => none }
def vc12 (a0 : Option (Nat × Nat)) (h : Heap) (R : Slc → Heap → Prop) : Prop :=
 New 29 [.slc (Slc.mk none 0 0)] h fun b0 h1 => NewM h1 fun b2 h3 => New 96 [.map none] h3 fun b4 h5 => StC h5 b4 0 [.map (some b2)] fun h6 => Call Proofs.Tryz.prog 45 [.lf (.ptr a0), .lf (.raw
 (Value.func (Fn.func 46) #[] #[Value.pointer (some (Addr.mk b4 0 none)), Value.pointer (some (Addr.mk b0 0 none))]))] h6 [] fun h7 => ∃ s8, cellsAt h7 b0 0 [.slc s8] ∧ R s8 h7
theorem ok12 {a0 : Option (Nat × Nat)} {h : Heap} {R : Slc → Heap → Prop} (hv : vc12 a0 h R) : Call Proofs.Tryz.prog 12 [.lf (.ptr a0)] h [.one .slc] R := call_eq (pl := pl12) hng hmix Proofs.Tryz.func12 (by kernel_rfl) hv
def pl46 : Plan := {
  blk := fun _ => none
  seq := fun | 2 => some ⟨[], [], []⟩ | _ => none
  loop := fun _ => none
  live := fun | 0 => some [0,1,3,4,8] | 1 => some [0,1,3,4] | 2 => some [] | _ => none
  track := fun | _ => false
  draw := fun | 2 => .still 0 (.still 1 (.still 2 (.still 3 (.still 4 (.still 5 (.still 7 (.still 9 (.still 10 (.still 11 (.mem 6 (.mem 8 (.still 12 (.mem 13 (.mem 14 (.mem 15 (.done)))))))))))))))) | _ => .done
  iter := fun | _ => none }
def vc46 (a0 : ByteArray) (a1 : Option (Nat × Nat)) (a2 : Bool) (f0 : Nat) (o0 : Nat) (f1 : Nat) (o1 : Nat) (h : Heap) (R : Heap → Prop) : Prop :=
 ∃ (I0 : Heap → Prop), Br a2 (∃ (p1 : Option Nat), cellsAt h f0 o0 [.map p1] ∧ UpdC .ptr (.one .str) h p1 a1 [.str a0] fun h2 => I0 h2) (I0 h) ∧ ∀ h3, I0 h3 → ∃ s4, cellsAt h3 f1 o1 [.slc s4] ∧ NilC a1
 fun b5 b6 => ∃ s7, cellsAt h3 b5 (b6 + 2) [.slc s7] ∧ ∃ (p8 : Option Nat), cellsAt h3 f0 o0 [.map p8] ∧ ∃ (t9 : ByteArray), ∃ c10, LookR h3 .ptr (.one .str) [.str (ByteArray.mk #[])] p8 a1 [.str t9]
 c10 ∧ Call Proofs.Tryz.prog 47 [.lf (.slc s7)] h3 [.one .slc] fun (s11 : Slc) h12 => LookR h12 .ptr (.one .str) [.str (ByteArray.mk #[])] p8 a1 [.str t9] c10 ∧ cellsAt h12 f0 o0 [.map p8] ∧ cellsAt h12
 f1 o1 [.slc s4] ∧ Call Proofs.Tryz.prog 48 [.lf (.ptr a1)] h12 [.one (.int .i64)] fun (i13 : Int) h14 => LookR h14 .ptr (.one .str) [.str (ByteArray.mk #[])] p8 a1 [.str t9] c10 ∧ cellsAt h14 f0 o0
 [.map p8] ∧ cellsAt h14 f1 o1 [.slc s4] ∧ New 34 [.str a0, .slc s11, .int .i64 i13, .str t9] h14 fun b15 h16 => cellsAt h16 f1 o1 [.slc s4] ∧ AppC 34 [.str (ByteArray.mk #[]), .slc (Slc.mk none 0 0),
 .int .i64 0, .str (ByteArray.mk #[])] 4 64 s4 (Slc.mk (some (b15, 0)) 1 1) h16 fun (s17 : Slc) h18 => StC h18 f1 o1 [.slc s17] fun h19 => R h19
theorem ok46 {a0 : ByteArray} {a1 : Option (Nat × Nat)} {a2 : Bool} {f0 : Nat} {o0 : Nat} {f1 : Nat} {o1 : Nat} {h : Heap} {R : Heap → Prop} (hv : vc46 a0 a1 a2 f0 o0 f1 o1 h R) : Call Proofs.Tryz.prog 46 [.lf (.str a0), .lf (.ptr a1), .lf (.bool a2), .lf (.ptr (some (f0, o0))), .lf (.ptr (some (f1, o1)))] h [] R := call_eq (pl := pl46) hng hmix Proofs.Tryz.func46 (by kernel_rfl) hv
def pl26 : Plan := {
  blk := fun _ => none
  seq := fun _ => none
  loop := fun | 5 => some ⟨[], [], []⟩ | 9 => some ⟨[(51, .one (.int .i64))], [], []⟩ | _ => none
  live := fun | 0 => some [0] | 1 => some [0,3] | 2 => some [0,3,4] | 3 => some [0,3,5] | 4 => some [3,5,32] | 5 => some [3,5,32,34] | 6 => some [3,5,6,7,32] | 7 => some [3,5,6,7,8,32] | 8 => some [3,5,6,8,32,49,50,51] | 9 => some [3,5,6,8,32,49,50,51,52] | 10 => some [3,5,6,8,10,32,49,50,51] | 11 => some [3,5,6,8,32,49,50,51] | 12 => some [3,5,6,8,32,49,50,51] | 13 => some [3,5,32] | 14 => some [2] | _ => none
  track := fun | _ => false
  draw := fun | 1 => .still 0 (.still 1 (.still 2 (.still 3 (.still 5 (.still 6 (.still 7 (.still 8 (.still 9 (.still 10 (.still 11 (.still 12 (.mem 4 (.still 13 (.mem 14 (.still 15 (.done)))))))))))))))) | 11 => .still 0 (.still 1 (.still 2 (.still 3 (.still 4 (.still 5 (.still 6 (.mem 7 (.mem 8 (.mem 9 (.still 10 (.still 11 (.mem 12 (.done))))))))))))) | _ => .done
  iter := fun | 32 => some 107 | _ => none }
def vc26 (a0 : Option (Nat × Nat)) (h : Heap) (R : Option (Nat × Nat) → Heap → Prop) : Prop :=
 NilC a0 fun b0 b1 => ∃ i2, cellsAt h b0 (b1 + 0) [.int .i64 i2] ∧ NilC a0 fun b3 b4 => ∃ i5, ∃ i6, ∃ i7, cellsAt h b3 (b4 + 2) [.int .i64 i5, .int .i64 i6, .int .i64 i7] ∧ NilC a0 fun b8 b9 => ∃ i10, ∃
 i11, ∃ i12, cellsAt h b8 (b9 + 5) [.int .i64 i10, .int .i64 i11, .int .i64 i12] ∧ NewM h fun b13 h14 => cellsAt h14 b8 (b9 + 5) [.int .i64 i10, .int .i64 i11, .int .i64 i12] ∧ cellsAt h14 b3 (b4 + 2)
 [.int .i64 i5, .int .i64 i6, .int .i64 i7] ∧ cellsAt h14 b0 (b1 + 0) [.int .i64 i2] ∧ New 111 [.int .i64 i2, .map (some b13), .int .i64 i5, .int .i64 i6, .int .i64 i7, .int .i64 i10, .int .i64 i11,
 .int .i64 i12] h14 fun b15 h16 => NewM h16 fun b17 h18 => New 136 [.map none] h18 fun b19 h20 => StC h20 b19 0 [.map (some b17)] fun h21 => NilC a0 fun b22 b23 => ∃ (p24 : Option Nat), cellsAt h21 b22
 (b23 + 1) [.map p24] ∧ RngC h21 p24 fun b25 h26 => ∃ (I27 : Heap → Nat → Prop), (∃ b28, I27 h26 b28) ∧ ∀ h29 b30, I27 h29 b30 → NextC .str (.one .ptr) h29 b25 (fun h31 => R (some (b15, 0)) h31) fun
 (t32 : ByteArray) (x33 : List Lf) h34 => ∃ (t35 : ByteArray), ∃ (p36 : Option (Nat × Nat)), EntryR h34 b25 .str (.one .ptr) t35 [.ptr p36] ∧ NilC p36 fun b37 b38 => ∃ (p39 : Option Nat), cellsAt h34
 b37 (b38 + 0) [.map p39] ∧ CallV Proofs.Tryz.prog (Value.func (Fn.func 64) #[] #[Value.pointer (some (Addr.mk b19 0 none))]) [.lf (.map p39)] h34 [.one .map] fun (p40 : Option Nat) h41 => New 116 [.map
 p40, .slc (Slc.mk none 0 0)] h41 fun b42 h43 => NilC p36 fun b44 b45 => ∃ s46, cellsAt h43 b44 (b45 + 1) [.slc s46] ∧ ∃ (I47 : Int → Heap → Nat → Prop), (∃ b48, I47 0 h43 b48) ∧ ∀ i49 h50 b51, I47 i49
 h50 b51 → Br (decide (i49 < (↑(Slc.len s46) : Int))) (IxC s46 i49 1 fun b52 b53 => ∃ (p54 : Option Nat), cellsAt h50 b52 b53 [.map p54] ∧ ∃ s55, cellsAt h50 b42 1 [.slc s55] ∧ CallV Proofs.Tryz.prog
 (Value.func (Fn.func 64) #[] #[Value.pointer (some (Addr.mk b19 0 none))]) [.lf (.map p54)] h50 [.one .map] fun (p56 : Option Nat) h57 => cellsAt h57 b42 1 [.slc s55] ∧ New 113 [.map p56] h57 fun b58
 h59 => cellsAt h59 b42 1 [.slc s55] ∧ AppC 113 [.map none] 1 8 s55 (Slc.mk (some (b58, 0)) 1 1) h59 fun (s60 : Slc) h61 => StC h61 b42 1 [.slc s60] fun h62 => ∃ b63, b63 < b51 ∧ I47 (IntKind.wrap .i64
 (i49 + 1)) h62 b63) (∃ (p64 : Option Nat), cellsAt h50 b15 1 [.map p64] ∧ UpdC .str (.one .ptr) h50 p64 t35 [.ptr (some (b42, 0))] fun h65 => ∃ b66, b66 < b30 ∧ I27 h65 b66)
theorem ok26 {a0 : Option (Nat × Nat)} {h : Heap} {R : Option (Nat × Nat) → Heap → Prop} (hv : vc26 a0 h R) : Call Proofs.Tryz.prog 26 [.lf (.ptr a0)] h [.one .ptr] R := call_eq (pl := pl26) hng hmix Proofs.Tryz.func26 (by kernel_rfl) hv
def pl64 : Plan := {
  blk := fun _ => none
  seq := fun _ => none
  loop := fun | 3 => some ⟨[], [], []⟩ | _ => none
  live := fun | 0 => some [0,1] | 1 => some [0,1,4] | 2 => some [1,4,9] | 3 => some [1,4,9,11] | 4 => some [1,4,5,6,9] | 5 => some [1,4,5,6,9,18] | 6 => some [1,4,5,6,9] | 7 => some [1,4,9] | 8 => some [3] | _ => none
  track := fun | _ => false
  draw := fun | 6 => .still 0 (.still 1 (.still 2 (.still 3 (.still 4 (.still 5 (.still 6 (.still 7 (.still 8 (.still 9 (.still 11 (.still 12 (.still 13 (.still 14 (.mem 10 (.still 15 (.mem 16 (.mem 17 (.done)))))))))))))))))) | _ => .done
  iter := fun | 9 => some 113 | _ => none }
def vc64 (a0 : Option Nat) (f0 : Nat) (o0 : Nat) (h : Heap) (R : Option Nat → Heap → Prop) : Prop :=
 NewM h fun b0 h1 => RngC h1 a0 fun b2 h3 => ∃ (I4 : Heap → Nat → Prop), (∃ b5, I4 h3 b5) ∧ ∀ h6 b7, I4 h6 b7 → NextC .str (.one .ptr) h6 b2 (fun h8 => R (some b0) h8) fun (t9 : ByteArray) (x10 : List
 Lf) h11 => ∃ (t12 : ByteArray), ∃ (p13 : Option (Nat × Nat)), EntryR h11 b2 .str (.one .ptr) t12 [.ptr p13] ∧ ∃ (p14 : Option Nat), cellsAt h11 f0 o0 [.map p14] ∧ ∃ (p15 : Option (Nat × Nat)), ∃ c16,
 LookR h11 .ptr (.one .ptr) [.ptr none] p14 p13 [.ptr p15] c16 ∧ Br (Option.isNone p15) (∃ (p17 : Option Nat), cellsAt h11 f0 o0 [.map p17] ∧ NilC p13 fun b18 b19 => ∃ s20, cellsAt h11 b18 (b19 + 0)
 [.slc s20] ∧ NilC p13 fun b21 b22 => ∃ s23, cellsAt h11 b21 (b22 + 1) [.slc s23] ∧ NilC p13 fun b24 b25 => ∃ s26, cellsAt h11 b24 (b25 + 2) [.slc s26] ∧ Call Proofs.Tryz.prog 65 [.lf (.slc s23)] h11
 [.one .slc] fun (s27 : Slc) h28 => cellsAt h28 b24 (b25 + 2) [.slc s26] ∧ cellsAt h28 b18 (b19 + 0) [.slc s20] ∧ cellsAt h28 f0 o0 [.map p17] ∧ New 102 [.slc s20, .slc s27, .slc s26] h28 fun b29 h30 =>
 cellsAt h30 f0 o0 [.map p17] ∧ UpdC .ptr (.one .ptr) h30 p17 p13 [.ptr (some (b29, 0))] fun h31 => ∃ (p32 : Option Nat), cellsAt h31 f0 o0 [.map p32] ∧ ∃ (p33 : Option (Nat × Nat)), ∃ c34, LookR h31
 .ptr (.one .ptr) [.ptr none] p32 p13 [.ptr p33] c34 ∧ UpdC .str (.one .ptr) h31 (some b0) t12 [.ptr p33] fun h35 => ∃ b36, b36 < b7 ∧ I4 h35 b36) (∃ (p37 : Option Nat), cellsAt h11 f0 o0 [.map p37] ∧ ∃
 (p38 : Option (Nat × Nat)), ∃ c39, LookR h11 .ptr (.one .ptr) [.ptr none] p37 p13 [.ptr p38] c39 ∧ UpdC .str (.one .ptr) h11 (some b0) t12 [.ptr p38] fun h40 => ∃ b41, b41 < b7 ∧ I4 h40 b41)
theorem ok64 {a0 : Option Nat} {f0 : Nat} {o0 : Nat} {h : Heap} {R : Option Nat → Heap → Prop} (hv : vc64 a0 f0 o0 h R) : Call Proofs.Tryz.prog 64 [.lf (.map a0), .lf (.ptr (some (f0, o0)))] h [.one .map] R := call_eq (pl := pl64) hng hmix Proofs.Tryz.func64 (by kernel_rfl) hv
def pl65 : Plan := {
  blk := fun _ => none
  seq := fun _ => none
  loop := fun _ => none
  live := fun | 0 => some [0] | 1 => some [0,4] | 2 => some [2] | 3 => some [2] | _ => none
  track := fun | _ => false
  draw := fun | _ => .done
  iter := fun | _ => none }
def vc65 (a0 : Slc) (h : Heap) (R : Slc → Heap → Prop) : Prop :=
 Br (Option.isNone (Slc.a a0)) (R (Slc.mk none 0 0) h) (New 139 [] h fun b0 h1 => AppC 139 [.int .i64 0, .slc (Slc.mk none 0 0)] 2 32 (Slc.mk (some (b0, 0)) 0 0) a0 h1 fun (s2 : Slc) h3 => R s2 h3)
theorem ok65 {a0 : Slc} {h : Heap} {R : Slc → Heap → Prop} (hv : vc65 a0 h R) : Call Proofs.Tryz.prog 65 [.lf (.slc a0)] h [.one .slc] R := call_eq (pl := pl65) hng hmix Proofs.Tryz.func65 (by kernel_rfl) hv
end Go.V.YtdeihieblljfcaaGreat
