/- This text proves a part of the laws of seat YtdeihieblljfcaaGreat, under no condition: F1h. -/
import Derived.Test.YtdeihieblljfcaaGreatPC
import Derived.Eval
import Derived.Test.YtdeihieblljfcaaGreatChecked
import Derived.Test.YtdeihieblljfcaaGreatPE
set_option linter.unusedVariables false
set_option maxRecDepth 100000
namespace Go.V.YtdeihieblljfcaaGreat
open Go Go.V
def pl136 : Plan := {
  blk := fun _ => none
  seq := fun | 6 => some ⟨[(39, .one .bool)], [], []⟩ | 9 => some ⟨[(66, .one .bool)], [], []⟩ | 13 => some ⟨[(3, .one .slc)], [], []⟩ | 14 => some ⟨[(87, .one .bool)], [], []⟩ | 17 => some ⟨[], [], []⟩ | _ => none
  loop := fun _ => none
  live := fun | 0 => some [0,1,2,3] | 1 => some [0,2,3,9,10] | 2 => some [0,2,3,9,10,22] | 3 => some [8] | 4 => some [0,2,3,9,11] | 5 => some [0,2,3,9,11,39] | 6 => some [8] | 7 => some [0,2,3,9,12] | 8 => some [0,2,3,9,66] | 9 => some [8] | 10 => some [0,2,3,9,10,13] | 11 => some [0,2,3,9,10,13,72] | 12 => some [0,2,3,9,10,13] | 13 => some [0,2,3,9,10,87] | 14 => some [0,2,3,9,10,14] | 15 => some [0,9,10,14] | 16 => some [10] | 17 => some [8] | _ => none
  track := fun | 14 => true | _ => false
  draw := fun | 8 => .still 0 (.still 1 (.still 2 (.still 3 (.still 4 (.still 5 (.still 6 (.still 7 (.still 8 (.still 9 (.still 10 (.still 12 (.still 13 (.still 14 (.still 15 (.still 16 (.still 17 (.mem 11 (.still 18 (.still 19 (.still 20 (.done))))))))))))))))))))) | _ => .done
  iter := fun | _ => none }
def vc136 (a0 : Option (Nat × Nat)) (a1 : ByteArray) (a2 : Int) (a3 : Slc) (h : Heap) (R : Int → Heap → Prop) : Prop :=
 Call Proofs.Tryz.prog 138 [VV.lf (Lf.ptr a0), VV.lf (Lf.str a1)] h [VT.one (LT.int IntKind.i64), VT.one (LT.int IntKind.i64)]
 fun (i0 i1 : Int) (h2 : Heap) =>
 Br (i1 != (0 : Int)) (R i1 h2)
 (NilC a0 fun (b3 b4 : Nat) =>
 ∃ (s5 : Slc),
 cellsAt h2 b3 (b4 + 2) [Lf.slc s5] ∧
 IxC s5 i0 2 fun (b6 b7 : Nat) =>
 ∃ (s8 : Slc),
 ∃ (s9 : Slc),
 cellsAt h2 b6 b7 [Lf.slc s8, Lf.slc s9] ∧
 Call Proofs.Tryz.prog 139 [VV.agg [Lf.slc s8, Lf.slc s9]] h2 [VT.one LT.slc] fun (s10 : Slc) (h11 : Heap) =>
 ∃ (I12 : Bool → Heap → Prop),
 Br (Decidable.decide (a2 < (0 : Int))) (I12 Bool.true h11) (I12 (Decidable.decide (a2 > (↑(Slc.len s10) : Int))) h11) ∧
 ∀ (c13 : Bool) (h14 : Heap),
 I12 c13 h14 →
 Br c13 (R (1 : Int) h14)
 (∃ (I15 : Bool → Heap → Prop),
 Br (Decidable.decide (IntKind.wrap IntKind.i64 ((↑(Slc.len a3) : Int) - IntKind.wrap IntKind.i64 ((↑(Slc.len s10) : Int) - a2)) > (0 : Int)))
 (NilC a0 fun (b16 b17 : Nat) =>
 ∃ (i18 : Int),
 cellsAt h14 b16 (b17 + 0) [Lf.int IntKind.i64 i18] ∧
 Br
 (Decidable.decide (IntKind.wrap IntKind.i64 ((↑(Slc.len a3) : Int) - IntKind.wrap IntKind.i64 ((↑(Slc.len s10) : Int) - a2)) > i18))
 (I15 Bool.true h14)
 (NilC a0 fun (b19 b20 : Nat) =>
 ∃ (i21 : Int),
 cellsAt h14 b19 (b20 + 0) [Lf.int IntKind.i64 i21] ∧
 Call Proofs.Tryz.prog 88 [VV.lf (Lf.ptr a0)] h14 [VT.one (LT.int IntKind.i64)]
 fun (i22 : Int) (h23 : Heap) =>
 cellsAt h23 b19 (b20 + 0) [Lf.int IntKind.i64 i21] ∧
 I15
 (Decidable.decide
 (i22 >
 IntKind.wrap IntKind.i64
 (i21 - IntKind.wrap IntKind.i64 ((↑(Slc.len a3) : Int) - IntKind.wrap IntKind.i64 ((↑(Slc.len s10) : Int) - a2)))))
 h23))
 (I15 Bool.false h14) ∧
 ∀ (c24 : Bool) (h25 : Heap),
 I15 c24 h25 →
 Br c24 (R (20 : Int) h25)
 (Call Proofs.Tryz.prog 196 [VV.lf (Lf.ptr a0)] h25 [VT.one (LT.int IntKind.i64), VT.one LT.bool]
 fun (i26 : Int) (c27 : Bool) (h28 : Heap) =>
 ∃ (I29 : Slc → Heap → Prop),
 Br c27
 (((2 : Int) = (0 : Int) → False) ∧
 (0 : Int) ≤ IntKind.wrap IntKind.i64 (Int.tdiv (↑(Slc.len a3) : Int) (2 : Int)) ∧
 IntKind.wrap IntKind.i64 (Int.tdiv (↑(Slc.len a3) : Int) (2 : Int)) ≤ (↑(Slc.cap a3) : Int) ∧
 I29
 (Slc.sub a3 1 0 (Int.toNat (IntKind.wrap IntKind.i64 (Int.tdiv (↑(Slc.len a3) : Int) (2 : Int))))
 (Slc.cap a3))
 h28)
 (I29 a3 h28) ∧
 ∀ (s30 : Slc) (h31 : Heap),
 I29 s30 h31 →
 ∃ (I32 : Heap → Prop),
 (∃ (I33 : Bool → Heap → Prop),
 Br (i26 == (0 : Int)) (I33 (Decidable.decide ((↑(Slc.len s30) : Int) > (0 : Int))) h31)
 (Br c27 (I33 (Decidable.decide ((↑(Slc.len s30) : Int) > (0 : Int))) h31) (I33 Bool.false h31)) ∧
 ∀ (c34 : Bool) (h35 : Heap),
 I33 c34 h35 →
 Br c34
 (NilC a0 fun (b36 b37 : Nat) =>
 ∃ (s38 : Slc),
 cellsAt h35 b36 (b37 + 2) [Lf.slc s38] ∧
 IxC s38 i0 2 fun (b39 b40 : Nat) =>
 ∃ (s41 : Slc),
 ∃ (s42 : Slc),
 cellsAt h35 b39 b40 [Lf.slc s41, Lf.slc s42] ∧
 New 200
 [Lf.slc (Slc.mk Option.none 0 0), Lf.slc (Slc.mk Option.none 0 0)]
 h35 fun (b43 : Nat) (h44 : Heap) =>
 Set b43 200 [Lf.slc s41, Lf.slc s42] h44 fun (h45 : Heap) =>
 New 241 [] h45 fun (b46 : Nat) (h47 : Heap) =>
 AppC 241
 [Lf.int IntKind.i64 (0 : Int), Lf.slc (Slc.mk Option.none 0 0)] 2
 32 (Slc.mk (Option.some (b46, 0)) 0 0) s42 h47
 fun (s48 : Slc) (h49 : Heap) =>
 keepB h47 h49 [b43] ∧
 New 5 [] h49 fun (b50 : Nat) (h51 : Heap) =>
 AppC 5 [Lf.int IntKind.u8 (0 : Int)] 1 1
 (Slc.mk (Option.some (b50, 0)) 0 0) s30 h51
 fun (s52 : Slc) (h53 : Heap) =>
 keepB h51 h53 [b43] ∧
 New 241 [Lf.int IntKind.i64 a2, Lf.slc s52] h53
 fun (b54 : Nat) (h55 : Heap) =>
 AppC 241
 [Lf.int IntKind.i64 (0 : Int), Lf.slc (Slc.mk Option.none 0 0)]
 2 32 s48 (Slc.mk (Option.some (b54, 0)) 1 1) h55
 fun (s56 : Slc) (h57 : Heap) =>
 keepB h55 h57 [b43] ∧
 Set b43 200 [Lf.slc s41, Lf.slc s56] h57 fun (h58 : Heap) =>
 Call Proofs.Tryz.prog 140
 [VV.lf (Lf.ptr a0), VV.lf (Lf.int IntKind.i64 i0),
 VV.agg [Lf.slc s41, Lf.slc s56]]
 h58 [] fun (h59 : Heap) => keepB h58 h59 [b43] ∧ I32 h59)
 (I32 h35)) ∧
 ∀ (h60 : Heap), I32 h60 → R i26 h60)))
theorem ok136 {a0 : Option (Nat × Nat)} {a1 : ByteArray} {a2 : Int} {a3 : Slc} {h : Heap} {R : Int → Heap → Prop} (hv : vc136 a0 a1 a2 a3 h R) : Call Proofs.Tryz.prog 136 [.lf (.ptr a0), .lf (.str a1), .lf (.int .i64 a2), .lf (.slc a3)] h [.one (.int .i64)] R := call_eq (pl := pl136) hng hmix Proofs.Tryz.func136 (by kernel_rfl) hv
def pl137 : Plan := {
  blk := fun _ => none
  seq := fun _ => none
  loop := fun _ => none
  live := fun | 0 => some [0,1,2] | 1 => some [0,1,2,7,8] | 2 => some [0,1,2,7,8,16] | 3 => some [6] | 4 => some [6] | _ => none
  track := fun | _ => false
  draw := fun | _ => .done
  iter := fun | _ => none }
def vc137 (a0 : Option (Nat × Nat)) (a1 : ByteArray) (a2 : Slc) (h : Heap) (R : Int → Heap → Prop) : Prop :=
 Call Proofs.Tryz.prog 138 [.lf (.ptr a0), .lf (.str a1)] h [.one (.int .i64), .one (.int .i64)] fun (i0 i1 : Int) h2 => Br (i1 != 0) (R i1 h2) (NilC a0 fun b3 b4 => ∃ s5, cellsAt h2 b3 (b4 + 2) [.slc
 s5] ∧ IxC s5 i0 2 fun b6 b7 => ∃ s8, ∃ s9, cellsAt h2 b6 b7 [.slc s8, .slc s9] ∧ Call Proofs.Tryz.prog 139 [.agg [.slc s8, .slc s9]] h2 [.one .slc] fun (s10 : Slc) h11 => Call Proofs.Tryz.prog 136 [.lf
 (.ptr a0), .lf (.str a1), .lf (.int .i64 (↑(Slc.len s10) : Int)), .lf (.slc a2)] h11 [.one (.int .i64)] fun (i12 : Int) h13 => R i12 h13)
theorem ok137 {a0 : Option (Nat × Nat)} {a1 : ByteArray} {a2 : Slc} {h : Heap} {R : Int → Heap → Prop} (hv : vc137 a0 a1 a2 h R) : Call Proofs.Tryz.prog 137 [.lf (.ptr a0), .lf (.str a1), .lf (.slc a2)] h [.one (.int .i64)] R := call_eq (pl := pl137) hng hmix Proofs.Tryz.func137 (by kernel_rfl) hv
def pl72 : Plan := {
  blk := fun _ => none
  seq := fun | 7 => some ⟨[], [], []⟩ | _ => none
  loop := fun _ => none
  live := fun | 0 => some [0,1,2] | 1 => some [0,2,7,8] | 2 => some [0,2,7,8,17] | 3 => some [6] | 4 => some [0,2,7,9] | 5 => some [0,2,7,9,34] | 6 => some [6] | 7 => some [0,2,7,8,9] | 8 => some [0,2,7,8,9,38] | 9 => some [8] | 10 => some [6] | _ => none
  track := fun | _ => false
  draw := fun | _ => .done
  iter := fun | _ => none }
def vc72 (a0 : Option (Nat × Nat)) (a1 : ByteArray) (a2 : Int) (h : Heap) (R : Int → Heap → Prop) : Prop :=
 Call Proofs.Tryz.prog 138 [.lf (.ptr a0), .lf (.str a1)] h [.one (.int .i64), .one (.int .i64)] fun (i0 i1 : Int) h2 => Br (i1 != 0) (R i1 h2) (NilC a0 fun b3 b4 => ∃ s5, cellsAt h2 b3 (b4 + 2) [.slc
 s5] ∧ IxC s5 i0 2 fun b6 b7 => ∃ s8, ∃ s9, cellsAt h2 b6 b7 [.slc s8, .slc s9] ∧ Call Proofs.Tryz.prog 139 [.agg [.slc s8, .slc s9]] h2 [.one .slc] fun (s10 : Slc) h11 => ∃ (I12 : Heap → Prop), Br
 (decide (a2 < 0)) (R 1 h11) (Br (decide (a2 > (↑(Slc.len s10) : Int))) (R 1 h11) (I12 h11)) ∧ ∀ h13, I12 h13 → Call Proofs.Tryz.prog 129 [.lf (.ptr a0)] h13 [.one (.int .i64)] fun (i14 : Int) h15 => Br
 (i14 == 0) (0 ≤ a2 ∧ a2 ≤ (↑(Slc.cap s10) : Int) ∧ Call Proofs.Tryz.prog 140 [.lf (.ptr a0), .lf (.int .i64 i0), .agg [.slc (Slc.sub s10 1 0 (Int.toNat a2) (Slc.cap s10)), .slc (Slc.mk none 0 0)]] h15
 [] fun h16 => R i14 h16) (R i14 h15))
theorem ok72 {a0 : Option (Nat × Nat)} {a1 : ByteArray} {a2 : Int} {h : Heap} {R : Int → Heap → Prop} (hv : vc72 a0 a1 a2 h R) : Call Proofs.Tryz.prog 72 [.lf (.ptr a0), .lf (.str a1), .lf (.int .i64 a2)] h [.one (.int .i64)] R := call_eq (pl := pl72) hng hmix Proofs.Tryz.func72 (by kernel_rfl) hv
def pl79 : Plan := {
  blk := fun _ => none
  seq := fun _ => none
  loop := fun _ => none
  live := fun | 0 => some [0,1] | 1 => some [0,5,6] | 2 => some [0,5,6,14] | 3 => some [4] | 4 => some [0,5,6] | 5 => some [0,5,6,19] | 6 => some [6] | 7 => some [4] | _ => none
  track := fun | _ => false
  draw := fun | _ => .done
  iter := fun | _ => none }
def vc79 (a0 : Option (Nat × Nat)) (a1 : ByteArray) (h : Heap) (R : Int → Heap → Prop) : Prop :=
 Call Proofs.Tryz.prog 138 [.lf (.ptr a0), .lf (.str a1)] h [.one (.int .i64), .one (.int .i64)] fun (i0 i1 : Int) h2 => Br (i1 != 0) (R i1 h2) (Call Proofs.Tryz.prog 129 [.lf (.ptr a0)] h2 [.one (.int
 .i64)] fun (i3 : Int) h4 => Br (i3 == 0) (NilC a0 fun b5 b6 => ∃ s7, cellsAt h4 b5 (b6 + 2) [.slc s7] ∧ IxC s7 i0 2 fun b8 b9 => ∃ s10, ∃ s11, cellsAt h4 b8 b9 [.slc s10, .slc s11] ∧ Call
 Proofs.Tryz.prog 139 [.agg [.slc s10, .slc s11]] h4 [.one .slc] fun (s12 : Slc) h13 => Call Proofs.Tryz.prog 140 [.lf (.ptr a0), .lf (.int .i64 i0), .agg [.slc s12, .slc (Slc.mk none 0 0)]] h13 [] fun
 h14 => R i3 h14) (R i3 h4))
theorem ok79 {a0 : Option (Nat × Nat)} {a1 : ByteArray} {h : Heap} {R : Int → Heap → Prop} (hv : vc79 a0 a1 h R) : Call Proofs.Tryz.prog 79 [.lf (.ptr a0), .lf (.str a1)] h [.one (.int .i64)] R := call_eq (pl := pl79) hng hmix Proofs.Tryz.func79 (by kernel_rfl) hv
def pl80 : Plan := {
  blk := fun _ => none
  seq := fun _ => none
  loop := fun _ => none
  live := fun | 0 => some [0,1] | 1 => some [0,5,6] | 2 => some [0,5,6,14] | 3 => some [4] | 4 => some [0,5,6] | 5 => some [0,5,6,19] | 6 => some [6] | 7 => some [4] | _ => none
  track := fun | _ => false
  draw := fun | _ => .done
  iter := fun | _ => none }
def vc80 (a0 : Option (Nat × Nat)) (a1 : ByteArray) (h : Heap) (R : Int → Heap → Prop) : Prop :=
 Call Proofs.Tryz.prog 148 [.lf (.ptr a0), .lf (.str a1)] h [.one (.int .i64), .one (.int .i64)] fun (i0 i1 : Int) h2 => Br (i1 != 0) (R i1 h2) (Call Proofs.Tryz.prog 129 [.lf (.ptr a0)] h2 [.one (.int
 .i64)] fun (i3 : Int) h4 => Br (i3 == 0) (NilC a0 fun b5 b6 => ∃ s7, cellsAt h4 b5 (b6 + 1) [.slc s7] ∧ IxC s7 i0 2 fun b8 b9 => ∃ s10, cellsAt h4 b8 (b9 + 1) [.slc s10] ∧ Call Proofs.Tryz.prog 149
 [.lf (.ptr a0), .lf (.int .i64 i0), .lf (.int .i64 (IntKind.wrap .i64 ((↑(Slc.len s10) : Int) - 1)))] h4 [] fun h11 => R i3 h11) (R i3 h4))
theorem ok80 {a0 : Option (Nat × Nat)} {a1 : ByteArray} {h : Heap} {R : Int → Heap → Prop} (hv : vc80 a0 a1 h R) : Call Proofs.Tryz.prog 80 [.lf (.ptr a0), .lf (.str a1)] h [.one (.int .i64)] R := call_eq (pl := pl80) hng hmix Proofs.Tryz.func80 (by kernel_rfl) hv
def pl149 : Plan := {
  blk := fun _ => none
  seq := fun _ => none
  loop := fun _ => none
  live := fun | 0 => some [0,1,2,6] | 1 => some [0,6] | 2 => some [] | _ => none
  track := fun | _ => false
  draw := fun | _ => .done
  iter := fun | _ => none }
def vc149 (a0 : Option (Nat × Nat)) (a1 : Int) (a2 : Int) (h : Heap) (R : Heap → Prop) : Prop :=
 New 192 [] h fun b0 h1 => NilC a0 fun b2 b3 => ∃ s4, cellsAt h1 b2 (b3 + 1) [.slc s4] ∧ AppC 192 [.str (ByteArray.mk #[]), .slc (Slc.mk none 0 0)] 2 40 (Slc.mk (some (b0, 0)) 0 0) s4 h1 fun (s5 : Slc)
 h6 => IxC s5 a1 2 fun b7 b8 => ∃ s9, cellsAt h6 b7 (b8 + 1) [.slc s9] ∧ IxC s9 a2 2 fun b10 b11 => ∃ s12, ∃ s13, cellsAt h6 b10 b11 [.slc s12, .slc s13] ∧ New 194 [.slc s12, .slc s13] h6 fun b14 h15 =>
 IxC s5 a1 2 fun b16 b17 => StC h15 b16 (b17 + 1) [.slc (Slc.mk (some (b14, 0)) 1 1)] fun h18 => NilC a0 fun b19 b20 => StC h18 b19 (b20 + 1) [.slc s5] fun h21 => R h21
theorem ok149 {a0 : Option (Nat × Nat)} {a1 : Int} {a2 : Int} {h : Heap} {R : Heap → Prop} (hv : vc149 a0 a1 a2 h R) : Call Proofs.Tryz.prog 149 [.lf (.ptr a0), .lf (.int .i64 a1), .lf (.int .i64 a2)] h [] R := call_eq (pl := pl149) hng hmix Proofs.Tryz.func149 (by kernel_rfl) hv
def pl154 : Plan := {
  blk := fun _ => none
  seq := fun _ => none
  loop := fun _ => none
  live := fun | 0 => some [0,1] | 1 => some [0,6,7] | 2 => some [0,6,7,15] | 3 => some [4,5] | 4 => some [4,5] | _ => none
  track := fun | _ => false
  draw := fun | _ => .done
  iter := fun | _ => none }
def vc154 (a0 : Option (Nat × Nat)) (a1 : ByteArray) (h : Heap) (R : Slc → Int → Heap → Prop) : Prop :=
 Call Proofs.Tryz.prog 138 [.lf (.ptr a0), .lf (.str a1)] h [.one (.int .i64), .one (.int .i64)] fun (i0 i1 : Int) h2 => Br (i1 != 0) (R (Slc.mk none 0 0) i1 h2) (NilC a0 fun b3 b4 => ∃ s5, cellsAt h2
 b3 (b4 + 2) [.slc s5] ∧ IxC s5 i0 2 fun b6 b7 => ∃ s8, ∃ s9, cellsAt h2 b6 b7 [.slc s8, .slc s9] ∧ Call Proofs.Tryz.prog 139 [.agg [.slc s8, .slc s9]] h2 [.one .slc] fun (s10 : Slc) h11 => R s10 0 h11)
theorem ok154 {a0 : Option (Nat × Nat)} {a1 : ByteArray} {h : Heap} {R : Slc → Int → Heap → Prop} (hv : vc154 a0 a1 h R) : Call Proofs.Tryz.prog 154 [.lf (.ptr a0), .lf (.str a1)] h [.one .slc, .one (.int .i64)] R := call_eq (pl := pl154) hng hmix Proofs.Tryz.func154 (by kernel_rfl) hv
def pl157 : Plan := {
  blk := fun _ => none
  seq := fun _ => none
  loop := fun _ => none
  live := fun | 0 => some [0,1,2,3] | 1 => some [2,3,10,11] | 2 => some [2,3,10,11,18] | 3 => some [8,9] | 4 => some [2,3,10,22] | 5 => some [8,9] | 6 => some [3,10] | 7 => some [3,10,41] | 8 => some [10] | 9 => some [8,9] | _ => none
  track := fun | _ => false
  draw := fun | _ => .done
  iter := fun | _ => none }
def vc157 (a0 : Option (Nat × Nat)) (a1 : ByteArray) (a2 : Int) (a3 : Int) (h : Heap) (R : Slc → Int → Heap → Prop) : Prop :=
 Call Proofs.Tryz.prog 154 [.lf (.ptr a0), .lf (.str a1)] h [.one .slc, .one (.int .i64)] fun (s0 : Slc) (i1 : Int) h2 => Br (i1 != 0) (R (Slc.mk none 0 0) i1 h2) (Br (decide (a3 < 0)) (R (Slc.mk none 0
 0) 1 h2) (Br (decide (a2 < 0)) (R (Slc.mk none 0 0) 1 h2) (Br (decide (a2 > (↑(Slc.len s0) : Int))) (R (Slc.mk none 0 0) 1 h2) (0 ≤ a2 ∧ a2 ≤ (↑(Slc.len s0) : Int) ∧ Br (decide ((↑(Slc.len (Slc.sub s0
 1 (Int.toNat a2) (Slc.len s0) (Slc.cap s0))) : Int) > a3)) (0 ≤ a3 ∧ a3 ≤ (↑(Slc.cap (Slc.sub s0 1 (Int.toNat a2) (Slc.len s0) (Slc.cap s0))) : Int) ∧ R (Slc.sub (Slc.sub s0 1 (Int.toNat a2) (Slc.len
 s0) (Slc.cap s0)) 1 0 (Int.toNat a3) (Slc.cap (Slc.sub s0 1 (Int.toNat a2) (Slc.len s0) (Slc.cap s0)))) 0 h2) (R (Slc.sub s0 1 (Int.toNat a2) (Slc.len s0) (Slc.cap s0)) 0 h2)))))
theorem ok157 {a0 : Option (Nat × Nat)} {a1 : ByteArray} {a2 : Int} {a3 : Int} {h : Heap} {R : Slc → Int → Heap → Prop} (hv : vc157 a0 a1 a2 a3 h R) : Call Proofs.Tryz.prog 157 [.lf (.ptr a0), .lf (.str a1), .lf (.int .i64 a2), .lf (.int .i64 a3)] h [.one .slc, .one (.int .i64)] R := call_eq (pl := pl157) hng hmix Proofs.Tryz.func157 (by kernel_rfl) hv
def pl159 : Plan := {
  blk := fun _ => none
  seq := fun _ => none
  loop := fun _ => none
  live := fun | 0 => some [0,1] | 1 => some [0,6,7] | 2 => some [0,6,7,15] | 3 => some [4,5] | 4 => some [4,5] | _ => none
  track := fun | _ => false
  draw := fun | _ => .done
  iter := fun | _ => none }
def vc159 (a0 : Option (Nat × Nat)) (a1 : ByteArray) (h : Heap) (R : Int → Int → Heap → Prop) : Prop :=
 Call Proofs.Tryz.prog 138 [.lf (.ptr a0), .lf (.str a1)] h [.one (.int .i64), .one (.int .i64)] fun (i0 i1 : Int) h2 => Br (i1 != 0) (R 0 i1 h2) (NilC a0 fun b3 b4 => ∃ s5, cellsAt h2 b3 (b4 + 2) [.slc
 s5] ∧ IxC s5 i0 2 fun b6 b7 => ∃ s8, ∃ s9, cellsAt h2 b6 b7 [.slc s8, .slc s9] ∧ Call Proofs.Tryz.prog 152 [.agg [.slc s8, .slc s9]] h2 [.one (.int .i64)] fun (i10 : Int) h11 => R i10 0 h11)
theorem ok159 {a0 : Option (Nat × Nat)} {a1 : ByteArray} {h : Heap} {R : Int → Int → Heap → Prop} (hv : vc159 a0 a1 h R) : Call Proofs.Tryz.prog 159 [.lf (.ptr a0), .lf (.str a1)] h [.one (.int .i64), .one (.int .i64)] R := call_eq (pl := pl159) hng hmix Proofs.Tryz.func159 (by kernel_rfl) hv
def pl92 : Plan := {
  blk := fun _ => none
  seq := fun _ => none
  loop := fun _ => none
  live := fun | 0 => some [0,1] | 1 => some [0,6,7] | 2 => some [0,6,7,15] | 3 => some [4,5] | 4 => some [4,5] | _ => none
  track := fun | _ => false
  draw := fun | _ => .done
  iter := fun | _ => none }
def vc92 (a0 : Option (Nat × Nat)) (a1 : ByteArray) (h : Heap) (R : Int → Int → Heap → Prop) : Prop :=
 Call Proofs.Tryz.prog 148 [.lf (.ptr a0), .lf (.str a1)] h [.one (.int .i64), .one (.int .i64)] fun (i0 i1 : Int) h2 => Br (i1 != 0) (R 0 i1 h2) (NilC a0 fun b3 b4 => ∃ s5, cellsAt h2 b3 (b4 + 1) [.slc
 s5] ∧ IxC s5 i0 2 fun b6 b7 => ∃ s8, cellsAt h2 b6 (b7 + 1) [.slc s8] ∧ R (IntKind.wrap .i64 ((↑(Slc.len s8) : Int) - 1)) 0 h2)
theorem ok92 {a0 : Option (Nat × Nat)} {a1 : ByteArray} {h : Heap} {R : Int → Int → Heap → Prop} (hv : vc92 a0 a1 h R) : Call Proofs.Tryz.prog 92 [.lf (.ptr a0), .lf (.str a1)] h [.one (.int .i64), .one (.int .i64)] R := call_eq (pl := pl92) hng hmix Proofs.Tryz.func92 (by kernel_rfl) hv
def pl84 : Plan := {
  blk := fun _ => none
  seq := fun | 8 => some ⟨[(32, .one .bool)], [], []⟩ | _ => none
  loop := fun _ => none
  live := fun | 0 => some [0,1,2] | 1 => some [0,2,7,8] | 2 => some [0,2,7,8,18] | 3 => some [6] | 4 => some [0,2,7,9] | 5 => some [0,2,7,9,27] | 6 => some [6] | 7 => some [0,2,7,9,32] | 8 => some [6] | 9 => some [0,2,7,10] | 10 => some [0,7,10] | 11 => some [] | 12 => some [6] | _ => none
  track := fun | 9 => true | _ => false
  draw := fun | _ => .done
  iter := fun | _ => none }
def vc84 (a0 : Option (Nat × Nat)) (a1 : ByteArray) (a2 : Int) (h : Heap) (R : Int → Heap → Prop) : Prop :=
 Call Proofs.Tryz.prog 138 [VV.lf (Lf.ptr a0), VV.lf (Lf.str a1)] h [VT.one (LT.int IntKind.i64), VT.one (LT.int IntKind.i64)]
 fun (i0 i1 : Int) (h2 : Heap) =>
 Br (i1 != (0 : Int)) (R i1 h2)
 (NilC a0 fun (b3 b4 : Nat) =>
 ∃ (s5 : Slc),
 cellsAt h2 b3 (b4 + 2) [Lf.slc s5] ∧
 IxC s5 i0 2 fun (b6 b7 : Nat) =>
 ∃ (s8 : Slc),
 ∃ (s9 : Slc),
 cellsAt h2 b6 b7 [Lf.slc s8, Lf.slc s9] ∧
 New 200 [Lf.slc (Slc.mk Option.none 0 0), Lf.slc (Slc.mk Option.none 0 0)] h2 fun (b10 : Nat) (h11 : Heap) =>
 Set b10 200 [Lf.slc s8, Lf.slc s9] h11 fun (h12 : Heap) =>
 Br (Decidable.decide ((↑(Slc.len s9) : Int) > (0 : Int))) (R (8 : Int) h12)
 (∃ (I13 : Bool → Heap → Prop),
 Br (Decidable.decide (a2 < (0 : Int))) (I13 Bool.true h12)
 (((8 : Int) = (0 : Int) → False) ∧ I13 (Decidable.decide (IntKind.wrap IntKind.i64 (Int.tdiv a2 (8 : Int)) ≥ (↑(Slc.len s8) : Int))) h12) ∧
 ∀ (c14 : Bool) (h15 : Heap),
 I13 c14 h15 →
 Br c14 (R (1 : Int) h15)
 (New 5 [] h15 fun (b16 : Nat) (h17 : Heap) =>
 AppC 5 [Lf.int IntKind.u8 (0 : Int)] 1 1 (Slc.mk (Option.some (b16, 0)) 0 0) s8 h17
 fun (s18 : Slc) (h19 : Heap) =>
 keepB h17 h19 [b10] ∧
 ((8 : Int) = (0 : Int) → False) ∧
 ((8 : Int) = (0 : Int) → False) ∧
 IxC s18 (IntKind.wrap IntKind.i64 (Int.tdiv a2 (8 : Int))) 1 fun (b20 b21 : Nat) =>
 ∃ (i22 : Int),
 cellsAt h19 b20 b21 [Lf.int IntKind.u8 i22] ∧
 ((8 : Int) = (0 : Int) → False) ∧
 (0 : Int) ≤ IntKind.wrap IntKind.u64 (Int.tmod a2 (8 : Int)) ∧
 IxC s18 (IntKind.wrap IntKind.i64 (Int.tdiv a2 (8 : Int))) 1 fun (b23 b24 : Nat) =>
 StC h19 b23 b24
 [Lf.int IntKind.u8
 (bitop IntKind.u8 BinOp.xor i22
 (shiftL IntKind.u8 (1 : Int) (IntKind.wrap IntKind.u64 (Int.tmod a2 (8 : Int)))))]
 fun (h25 : Heap) =>
 Call Proofs.Tryz.prog 140
 [VV.lf (Lf.ptr a0), VV.lf (Lf.int IntKind.i64 i0),
 VV.agg [Lf.slc s18, Lf.slc (Slc.mk Option.none 0 0)]]
 h25 [] fun (h26 : Heap) => R (0 : Int) h26)))
theorem ok84 {a0 : Option (Nat × Nat)} {a1 : ByteArray} {a2 : Int} {h : Heap} {R : Int → Heap → Prop} (hv : vc84 a0 a1 a2 h R) : Call Proofs.Tryz.prog 84 [.lf (.ptr a0), .lf (.str a1), .lf (.int .i64 a2)] h [.one (.int .i64)] R := call_eq (pl := pl84) hng hmix Proofs.Tryz.func84 (by kernel_rfl) hv
def pl150 : Plan := {
  blk := fun _ => none
  seq := fun | 3 => some ⟨[], [], []⟩ | _ => none
  loop := fun _ => none
  live := fun | 0 => some [0,1,2] | 1 => some [0,1,2,19] | 2 => some [6] | 3 => some [6] | _ => none
  track := fun | _ => false
  draw := fun | _ => .done
  iter := fun | _ => none }
def vc150 (a0 : Slc) (a1 : Int) (a2 : Int) (h : Heap) (R : Int → Heap → Prop) : Prop :=
 ∃ (I0 : Heap → Prop), Br ((↑(Slc.len a0) : Int) == 0) (R 0 h) (((↑(Slc.len a0) : Int) = 0 → False) ∧ IxC a0 (Int.tmod a1 (↑(Slc.len a0) : Int)) 1 fun b1 b2 => ∃ i3, cellsAt h b1 b2 [.int .i64 i3] ∧ Br
 (decide (i3 < 0)) (R 0 h) (I0 h)) ∧ ∀ h4, I0 h4 → ((↑(Slc.len a0) : Int) = 0 → False) ∧ IxC a0 (Int.tmod a1 (↑(Slc.len a0) : Int)) 1 fun b5 b6 => ∃ i7, cellsAt h4 b5 b6 [.int .i64 i7] ∧ (IntKind.wrap
 .i64 (a2 + 1) = 0 → False) ∧ R (Int.tmod i7 (IntKind.wrap .i64 (a2 + 1))) h4
theorem ok150 {a0 : Slc} {a1 : Int} {a2 : Int} {h : Heap} {R : Int → Heap → Prop} (hv : vc150 a0 a1 a2 h R) : Call Proofs.Tryz.prog 150 [.lf (.slc a0), .lf (.int .i64 a1), .lf (.int .i64 a2)] h [.one (.int .i64)] R := call_eq (pl := pl150) hng hmix Proofs.Tryz.func150 (by kernel_rfl) hv
def pl153 : Plan := {
  blk := fun | 0 => some ⟨[(5, .one .slc)], [], [0]⟩ | _ => none
  seq := fun | 5 => some ⟨[], [], []⟩ | 8 => some ⟨[], [(2, [.int .i64, .slc])], []⟩ | _ => none
  loop := fun | 3 => some ⟨[(1, .one (.int .i64)), (5, .one .slc), (6, .one (.int .i64))], [], []⟩ | _ => none
  live := fun | 0 => some [1,2,4] | 1 => some [1,2,4,5] | 2 => some [1,2,4,5,6] | 3 => some [1,2,4,5,6,20] | 4 => some [1,2,4,5,6] | 5 => some [1,2,4,5,6,7] | 6 => some [1,2,4,5,6,7,32] | 7 => some [1,2,4,5,6,7] | 8 => some [1,2,4,5,6,7] | 9 => some [1,2,4,5,6] | 10 => some [4] | _ => none
  track := fun | 2 => true | 4 => true | 7 => true | _ => false
  draw := fun | _ => .done
  iter := fun | _ => none }
def vc153 (a0 : Slc) (a1 : Slc) (a2 : Int) (h : Heap) (R : Slc → Slc → Heap → Prop) : Prop :=
 New 200 [.slc a0, .slc a1] h fun b0 h1 => New 200 [.slc (Slc.mk none 0 0), .slc (Slc.mk none 0 0)] h1 fun b2 h3 => New 5 [] h3 fun b4 h5 => AppC 5 [.int .u8 0] 1 1 (Slc.mk (some (b4, 0)) 0 0) a0 h5 fun
 (s6 : Slc) h7 => keepB h5 h7 [b0, b2] ∧ ∃ (I8 : Slc → Heap → Prop), (∃ (I9 : Int → Slc → Int → Heap → Nat → Prop), (∃ b10, I9 a2 s6 0 h7 b10) ∧ ∀ i11 s12 i13 h14 b15, I9 i11 s12 i13 h14 b15 → ∃ (I16 :
 Heap → Prop), Br (decide (i13 < (↑(Slc.len a1) : Int))) (Br (decide (i11 > 0)) (I16 h14) (I8 s12 h14)) (I8 s12 h14) ∧ ∀ h17, I16 h17 → IxC a1 i13 2 fun b18 b19 => ∃ i20, ∃ s21, cellsAt h17 b18 b19
 [.int .i64 i20, .slc s21] ∧ New 241 [.int .i64 0, .slc (Slc.mk none 0 0)] h17 fun b22 h23 => Set b22 241 [.int .i64 i20, .slc s21] h23 fun h24 => ∃ (I25 : Int → Slc → Heap → Prop), Br (decide
 ((↑(Slc.len s21) : Int) > i11)) (0 ≤ i11 ∧ i11 ≤ (↑(Slc.cap s21) : Int) ∧ Set b22 241 [.int .i64 i20, .slc (Slc.sub s21 1 0 (Int.toNat i11) (Slc.cap s21))] h24 fun h26 => I25 i20 (Slc.sub s21 1 0
 (Int.toNat i11) (Slc.cap s21)) h26) (I25 i20 s21 h24) ∧ ∀ i27 s28 h29, I25 i27 s28 h29 → Call Proofs.Tryz.prog 198 [.lf (.slc s12), .agg [.int .i64 i27, .slc s28]] h29 [.one .slc] fun (s30 : Slc) h31
 => keepB h29 h31 [b0, b2, b22] ∧ ∃ b32, b32 < b15 ∧ I9 (IntKind.wrap .i64 (i11 - (↑(Slc.len s28) : Int))) s30 (IntKind.wrap .i64 (i13 + 1)) h31 b32) ∧ ∀ s33 h34, I8 s33 h34 → Set b2 200 [.slc s33, .slc
 (Slc.mk none 0 0)] h34 fun h35 => R s33 (Slc.mk none 0 0) h35
theorem ok153 {a0 : Slc} {a1 : Slc} {a2 : Int} {h : Heap} {R : Slc → Slc → Heap → Prop} (hv : vc153 a0 a1 a2 h R) : Call Proofs.Tryz.prog 153 [.agg [.slc a0, .slc a1], .lf (.int .i64 a2)] h [.agg [.slc, .slc]] R := call_eq (pl := pl153) hng hmix Proofs.Tryz.func153 (by kernel_rfl) hv
def pl85 : Plan := {
  blk := fun | 3 => some ⟨[(6, .one (.int .i64))], [], []⟩ | _ => none
  seq := fun _ => none
  loop := fun | 4 => some ⟨[(6, .one (.int .i64)), (7, .one (.int .i64))], [], []⟩ | 13 => some ⟨[(6, .one (.int .i64)), (10, .one (.int .i64))], [], []⟩ | _ => none
  live := fun | 0 => some [0,1,2] | 1 => some [0,1,2] | 2 => some [0,1,2,6] | 3 => some [0,1,2,6,7] | 4 => some [0,1,2,6,7,23] | 5 => some [0,1,2,6,7] | 6 => some [0,1,2,6,7,8] | 7 => some [0,1,2,6,7,8,37] | 8 => some [0,1,2,6,7] | 9 => some [0,1,2,6,7] | 10 => some [0,1,6] | 11 => some [0,1,6,9] | 12 => some [0,1,6,9,10] | 13 => some [0,1,6,9,10,52] | 14 => some [0,1,6,9,10] | 15 => some [0,1,6,9,10,11] | 16 => some [0,1,6,9,10,11,12] | 17 => some [0,1,6,9,10,11,12,68] | 18 => some [0,1,6,9,10] | 19 => some [0,1,6,9,10] | _ => none
  track := fun | 11 => true | _ => false
  draw := fun | 15 => .still 0 (.still 1 (.still 2 (.still 3 (.still 4 (.still 5 (.still 6 (.still 7 (.still 8 (.still 9 (.mem 10 (.mem 11 (.done)))))))))))) | 18 => .still 0 (.still 1 (.still 2 (.still 3 (.still 4 (.still 5 (.still 6 (.still 7 (.still 8 (.mem 9 (.mem 10 (.mem 11 (.done)))))))))))) | _ => .done
  iter := fun | _ => none }
def vc85 (a0 : Option (Nat × Nat)) (a1 : Slc) (a2 : Slc) (h : Heap) (R : Heap → Prop) : Prop :=
 Call Proofs.Tryz.prog 81 [.lf (.ptr a0), .lf (.int .i64 0), .lf (.int .i64 0)] h [] fun h0 => Call Proofs.Tryz.prog 82 [.lf (.ptr a0), .lf (.int .i64 0)] h0 [] fun h1 => ∃ (I2 : Int → Int → Heap → Nat
 → Prop), (∃ b3, I2 0 0 h1 b3) ∧ ∀ i4 i5 h6 b7, I2 i4 i5 h6 b7 → NilC a0 fun b8 b9 => ∃ s10, cellsAt h6 b8 (b9 + 1) [.slc s10] ∧ Br (decide (i5 < (↑(Slc.len s10) : Int))) (NilC a0 fun b11 b12 => ∃ s13,
 cellsAt h6 b11 (b12 + 1) [.slc s13] ∧ IxC s13 i5 2 fun b14 b15 => ∃ s16, cellsAt h6 b14 (b15 + 1) [.slc s16] ∧ Br (decide (IntKind.wrap .i64 ((↑(Slc.len s16) : Int) - 1) > 0)) (Call Proofs.Tryz.prog
 150 [.lf (.slc a2), .lf (.int .i64 i4), .lf (.int .i64 (IntKind.wrap .i64 ((↑(Slc.len s16) : Int) - 1)))] h6 [.one (.int .i64)] fun (i17 : Int) h18 => Call Proofs.Tryz.prog 149 [.lf (.ptr a0), .lf
 (.int .i64 i5), .lf (.int .i64 i17)] h18 [] fun h19 => ∃ b20, b20 < b7 ∧ I2 (IntKind.wrap .i64 (i4 + 1)) (IntKind.wrap .i64 (i5 + 1)) h19 b20) (∃ b21, b21 < b7 ∧ I2 i4 (IntKind.wrap .i64 (i5 + 1)) h6
 b21)) (Call Proofs.Tryz.prog 151 [.lf (.ptr a0)] h6 [.one .slc] fun (s22 : Slc) h23 => ∃ (I24 : Int → Int → Heap → Nat → Prop), (∃ b25, I24 0 0 h23 b25) ∧ ∀ i26 i27 h28 b29, I24 i26 i27 h28 b29 → Br
 (decide (i27 < (↑(Slc.len s22) : Int))) (∃ (I30 : Int → Heap → Prop), (NilC a0 fun b31 b32 => ∃ s33, cellsAt h28 b31 (b32 + 2) [.slc s33] ∧ IxC s22 i27 1 fun b34 b35 => ∃ i36, cellsAt h28 b34 b35 [.int
 .i64 i36] ∧ IxC s33 i36 2 fun b37 b38 => ∃ s39, ∃ s40, cellsAt h28 b37 b38 [.slc s39, .slc s40] ∧ New 200 [.slc (Slc.mk none 0 0), .slc (Slc.mk none 0 0)] h28 fun b41 h42 => cellsAt h42 b37 b38 [.slc
 s39, .slc s40] ∧ cellsAt h42 b34 b35 [.int .i64 i36] ∧ cellsAt h42 b31 (b32 + 2) [.slc s33] ∧ Set b41 200 [.slc s39, .slc s40] h42 fun h43 => Call Proofs.Tryz.prog 152 [.agg [.slc s39, .slc s40]] h43
 [.one (.int .i64)] fun (i44 : Int) h45 => keepB h43 h45 [b41] ∧ Br (decide (i44 > 0)) (IxC s22 i27 1 fun b46 b47 => ∃ i48, cellsAt h45 b46 b47 [.int .i64 i48] ∧ Call Proofs.Tryz.prog 150 [.lf (.slc
 a1), .lf (.int .i64 i26), .lf (.int .i64 i44)] h45 [.one (.int .i64)] fun (i49 : Int) h50 => keepB h45 h50 [b41] ∧ cellsAt h50 b46 b47 [.int .i64 i48] ∧ Call Proofs.Tryz.prog 153 [.agg [.slc s39, .slc
 s40], .lf (.int .i64 i49)] h50 [.agg [.slc, .slc]] fun (s51 s52 : Slc) h53 => keepB h50 h53 [b41] ∧ cellsAt h53 b46 b47 [.int .i64 i48] ∧ Call Proofs.Tryz.prog 140 [.lf (.ptr a0), .lf (.int .i64 i48),
 .agg [.slc s51, .slc s52]] h53 [] fun h54 => keepB h53 h54 [b41] ∧ I30 (IntKind.wrap .i64 (i26 + 1)) h54) (I30 i26 h45)) ∧ ∀ i55 h56, I30 i55 h56 → ∃ b57, b57 < b29 ∧ I24 i55 (IntKind.wrap .i64 (i27 +
 1)) h56 b57) (R h28))
theorem ok85 {a0 : Option (Nat × Nat)} {a1 : Slc} {a2 : Slc} {h : Heap} {R : Heap → Prop} (hv : vc85 a0 a1 a2 h R) : Call Proofs.Tryz.prog 85 [.lf (.ptr a0), .lf (.slc a1), .lf (.slc a2)] h [] R := call_eq (pl := pl85) hng hmix Proofs.Tryz.func85 (by kernel_rfl) hv
def pl27 : Plan := {
  blk := fun _ => none
  seq := fun _ => none
  loop := fun _ => none
  live := fun | 0 => some [0] | 1 => some [3] | 2 => some [2] | _ => none
  track := fun | _ => false
  draw := fun | _ => .done
  iter := fun | _ => none }
def vc27 (a0 : Option (Nat × Nat)) (h : Heap) (R : Option (Nat × Nat) → Heap → Prop) : Prop :=
 NilC a0 fun b0 b1 => ∃ i2, ∃ s3, ∃ s4, ∃ i5, ∃ i6, ∃ i7, ∃ c8, cellsAt h b0 b1 [.int .i64 i2, .slc s3, .slc s4, .int .i64 i5, .int .i64 i6, .int .i64 i7, .bool c8] ∧ New 144 [.int .i64 0, .slc (Slc.mk
 none 0 0), .slc (Slc.mk none 0 0), .int .i64 0, .int .i64 0, .int .i64 0, .bool false] h fun b9 h10 => StC h10 b9 0 [.int .i64 i2, .slc s3, .slc s4, .int .i64 i5, .int .i64 i6, .int .i64 i7, .bool c8]
 fun h11 => R (some (b9, 0)) h11
theorem ok27 {a0 : Option (Nat × Nat)} {h : Heap} {R : Option (Nat × Nat) → Heap → Prop} (hv : vc27 a0 h R) : Call Proofs.Tryz.prog 27 [.lf (.ptr a0)] h [.one .ptr] R := call_eq (pl := pl27) hng hmix Proofs.Tryz.func27 (by kernel_rfl) hv
end Go.V.YtdeihieblljfcaaGreat
