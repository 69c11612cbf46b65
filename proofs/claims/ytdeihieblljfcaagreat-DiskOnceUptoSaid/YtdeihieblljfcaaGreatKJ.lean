/- This text proves a part of the laws of seat YtdeihieblljfcaaGreat, under no condition: F1h. -/
import Derived.Test.YtdeihieblljfcaaGreatKC
import Derived.Eval
import Derived.Test.YtdeihieblljfcaaGreatChecked
import Derived.Test.YtdeihieblljfcaaGreatKE
set_option linter.unusedVariables false
set_option maxRecDepth 100000
namespace Go.V.YtdeihieblljfcaaGreat
open Go Go.V
/- 136: (*sediment.sedimentref02.FS).Write () · seq 6: #39 · seq 9: #66 · seq 13: #3 · seq 14: #87 · seq 17:  -/
def pl136 : Plan := {
  blk := fun _ => none
  seq := fun | 6 => some ⟨[(39, .one .bool)], [], []⟩ | 9 => some ⟨[(66, .one .bool)], [], []⟩ | 13 => some ⟨[(3, .one .slc)], [], []⟩ | 14 => some ⟨[(87, .one .bool)], [], []⟩ | 17 => some ⟨[], [], []⟩ | _ => none
  loop := fun _ => none
  live := fun | 0 => some [0, 1, 2, 3] | 1 => some [0, 2, 3, 9, 10] | 2 => some [0, 2, 3, 9, 10, 22] | 3 => some [8] | 4 => some [0, 2, 3, 9, 11] | 5 => some [0, 2, 3, 9, 11, 39] | 6 => some [8] | 7 => some [0, 2, 3, 9, 12] | 8 => some [0, 2, 3, 9, 66] | 9 => some [8] | 10 => some [0, 2, 3, 9, 10, 13] | 11 => some [0, 2, 3, 9, 10, 13, 72] | 12 => some [0, 2, 3, 9, 10, 13] | 13 => some [0, 2, 3, 9, 10, 87] | 14 => some [0, 2, 3, 9, 10, 14] | 15 => some [0, 9, 10, 14] | 16 => some [10] | 17 => some [8] | _ => none
  track := fun | 14 => true | _ => false
  draw := fun | 8 => .still 0 (.still 1 (.still 2 (.still 3 (.still 4 (.still 5 (.still 6 (.still 7 (.still 8 (.still 9 (.still 10 (.still 12 (.still 13 (.still 14 (.still 15 (.still 16 (.still 17 (.mem 11 (.still 18 (.still 19 (.still 20 (.done))))))))))))))))))))) | _ => .done
  iter := fun | _ => none }
def vc136 (a0 : Option (Nat × Nat)) (a1 : ByteArray) (a2 : Int) (a3 : Slc) (h : Heap) (R : Int → Heap → Prop) : Prop :=
 Call Go.Proofs.Tryz.prog 138 [VV.lf (Lf.ptr a0), VV.lf (Lf.str a1)] h [VT.one (LT.int IntKind.i64), VT.one (LT.int IntKind.i64)]
 fun (i0 i1 : Int) (h2 : Heap) =>
 Br (i1 != (0 : Int)) (R i1 h2)
 (NilC a0 fun (b3 b4 : Nat) =>
 ∃ (s5 : Slc),
 cellsAt h2 b3 (b4 + 2) [Lf.slc s5] ∧
 IxC s5 i0 2 fun (b6 b7 : Nat) =>
 ∃ (s8 : Slc),
 ∃ (s9 : Slc),
 cellsAt h2 b6 b7 [Lf.slc s8, Lf.slc s9] ∧
 Call Go.Proofs.Tryz.prog 139 [VV.agg [Lf.slc s8, Lf.slc s9]] h2 [VT.one LT.slc] fun (s10 : Slc) (h11 : Heap) =>
 ∃ (I12 : Bool → Heap → Prop),
 Br (Decidable.decide (a2 < (0 : Int))) (I12 Bool.true h11) (I12 (Decidable.decide (a2 > (↑(Slc.len s10) : Int))) h11) ∧
 ∀ (c13 : Bool) (h14 : Heap),
 I12 c13 h14 →
 Br c13 (R (1 : Int) h14)
 (∃ (I15 : Bool → Heap → Prop),
 Br (Decidable.decide (IntKind.wrap IntKind.i64 ((↑(Slc.len a3) : Int) - IntKind.wrap IntKind.i64 ((↑(Slc.len s10) : Int) - a2)) > (0 : Int)))
 (NilC a0 fun (b16 b17 : Nat) =>
 ∃ (i18 : Int),
 cellsAt h14 b16 (b17 + 0) [Lf.int IntKind.i64 i18] ∧
 Br
 (Decidable.decide (IntKind.wrap IntKind.i64 ((↑(Slc.len a3) : Int) - IntKind.wrap IntKind.i64 ((↑(Slc.len s10) : Int) - a2)) > i18))
 (I15 Bool.true h14)
 (NilC a0 fun (b19 b20 : Nat) =>
 ∃ (i21 : Int),
 cellsAt h14 b19 (b20 + 0) [Lf.int IntKind.i64 i21] ∧
 Call Go.Proofs.Tryz.prog 88 [VV.lf (Lf.ptr a0)] h14 [VT.one (LT.int IntKind.i64)]
 fun (i22 : Int) (h23 : Heap) =>
 cellsAt h23 b19 (b20 + 0) [Lf.int IntKind.i64 i21] ∧
 I15
 (Decidable.decide
 (i22 >
 IntKind.wrap IntKind.i64
 (i21 - IntKind.wrap IntKind.i64 ((↑(Slc.len a3) : Int) - IntKind.wrap IntKind.i64 ((↑(Slc.len s10) : Int) - a2)))))
 h23))
 (I15 Bool.false h14) ∧
 ∀ (c24 : Bool) (h25 : Heap),
 I15 c24 h25 →
 Br c24 (R (20 : Int) h25)
 (Call Go.Proofs.Tryz.prog 196 [VV.lf (Lf.ptr a0)] h25 [VT.one (LT.int IntKind.i64), VT.one LT.bool]
 fun (i26 : Int) (c27 : Bool) (h28 : Heap) =>
 ∃ (I29 : Slc → Heap → Prop),
 Br c27
 (((2 : Int) = (0 : Int) → False) ∧
 (0 : Int) ≤ IntKind.wrap IntKind.i64 (Int.tdiv (↑(Slc.len a3) : Int) (2 : Int)) ∧
 IntKind.wrap IntKind.i64 (Int.tdiv (↑(Slc.len a3) : Int) (2 : Int)) ≤ (↑(Slc.cap a3) : Int) ∧
 I29
 (Slc.sub a3 1 0 (Int.toNat (IntKind.wrap IntKind.i64 (Int.tdiv (↑(Slc.len a3) : Int) (2 : Int))))
 (Slc.cap a3))
 h28)
 (I29 a3 h28) ∧
 ∀ (s30 : Slc) (h31 : Heap),
 I29 s30 h31 →
 ∃ (I32 : Heap → Prop),
 (∃ (I33 : Bool → Heap → Prop),
 Br (i26 == (0 : Int)) (I33 (Decidable.decide ((↑(Slc.len s30) : Int) > (0 : Int))) h31)
 (Br c27 (I33 (Decidable.decide ((↑(Slc.len s30) : Int) > (0 : Int))) h31) (I33 Bool.false h31)) ∧
 ∀ (c34 : Bool) (h35 : Heap),
 I33 c34 h35 →
 Br c34
 (NilC a0 fun (b36 b37 : Nat) =>
 ∃ (s38 : Slc),
 cellsAt h35 b36 (b37 + 2) [Lf.slc s38] ∧
 IxC s38 i0 2 fun (b39 b40 : Nat) =>
 ∃ (s41 : Slc),
 ∃ (s42 : Slc),
 cellsAt h35 b39 b40 [Lf.slc s41, Lf.slc s42] ∧
 New 200
 [Lf.slc (Slc.mk Option.none 0 0), Lf.slc (Slc.mk Option.none 0 0)]
 h35 fun (b43 : Nat) (h44 : Heap) =>
 Set b43 200 [Lf.slc s41, Lf.slc s42] h44 fun (h45 : Heap) =>
 New 241 [] h45 fun (b46 : Nat) (h47 : Heap) =>
 AppC 241
 [Lf.int IntKind.i64 (0 : Int), Lf.slc (Slc.mk Option.none 0 0)] 2
 32 (Slc.mk (Option.some (b46, 0)) 0 0) s42 h47
 fun (s48 : Slc) (h49 : Heap) =>
 keepB h47 h49 [b43] ∧
 New 5 [] h49 fun (b50 : Nat) (h51 : Heap) =>
 AppC 5 [Lf.int IntKind.u8 (0 : Int)] 1 1
 (Slc.mk (Option.some (b50, 0)) 0 0) s30 h51
 fun (s52 : Slc) (h53 : Heap) =>
 keepB h51 h53 [b43] ∧
 New 241 [Lf.int IntKind.i64 a2, Lf.slc s52] h53
 fun (b54 : Nat) (h55 : Heap) =>
 AppC 241
 [Lf.int IntKind.i64 (0 : Int), Lf.slc (Slc.mk Option.none 0 0)]
 2 32 s48 (Slc.mk (Option.some (b54, 0)) 1 1) h55
 fun (s56 : Slc) (h57 : Heap) =>
 keepB h55 h57 [b43] ∧
 Set b43 200 [Lf.slc s41, Lf.slc s56] h57 fun (h58 : Heap) =>
 Call Go.Proofs.Tryz.prog 140
 [VV.lf (Lf.ptr a0), VV.lf (Lf.int IntKind.i64 i0),
 VV.agg [Lf.slc s41, Lf.slc s56]]
 h58 [] fun (h59 : Heap) => keepB h58 h59 [b43] ∧ I32 h59)
 (I32 h35)) ∧
 ∀ (h60 : Heap), I32 h60 → R i26 h60)))
theorem eq136 (a0 : Option (Nat × Nat)) (a1 : ByteArray) (a2 : Int) (a3 : Slc) (h : Heap) (R : Int → Heap → Prop) : vc136 a0 a1 a2 a3 h R = vcFn Go.Proofs.Tryz.prog pl136 Go.Proofs.Tryz.f136 [.lf (.ptr a0), .lf (.str a1), .lf (.int .i64 a2), .lf (.slc a3)] h [.one (.int .i64)] R := by kernel_rfl
theorem ok136 {a0 : Option (Nat × Nat)} {a1 : ByteArray} {a2 : Int} {a3 : Slc} {h : Heap} {R : Int → Heap → Prop} (hv : vc136 a0 a1 a2 a3 h R) : Call Go.Proofs.Tryz.prog 136 [.lf (.ptr a0), .lf (.str a1), .lf (.int .i64 a2), .lf (.slc a3)] h [.one (.int .i64)] R := call_eq hng hmix Go.Proofs.Tryz.func136 (eq136 a0 a1 a2 a3 h R) hv
/- 137: (*sediment.sedimentref02.FS).Append (f, path, b) -/
def pl137 : Plan := {
  blk := fun _ => none
  seq := fun _ => none
  loop := fun _ => none
  live := fun | 0 => some [0, 1, 2] | 1 => some [0, 1, 2, 7, 8] | 2 => some [0, 1, 2, 7, 8, 16] | 3 => some [6] | 4 => some [6] | _ => none
  track := fun | _ => false
  draw := fun | _ => .done
  iter := fun | _ => none }
def vc137 (a0 : Option (Nat × Nat)) (a1 : ByteArray) (a2 : Slc) (h : Heap) (R : Int → Heap → Prop) : Prop :=
 Call Go.Proofs.Tryz.prog 138 [VV.lf (Lf.ptr a0), VV.lf (Lf.str a1)] h [VT.one (LT.int IntKind.i64), VT.one (LT.int IntKind.i64)]
 fun (i0 i1 : Int) (h2 : Heap) =>
 Br (i1 != (0 : Int)) (R i1 h2)
 (NilC a0 fun (b3 b4 : Nat) =>
 ∃ (s5 : Slc),
 cellsAt h2 b3 (b4 + 2) [Lf.slc s5] ∧
 IxC s5 i0 2 fun (b6 b7 : Nat) =>
 ∃ (s8 : Slc),
 ∃ (s9 : Slc),
 cellsAt h2 b6 b7 [Lf.slc s8, Lf.slc s9] ∧
 Call Go.Proofs.Tryz.prog 139 [VV.agg [Lf.slc s8, Lf.slc s9]] h2 [VT.one LT.slc] fun (s10 : Slc) (h11 : Heap) =>
 Call Go.Proofs.Tryz.prog 136
 [VV.lf (Lf.ptr a0), VV.lf (Lf.str a1), VV.lf (Lf.int IntKind.i64 (↑(Slc.len s10) : Int)), VV.lf (Lf.slc a2)] h11
 [VT.one (LT.int IntKind.i64)] fun (i12 : Int) (h13 : Heap) => R i12 h13)
theorem eq137 (a0 : Option (Nat × Nat)) (a1 : ByteArray) (a2 : Slc) (h : Heap) (R : Int → Heap → Prop) : vc137 a0 a1 a2 h R = vcFn Go.Proofs.Tryz.prog pl137 Go.Proofs.Tryz.f137 [.lf (.ptr a0), .lf (.str a1), .lf (.slc a2)] h [.one (.int .i64)] R := by kernel_rfl
theorem ok137 {a0 : Option (Nat × Nat)} {a1 : ByteArray} {a2 : Slc} {h : Heap} {R : Int → Heap → Prop} (hv : vc137 a0 a1 a2 h R) : Call Go.Proofs.Tryz.prog 137 [.lf (.ptr a0), .lf (.str a1), .lf (.slc a2)] h [.one (.int .i64)] R := call_eq hng hmix Go.Proofs.Tryz.func137 (eq137 a0 a1 a2 h R) hv
/- 72: (*sediment.sedimentref02.FS).Cut (f, path, n) · seq 7:  -/
def pl72 : Plan := {
  blk := fun _ => none
  seq := fun | 7 => some ⟨[], [], []⟩ | _ => none
  loop := fun _ => none
  live := fun | 0 => some [0, 1, 2] | 1 => some [0, 2, 7, 8] | 2 => some [0, 2, 7, 8, 17] | 3 => some [6] | 4 => some [0, 2, 7, 9] | 5 => some [0, 2, 7, 9, 34] | 6 => some [6] | 7 => some [0, 2, 7, 8, 9] | 8 => some [0, 2, 7, 8, 9, 38] | 9 => some [8] | 10 => some [6] | _ => none
  track := fun | _ => false
  draw := fun | _ => .done
  iter := fun | _ => none }
def vc72 (a0 : Option (Nat × Nat)) (a1 : ByteArray) (a2 : Int) (h : Heap) (R : Int → Heap → Prop) : Prop :=
 Call Go.Proofs.Tryz.prog 138 [VV.lf (Lf.ptr a0), VV.lf (Lf.str a1)] h [VT.one (LT.int IntKind.i64), VT.one (LT.int IntKind.i64)]
 fun (i0 i1 : Int) (h2 : Heap) =>
 Br (i1 != (0 : Int)) (R i1 h2)
 (NilC a0 fun (b3 b4 : Nat) =>
 ∃ (s5 : Slc),
 cellsAt h2 b3 (b4 + 2) [Lf.slc s5] ∧
 IxC s5 i0 2 fun (b6 b7 : Nat) =>
 ∃ (s8 : Slc),
 ∃ (s9 : Slc),
 cellsAt h2 b6 b7 [Lf.slc s8, Lf.slc s9] ∧
 Call Go.Proofs.Tryz.prog 139 [VV.agg [Lf.slc s8, Lf.slc s9]] h2 [VT.one LT.slc] fun (s10 : Slc) (h11 : Heap) =>
 ∃ (I12 : Heap → Prop),
 Br (Decidable.decide (a2 < (0 : Int))) (R (1 : Int) h11) (Br (Decidable.decide (a2 > (↑(Slc.len s10) : Int))) (R (1 : Int) h11) (I12 h11)) ∧
 ∀ (h13 : Heap),
 I12 h13 →
 Call Go.Proofs.Tryz.prog 129 [VV.lf (Lf.ptr a0)] h13 [VT.one (LT.int IntKind.i64)] fun (i14 : Int) (h15 : Heap) =>
 Br (i14 == (0 : Int))
 ((0 : Int) ≤ a2 ∧
 a2 ≤ (↑(Slc.cap s10) : Int) ∧
 Call Go.Proofs.Tryz.prog 140
 [VV.lf (Lf.ptr a0), VV.lf (Lf.int IntKind.i64 i0),
 VV.agg [Lf.slc (Slc.sub s10 1 0 (Int.toNat a2) (Slc.cap s10)), Lf.slc (Slc.mk Option.none 0 0)]]
 h15 [] fun (h16 : Heap) => R i14 h16)
 (R i14 h15))
theorem eq72 (a0 : Option (Nat × Nat)) (a1 : ByteArray) (a2 : Int) (h : Heap) (R : Int → Heap → Prop) : vc72 a0 a1 a2 h R = vcFn Go.Proofs.Tryz.prog pl72 Go.Proofs.Tryz.f72 [.lf (.ptr a0), .lf (.str a1), .lf (.int .i64 a2)] h [.one (.int .i64)] R := by kernel_rfl
theorem ok72 {a0 : Option (Nat × Nat)} {a1 : ByteArray} {a2 : Int} {h : Heap} {R : Int → Heap → Prop} (hv : vc72 a0 a1 a2 h R) : Call Go.Proofs.Tryz.prog 72 [.lf (.ptr a0), .lf (.str a1), .lf (.int .i64 a2)] h [.one (.int .i64)] R := call_eq hng hmix Go.Proofs.Tryz.func72 (eq72 a0 a1 a2 h R) hv
/- 79: (*sediment.sedimentref02.FS).Sync (f, path) -/
def pl79 : Plan := {
  blk := fun _ => none
  seq := fun _ => none
  loop := fun _ => none
  live := fun | 0 => some [0, 1] | 1 => some [0, 5, 6] | 2 => some [0, 5, 6, 14] | 3 => some [4] | 4 => some [0, 5, 6] | 5 => some [0, 5, 6, 19] | 6 => some [6] | 7 => some [4] | _ => none
  track := fun | _ => false
  draw := fun | _ => .done
  iter := fun | _ => none }
def vc79 (a0 : Option (Nat × Nat)) (a1 : ByteArray) (h : Heap) (R : Int → Heap → Prop) : Prop :=
 Call Go.Proofs.Tryz.prog 138 [VV.lf (Lf.ptr a0), VV.lf (Lf.str a1)] h [VT.one (LT.int IntKind.i64), VT.one (LT.int IntKind.i64)]
 fun (i0 i1 : Int) (h2 : Heap) =>
 Br (i1 != (0 : Int)) (R i1 h2)
 (Call Go.Proofs.Tryz.prog 129 [VV.lf (Lf.ptr a0)] h2 [VT.one (LT.int IntKind.i64)] fun (i3 : Int) (h4 : Heap) =>
 Br (i3 == (0 : Int))
 (NilC a0 fun (b5 b6 : Nat) =>
 ∃ (s7 : Slc),
 cellsAt h4 b5 (b6 + 2) [Lf.slc s7] ∧
 IxC s7 i0 2 fun (b8 b9 : Nat) =>
 ∃ (s10 : Slc),
 ∃ (s11 : Slc),
 cellsAt h4 b8 b9 [Lf.slc s10, Lf.slc s11] ∧
 Call Go.Proofs.Tryz.prog 139 [VV.agg [Lf.slc s10, Lf.slc s11]] h4 [VT.one LT.slc] fun (s12 : Slc) (h13 : Heap) =>
 Call Go.Proofs.Tryz.prog 140
 [VV.lf (Lf.ptr a0), VV.lf (Lf.int IntKind.i64 i0), VV.agg [Lf.slc s12, Lf.slc (Slc.mk Option.none 0 0)]] h13 []
 fun (h14 : Heap) => R i3 h14)
 (R i3 h4))
theorem eq79 (a0 : Option (Nat × Nat)) (a1 : ByteArray) (h : Heap) (R : Int → Heap → Prop) : vc79 a0 a1 h R = vcFn Go.Proofs.Tryz.prog pl79 Go.Proofs.Tryz.f79 [.lf (.ptr a0), .lf (.str a1)] h [.one (.int .i64)] R := by kernel_rfl
theorem ok79 {a0 : Option (Nat × Nat)} {a1 : ByteArray} {h : Heap} {R : Int → Heap → Prop} (hv : vc79 a0 a1 h R) : Call Go.Proofs.Tryz.prog 79 [.lf (.ptr a0), .lf (.str a1)] h [.one (.int .i64)] R := call_eq hng hmix Go.Proofs.Tryz.func79 (eq79 a0 a1 h R) hv
/- 80: (*sediment.sedimentref02.FS).SyncDir (f, dir) -/
def pl80 : Plan := {
  blk := fun _ => none
  seq := fun _ => none
  loop := fun _ => none
  live := fun | 0 => some [0, 1] | 1 => some [0, 5, 6] | 2 => some [0, 5, 6, 14] | 3 => some [4] | 4 => some [0, 5, 6] | 5 => some [0, 5, 6, 19] | 6 => some [6] | 7 => some [4] | _ => none
  track := fun | _ => false
  draw := fun | _ => .done
  iter := fun | _ => none }
def vc80 (a0 : Option (Nat × Nat)) (a1 : ByteArray) (h : Heap) (R : Int → Heap → Prop) : Prop :=
 Call Go.Proofs.Tryz.prog 148 [VV.lf (Lf.ptr a0), VV.lf (Lf.str a1)] h [VT.one (LT.int IntKind.i64), VT.one (LT.int IntKind.i64)]
 fun (i0 i1 : Int) (h2 : Heap) =>
 Br (i1 != (0 : Int)) (R i1 h2)
 (Call Go.Proofs.Tryz.prog 129 [VV.lf (Lf.ptr a0)] h2 [VT.one (LT.int IntKind.i64)] fun (i3 : Int) (h4 : Heap) =>
 Br (i3 == (0 : Int))
 (NilC a0 fun (b5 b6 : Nat) =>
 ∃ (s7 : Slc),
 cellsAt h4 b5 (b6 + 1) [Lf.slc s7] ∧
 IxC s7 i0 2 fun (b8 b9 : Nat) =>
 ∃ (s10 : Slc),
 cellsAt h4 b8 (b9 + 1) [Lf.slc s10] ∧
 Call Go.Proofs.Tryz.prog 149
 [VV.lf (Lf.ptr a0), VV.lf (Lf.int IntKind.i64 i0),
 VV.lf (Lf.int IntKind.i64 (IntKind.wrap IntKind.i64 ((↑(Slc.len s10) : Int) - (1 : Int))))]
 h4 [] fun (h11 : Heap) => R i3 h11)
 (R i3 h4))
theorem eq80 (a0 : Option (Nat × Nat)) (a1 : ByteArray) (h : Heap) (R : Int → Heap → Prop) : vc80 a0 a1 h R = vcFn Go.Proofs.Tryz.prog pl80 Go.Proofs.Tryz.f80 [.lf (.ptr a0), .lf (.str a1)] h [.one (.int .i64)] R := by kernel_rfl
theorem ok80 {a0 : Option (Nat × Nat)} {a1 : ByteArray} {h : Heap} {R : Int → Heap → Prop} (hv : vc80 a0 a1 h R) : Call Go.Proofs.Tryz.prog 80 [.lf (.ptr a0), .lf (.str a1)] h [.one (.int .i64)] R := call_eq hng hmix Go.Proofs.Tryz.func80 (eq80 a0 a1 h R) hv
/- 149: (*sediment.sedimentref02.FS).settle (f, i, n) -/
def pl149 : Plan := {
  blk := fun _ => none
  seq := fun _ => none
  loop := fun _ => none
  live := fun | 0 => some [0, 1, 2, 6] | 1 => some [0, 6] | 2 => some [] | _ => none
  track := fun | _ => false
  draw := fun | _ => .done
  iter := fun | _ => none }
def vc149 (a0 : Option (Nat × Nat)) (a1 : Int) (a2 : Int) (h : Heap) (R : Heap → Prop) : Prop :=
 New 192 [] h fun (b0 : Nat) (h1 : Heap) =>
 NilC a0 fun (b2 b3 : Nat) =>
 ∃ (s4 : Slc),
 cellsAt h1 b2 (b3 + 1) [Lf.slc s4] ∧
 AppC 192 [Lf.str (ByteArray.mk #[]), Lf.slc (Slc.mk Option.none 0 0)] 2 40
 (Slc.mk (Option.some (b0, 0)) 0 0) s4 h1 fun (s5 : Slc) (h6 : Heap) =>
 IxC s5 a1 2 fun (b7 b8 : Nat) =>
 ∃ (s9 : Slc),
 cellsAt h6 b7 (b8 + 1) [Lf.slc s9] ∧
 IxC s9 a2 2 fun (b10 b11 : Nat) =>
 ∃ (s12 : Slc),
 ∃ (s13 : Slc),
 cellsAt h6 b10 b11 [Lf.slc s12, Lf.slc s13] ∧
 New 194 [Lf.slc s12, Lf.slc s13] h6 fun (b14 : Nat) (h15 : Heap) =>
 IxC s5 a1 2 fun (b16 b17 : Nat) =>
 StC h15 b16 (b17 + 1) [Lf.slc (Slc.mk (Option.some (b14, 0)) 1 1)] fun (h18 : Heap) =>
 NilC a0 fun (b19 b20 : Nat) => StC h18 b19 (b20 + 1) [Lf.slc s5] fun (h21 : Heap) => R h21
theorem eq149 (a0 : Option (Nat × Nat)) (a1 : Int) (a2 : Int) (h : Heap) (R : Heap → Prop) : vc149 a0 a1 a2 h R = vcFn Go.Proofs.Tryz.prog pl149 Go.Proofs.Tryz.f149 [.lf (.ptr a0), .lf (.int .i64 a1), .lf (.int .i64 a2)] h [] R := by kernel_rfl
theorem ok149 {a0 : Option (Nat × Nat)} {a1 : Int} {a2 : Int} {h : Heap} {R : Heap → Prop} (hv : vc149 a0 a1 a2 h R) : Call Go.Proofs.Tryz.prog 149 [.lf (.ptr a0), .lf (.int .i64 a1), .lf (.int .i64 a2)] h [] R := call_eq hng hmix Go.Proofs.Tryz.func149 (eq149 a0 a1 a2 h R) hv
/- 154: (*sediment.sedimentref02.FS).Read (f, path) -/
def pl154 : Plan := {
  blk := fun _ => none
  seq := fun _ => none
  loop := fun _ => none
  live := fun | 0 => some [0, 1] | 1 => some [0, 6, 7] | 2 => some [0, 6, 7, 15] | 3 => some [4, 5] | 4 => some [4, 5] | _ => none
  track := fun | _ => false
  draw := fun | _ => .done
  iter := fun | _ => none }
def vc154 (a0 : Option (Nat × Nat)) (a1 : ByteArray) (h : Heap) (R : Slc → Int → Heap → Prop) : Prop :=
 Call Go.Proofs.Tryz.prog 138 [VV.lf (Lf.ptr a0), VV.lf (Lf.str a1)] h [VT.one (LT.int IntKind.i64), VT.one (LT.int IntKind.i64)]
 fun (i0 i1 : Int) (h2 : Heap) =>
 Br (i1 != (0 : Int)) (R (Slc.mk Option.none 0 0) i1 h2)
 (NilC a0 fun (b3 b4 : Nat) =>
 ∃ (s5 : Slc),
 cellsAt h2 b3 (b4 + 2) [Lf.slc s5] ∧
 IxC s5 i0 2 fun (b6 b7 : Nat) =>
 ∃ (s8 : Slc),
 ∃ (s9 : Slc),
 cellsAt h2 b6 b7 [Lf.slc s8, Lf.slc s9] ∧
 Call Go.Proofs.Tryz.prog 139 [VV.agg [Lf.slc s8, Lf.slc s9]] h2 [VT.one LT.slc] fun (s10 : Slc) (h11 : Heap) =>
 R s10 (0 : Int) h11)
theorem eq154 (a0 : Option (Nat × Nat)) (a1 : ByteArray) (h : Heap) (R : Slc → Int → Heap → Prop) : vc154 a0 a1 h R = vcFn Go.Proofs.Tryz.prog pl154 Go.Proofs.Tryz.f154 [.lf (.ptr a0), .lf (.str a1)] h [.one .slc, .one (.int .i64)] R := by kernel_rfl
theorem ok154 {a0 : Option (Nat × Nat)} {a1 : ByteArray} {h : Heap} {R : Slc → Int → Heap → Prop} (hv : vc154 a0 a1 h R) : Call Go.Proofs.Tryz.prog 154 [.lf (.ptr a0), .lf (.str a1)] h [.one .slc, .one (.int .i64)] R := call_eq hng hmix Go.Proofs.Tryz.func154 (eq154 a0 a1 h R) hv
/- 157: (*sediment.sedimentref02.FS).ReadAt (f, path, at, n) -/
def pl157 : Plan := {
  blk := fun _ => none
  seq := fun _ => none
  loop := fun _ => none
  live := fun | 0 => some [0, 1, 2, 3] | 1 => some [2, 3, 10, 11] | 2 => some [2, 3, 10, 11, 18] | 3 => some [8, 9] | 4 => some [2, 3, 10, 22] | 5 => some [8, 9] | 6 => some [3, 10] | 7 => some [3, 10, 41] | 8 => some [10] | 9 => some [8, 9] | _ => none
  track := fun | _ => false
  draw := fun | _ => .done
  iter := fun | _ => none }
def vc157 (a0 : Option (Nat × Nat)) (a1 : ByteArray) (a2 : Int) (a3 : Int) (h : Heap) (R : Slc → Int → Heap → Prop) : Prop :=
 Call Go.Proofs.Tryz.prog 154 [VV.lf (Lf.ptr a0), VV.lf (Lf.str a1)] h [VT.one LT.slc, VT.one (LT.int IntKind.i64)]
 fun (s0 : Slc) (i1 : Int) (h2 : Heap) =>
 Br (i1 != (0 : Int)) (R (Slc.mk Option.none 0 0) i1 h2)
 (Br (Decidable.decide (a3 < (0 : Int))) (R (Slc.mk Option.none 0 0) (1 : Int) h2)
 (Br (Decidable.decide (a2 < (0 : Int))) (R (Slc.mk Option.none 0 0) (1 : Int) h2)
 (Br (Decidable.decide (a2 > (↑(Slc.len s0) : Int))) (R (Slc.mk Option.none 0 0) (1 : Int) h2)
 ((0 : Int) ≤ a2 ∧
 a2 ≤ (↑(Slc.len s0) : Int) ∧
 Br (Decidable.decide ((↑(Slc.len (Slc.sub s0 1 (Int.toNat a2) (Slc.len s0) (Slc.cap s0))) : Int) > a3))
 ((0 : Int) ≤ a3 ∧
 a3 ≤ (↑(Slc.cap (Slc.sub s0 1 (Int.toNat a2) (Slc.len s0) (Slc.cap s0))) : Int) ∧
 R
 (Slc.sub (Slc.sub s0 1 (Int.toNat a2) (Slc.len s0) (Slc.cap s0)) 1 0 (Int.toNat a3)
 (Slc.cap (Slc.sub s0 1 (Int.toNat a2) (Slc.len s0) (Slc.cap s0))))
 (0 : Int) h2)
 (R (Slc.sub s0 1 (Int.toNat a2) (Slc.len s0) (Slc.cap s0)) (0 : Int) h2)))))
theorem eq157 (a0 : Option (Nat × Nat)) (a1 : ByteArray) (a2 : Int) (a3 : Int) (h : Heap) (R : Slc → Int → Heap → Prop) : vc157 a0 a1 a2 a3 h R = vcFn Go.Proofs.Tryz.prog pl157 Go.Proofs.Tryz.f157 [.lf (.ptr a0), .lf (.str a1), .lf (.int .i64 a2), .lf (.int .i64 a3)] h [.one .slc, .one (.int .i64)] R := by kernel_rfl
theorem ok157 {a0 : Option (Nat × Nat)} {a1 : ByteArray} {a2 : Int} {a3 : Int} {h : Heap} {R : Slc → Int → Heap → Prop} (hv : vc157 a0 a1 a2 a3 h R) : Call Go.Proofs.Tryz.prog 157 [.lf (.ptr a0), .lf (.str a1), .lf (.int .i64 a2), .lf (.int .i64 a3)] h [.one .slc, .one (.int .i64)] R := call_eq hng hmix Go.Proofs.Tryz.func157 (eq157 a0 a1 a2 a3 h R) hv
/- 159: (*sediment.sedimentref02.FS).Unsynced (f, path) -/
def pl159 : Plan := {
  blk := fun _ => none
  seq := fun _ => none
  loop := fun _ => none
  live := fun | 0 => some [0, 1] | 1 => some [0, 6, 7] | 2 => some [0, 6, 7, 15] | 3 => some [4, 5] | 4 => some [4, 5] | _ => none
  track := fun | _ => false
  draw := fun | _ => .done
  iter := fun | _ => none }
def vc159 (a0 : Option (Nat × Nat)) (a1 : ByteArray) (h : Heap) (R : Int → Int → Heap → Prop) : Prop :=
 Call Go.Proofs.Tryz.prog 138 [VV.lf (Lf.ptr a0), VV.lf (Lf.str a1)] h [VT.one (LT.int IntKind.i64), VT.one (LT.int IntKind.i64)]
 fun (i0 i1 : Int) (h2 : Heap) =>
 Br (i1 != (0 : Int)) (R (0 : Int) i1 h2)
 (NilC a0 fun (b3 b4 : Nat) =>
 ∃ (s5 : Slc),
 cellsAt h2 b3 (b4 + 2) [Lf.slc s5] ∧
 IxC s5 i0 2 fun (b6 b7 : Nat) =>
 ∃ (s8 : Slc),
 ∃ (s9 : Slc),
 cellsAt h2 b6 b7 [Lf.slc s8, Lf.slc s9] ∧
 Call Go.Proofs.Tryz.prog 152 [VV.agg [Lf.slc s8, Lf.slc s9]] h2 [VT.one (LT.int IntKind.i64)] fun (i10 : Int) (h11 : Heap) =>
 R i10 (0 : Int) h11)
theorem eq159 (a0 : Option (Nat × Nat)) (a1 : ByteArray) (h : Heap) (R : Int → Int → Heap → Prop) : vc159 a0 a1 h R = vcFn Go.Proofs.Tryz.prog pl159 Go.Proofs.Tryz.f159 [.lf (.ptr a0), .lf (.str a1)] h [.one (.int .i64), .one (.int .i64)] R := by kernel_rfl
theorem ok159 {a0 : Option (Nat × Nat)} {a1 : ByteArray} {h : Heap} {R : Int → Int → Heap → Prop} (hv : vc159 a0 a1 h R) : Call Go.Proofs.Tryz.prog 159 [.lf (.ptr a0), .lf (.str a1)] h [.one (.int .i64), .one (.int .i64)] R := call_eq hng hmix Go.Proofs.Tryz.func159 (eq159 a0 a1 h R) hv
/- 92: (*sediment.sedimentref02.FS).Open (f, dir) -/
def pl92 : Plan := {
  blk := fun _ => none
  seq := fun _ => none
  loop := fun _ => none
  live := fun | 0 => some [0, 1] | 1 => some [0, 6, 7] | 2 => some [0, 6, 7, 15] | 3 => some [4, 5] | 4 => some [4, 5] | _ => none
  track := fun | _ => false
  draw := fun | _ => .done
  iter := fun | _ => none }
def vc92 (a0 : Option (Nat × Nat)) (a1 : ByteArray) (h : Heap) (R : Int → Int → Heap → Prop) : Prop :=
 Call Go.Proofs.Tryz.prog 148 [VV.lf (Lf.ptr a0), VV.lf (Lf.str a1)] h [VT.one (LT.int IntKind.i64), VT.one (LT.int IntKind.i64)]
 fun (i0 i1 : Int) (h2 : Heap) =>
 Br (i1 != (0 : Int)) (R (0 : Int) i1 h2)
 (NilC a0 fun (b3 b4 : Nat) =>
 ∃ (s5 : Slc),
 cellsAt h2 b3 (b4 + 1) [Lf.slc s5] ∧
 IxC s5 i0 2 fun (b6 b7 : Nat) =>
 ∃ (s8 : Slc), cellsAt h2 b6 (b7 + 1) [Lf.slc s8] ∧ R (IntKind.wrap IntKind.i64 ((↑(Slc.len s8) : Int) - (1 : Int))) (0 : Int) h2)
theorem eq92 (a0 : Option (Nat × Nat)) (a1 : ByteArray) (h : Heap) (R : Int → Int → Heap → Prop) : vc92 a0 a1 h R = vcFn Go.Proofs.Tryz.prog pl92 Go.Proofs.Tryz.f92 [.lf (.ptr a0), .lf (.str a1)] h [.one (.int .i64), .one (.int .i64)] R := by kernel_rfl
theorem ok92 {a0 : Option (Nat × Nat)} {a1 : ByteArray} {h : Heap} {R : Int → Int → Heap → Prop} (hv : vc92 a0 a1 h R) : Call Go.Proofs.Tryz.prog 92 [.lf (.ptr a0), .lf (.str a1)] h [.one (.int .i64), .one (.int .i64)] R := call_eq hng hmix Go.Proofs.Tryz.func92 (eq92 a0 a1 h R) hv
/- 84: (*sediment.sedimentref02.FS).Flip () · seq 8: #32 -/
def pl84 : Plan := {
  blk := fun _ => none
  seq := fun | 8 => some ⟨[(32, .one .bool)], [], []⟩ | _ => none
  loop := fun _ => none
  live := fun | 0 => some [0, 1, 2] | 1 => some [0, 2, 7, 8] | 2 => some [0, 2, 7, 8, 18] | 3 => some [6] | 4 => some [0, 2, 7, 9] | 5 => some [0, 2, 7, 9, 27] | 6 => some [6] | 7 => some [0, 2, 7, 9, 32] | 8 => some [6] | 9 => some [0, 2, 7, 10] | 10 => some [0, 7, 10] | 11 => some [] | 12 => some [6] | _ => none
  track := fun | 9 => true | _ => false
  draw := fun | _ => .done
  iter := fun | _ => none }
def vc84 (a0 : Option (Nat × Nat)) (a1 : ByteArray) (a2 : Int) (h : Heap) (R : Int → Heap → Prop) : Prop :=
 Call Go.Proofs.Tryz.prog 138 [VV.lf (Lf.ptr a0), VV.lf (Lf.str a1)] h [VT.one (LT.int IntKind.i64), VT.one (LT.int IntKind.i64)]
 fun (i0 i1 : Int) (h2 : Heap) =>
 Br (i1 != (0 : Int)) (R i1 h2)
 (NilC a0 fun (b3 b4 : Nat) =>
 ∃ (s5 : Slc),
 cellsAt h2 b3 (b4 + 2) [Lf.slc s5] ∧
 IxC s5 i0 2 fun (b6 b7 : Nat) =>
 ∃ (s8 : Slc),
 ∃ (s9 : Slc),
 cellsAt h2 b6 b7 [Lf.slc s8, Lf.slc s9] ∧
 New 200 [Lf.slc (Slc.mk Option.none 0 0), Lf.slc (Slc.mk Option.none 0 0)] h2 fun (b10 : Nat) (h11 : Heap) =>
 Set b10 200 [Lf.slc s8, Lf.slc s9] h11 fun (h12 : Heap) =>
 Br (Decidable.decide ((↑(Slc.len s9) : Int) > (0 : Int))) (R (8 : Int) h12)
 (∃ (I13 : Bool → Heap → Prop),
 Br (Decidable.decide (a2 < (0 : Int))) (I13 Bool.true h12)
 (((8 : Int) = (0 : Int) → False) ∧ I13 (Decidable.decide (IntKind.wrap IntKind.i64 (Int.tdiv a2 (8 : Int)) ≥ (↑(Slc.len s8) : Int))) h12) ∧
 ∀ (c14 : Bool) (h15 : Heap),
 I13 c14 h15 →
 Br c14 (R (1 : Int) h15)
 (New 5 [] h15 fun (b16 : Nat) (h17 : Heap) =>
 AppC 5 [Lf.int IntKind.u8 (0 : Int)] 1 1 (Slc.mk (Option.some (b16, 0)) 0 0) s8 h17
 fun (s18 : Slc) (h19 : Heap) =>
 keepB h17 h19 [b10] ∧
 ((8 : Int) = (0 : Int) → False) ∧
 ((8 : Int) = (0 : Int) → False) ∧
 IxC s18 (IntKind.wrap IntKind.i64 (Int.tdiv a2 (8 : Int))) 1 fun (b20 b21 : Nat) =>
 ∃ (i22 : Int),
 cellsAt h19 b20 b21 [Lf.int IntKind.u8 i22] ∧
 ((8 : Int) = (0 : Int) → False) ∧
 (0 : Int) ≤ IntKind.wrap IntKind.u64 (Int.tmod a2 (8 : Int)) ∧
 IxC s18 (IntKind.wrap IntKind.i64 (Int.tdiv a2 (8 : Int))) 1 fun (b23 b24 : Nat) =>
 StC h19 b23 b24
 [Lf.int IntKind.u8
 (bitop IntKind.u8 BinOp.xor i22
 (shiftL IntKind.u8 (1 : Int) (IntKind.wrap IntKind.u64 (Int.tmod a2 (8 : Int)))))]
 fun (h25 : Heap) =>
 Call Go.Proofs.Tryz.prog 140
 [VV.lf (Lf.ptr a0), VV.lf (Lf.int IntKind.i64 i0),
 VV.agg [Lf.slc s18, Lf.slc (Slc.mk Option.none 0 0)]]
 h25 [] fun (h26 : Heap) => R (0 : Int) h26)))
theorem eq84 (a0 : Option (Nat × Nat)) (a1 : ByteArray) (a2 : Int) (h : Heap) (R : Int → Heap → Prop) : vc84 a0 a1 a2 h R = vcFn Go.Proofs.Tryz.prog pl84 Go.Proofs.Tryz.f84 [.lf (.ptr a0), .lf (.str a1), .lf (.int .i64 a2)] h [.one (.int .i64)] R := by kernel_rfl
theorem ok84 {a0 : Option (Nat × Nat)} {a1 : ByteArray} {a2 : Int} {h : Heap} {R : Int → Heap → Prop} (hv : vc84 a0 a1 a2 h R) : Call Go.Proofs.Tryz.prog 84 [.lf (.ptr a0), .lf (.str a1), .lf (.int .i64 a2)] h [.one (.int .i64)] R := call_eq hng hmix Go.Proofs.Tryz.func84 (eq84 a0 a1 a2 h R) hv
/- 150: sediment.sedimentref02.next (l, at, n) · seq 3:  -/
def pl150 : Plan := {
  blk := fun _ => none
  seq := fun | 3 => some ⟨[], [], []⟩ | _ => none
  loop := fun _ => none
  live := fun | 0 => some [0, 1, 2] | 1 => some [0, 1, 2, 19] | 2 => some [6] | 3 => some [6] | _ => none
  track := fun | _ => false
  draw := fun | _ => .done
  iter := fun | _ => none }
def vc150 (a0 : Slc) (a1 : Int) (a2 : Int) (h : Heap) (R : Int → Heap → Prop) : Prop :=
 ∃ (I0 : Heap → Prop),
 Br ((↑(Slc.len a0) : Int) == (0 : Int)) (R (0 : Int) h)
 (((↑(Slc.len a0) : Int) = (0 : Int) → False) ∧
 IxC a0 (Int.tmod a1 (↑(Slc.len a0) : Int)) 1 fun (b1 b2 : Nat) =>
 ∃ (i3 : Int), cellsAt h b1 b2 [Lf.int IntKind.i64 i3] ∧ Br (Decidable.decide (i3 < (0 : Int))) (R (0 : Int) h) (I0 h)) ∧
 ∀ (h4 : Heap),
 I0 h4 →
 ((↑(Slc.len a0) : Int) = (0 : Int) → False) ∧
 IxC a0 (Int.tmod a1 (↑(Slc.len a0) : Int)) 1 fun (b5 b6 : Nat) =>
 ∃ (i7 : Int),
 cellsAt h4 b5 b6 [Lf.int IntKind.i64 i7] ∧
 (IntKind.wrap IntKind.i64 (a2 + (1 : Int)) = (0 : Int) → False) ∧ R (Int.tmod i7 (IntKind.wrap IntKind.i64 (a2 + (1 : Int)))) h4
theorem eq150 (a0 : Slc) (a1 : Int) (a2 : Int) (h : Heap) (R : Int → Heap → Prop) : vc150 a0 a1 a2 h R = vcFn Go.Proofs.Tryz.prog pl150 Go.Proofs.Tryz.f150 [.lf (.slc a0), .lf (.int .i64 a1), .lf (.int .i64 a2)] h [.one (.int .i64)] R := by kernel_rfl
theorem ok150 {a0 : Slc} {a1 : Int} {a2 : Int} {h : Heap} {R : Int → Heap → Prop} (hv : vc150 a0 a1 a2 h R) : Call Go.Proofs.Tryz.prog 150 [.lf (.slc a0), .lf (.int .i64 a1), .lf (.int .i64 a2)] h [.one (.int .i64)] R := call_eq hng hmix Go.Proofs.Tryz.func150 (eq150 a0 a1 a2 h R) hv
/- 153: (sediment.sedimentref02.File).kept (x, n) · blk 0: b · seq 5:  · seq 8:  + variables [2] · loop 3: n, b, i -/
def pl153 : Plan := {
  blk := fun | 0 => some ⟨[(5, .one .slc)], [], [0]⟩ | _ => none
  seq := fun | 5 => some ⟨[], [], []⟩ | 8 => some ⟨[], [(2, [.int .i64, .slc])], []⟩ | _ => none
  loop := fun | 3 => some ⟨[(1, .one (.int .i64)), (5, .one .slc), (6, .one (.int .i64))], [], []⟩ | _ => none
  live := fun | 0 => some [1, 2, 4] | 1 => some [1, 2, 4, 5] | 2 => some [1, 2, 4, 5, 6] | 3 => some [1, 2, 4, 5, 6, 20] | 4 => some [1, 2, 4, 5, 6] | 5 => some [1, 2, 4, 5, 6, 7] | 6 => some [1, 2, 4, 5, 6, 7, 32] | 7 => some [1, 2, 4, 5, 6, 7] | 8 => some [1, 2, 4, 5, 6, 7] | 9 => some [1, 2, 4, 5, 6] | 10 => some [4] | _ => none
  track := fun | 2 => true | 4 => true | 7 => true | _ => false
  draw := fun | _ => .done
  iter := fun | _ => none }
def vc153 (a0 : Slc) (a1 : Slc) (a2 : Int) (h : Heap) (R : Slc → Slc → Heap → Prop) : Prop :=
 New 200 [Lf.slc a0, Lf.slc a1] h fun (b0 : Nat) (h1 : Heap) =>
 New 200 [Lf.slc (Slc.mk Option.none 0 0), Lf.slc (Slc.mk Option.none 0 0)] h1 fun (b2 : Nat) (h3 : Heap) =>
 New 5 [] h3 fun (b4 : Nat) (h5 : Heap) =>
 AppC 5 [Lf.int IntKind.u8 (0 : Int)] 1 1 (Slc.mk (Option.some (b4, 0)) 0 0) a0 h5 fun (s6 : Slc) (h7 : Heap) =>
 keepB h5 h7 [b0, b2] ∧
 ∃ (I8 : Slc → Heap → Prop),
 (∃ (I9 : Int → Slc → Int → Heap → Nat → Prop),
 (∃ (b10 : Nat), I9 a2 s6 (0 : Int) h7 b10) ∧
 ∀ (i11 : Int) (s12 : Slc) (i13 : Int) (h14 : Heap) (b15 : Nat),
 I9 i11 s12 i13 h14 b15 →
 ∃ (I16 : Heap → Prop),
 Br (Decidable.decide (i13 < (↑(Slc.len a1) : Int))) (Br (Decidable.decide (i11 > (0 : Int))) (I16 h14) (I8 s12 h14)) (I8 s12 h14) ∧
 ∀ (h17 : Heap),
 I16 h17 →
 IxC a1 i13 2 fun (b18 b19 : Nat) =>
 ∃ (i20 : Int),
 ∃ (s21 : Slc),
 cellsAt h17 b18 b19 [Lf.int IntKind.i64 i20, Lf.slc s21] ∧
 New 241 [Lf.int IntKind.i64 (0 : Int), Lf.slc (Slc.mk Option.none 0 0)] h17 fun (b22 : Nat) (h23 : Heap) =>
 Set b22 241 [Lf.int IntKind.i64 i20, Lf.slc s21] h23 fun (h24 : Heap) =>
 ∃ (I25 : Int → Slc → Heap → Prop),
 Br (Decidable.decide ((↑(Slc.len s21) : Int) > i11))
 ((0 : Int) ≤ i11 ∧
 i11 ≤ (↑(Slc.cap s21) : Int) ∧
 Set b22 241 [Lf.int IntKind.i64 i20, Lf.slc (Slc.sub s21 1 0 (Int.toNat i11) (Slc.cap s21))]
 h24 fun (h26 : Heap) => I25 i20 (Slc.sub s21 1 0 (Int.toNat i11) (Slc.cap s21)) h26)
 (I25 i20 s21 h24) ∧
 ∀ (i27 : Int) (s28 : Slc) (h29 : Heap),
 I25 i27 s28 h29 →
 Call Go.Proofs.Tryz.prog 198 [VV.lf (Lf.slc s12), VV.agg [Lf.int IntKind.i64 i27, Lf.slc s28]] h29
 [VT.one LT.slc] fun (s30 : Slc) (h31 : Heap) =>
 keepB h29 h31 [b0, b2, b22] ∧
 ∃ (b32 : Nat),
 b32 < b15 ∧
 I9 (IntKind.wrap IntKind.i64 (i11 - (↑(Slc.len s28) : Int))) s30 (IntKind.wrap IntKind.i64 (i13 + (1 : Int))) h31 b32) ∧
 ∀ (s33 : Slc) (h34 : Heap),
 I8 s33 h34 →
 Set b2 200 [Lf.slc s33, Lf.slc (Slc.mk Option.none 0 0)] h34 fun (h35 : Heap) =>
 R s33 (Slc.mk Option.none 0 0) h35
theorem eq153 (a0 : Slc) (a1 : Slc) (a2 : Int) (h : Heap) (R : Slc → Slc → Heap → Prop) : vc153 a0 a1 a2 h R = vcFn Go.Proofs.Tryz.prog pl153 Go.Proofs.Tryz.f153 [.agg [.slc a0, .slc a1], .lf (.int .i64 a2)] h [.agg [.slc, .slc]] R := by kernel_rfl
theorem ok153 {a0 : Slc} {a1 : Slc} {a2 : Int} {h : Heap} {R : Slc → Slc → Heap → Prop} (hv : vc153 a0 a1 a2 h R) : Call Go.Proofs.Tryz.prog 153 [.agg [.slc a0, .slc a1], .lf (.int .i64 a2)] h [.agg [.slc, .slc]] R := call_eq hng hmix Go.Proofs.Tryz.func153 (eq153 a0 a1 a2 h R) hv
/- 85: (*sediment.sedimentref02.FS).Crash () · blk 3: #6 · loop 4: #6, #7 · loop 13: #6, #10 -/
def pl85 : Plan := {
  blk := fun | 3 => some ⟨[(6, .one (.int .i64))], [], []⟩ | _ => none
  seq := fun _ => none
  loop := fun | 4 => some ⟨[(6, .one (.int .i64)), (7, .one (.int .i64))], [], []⟩ | 13 => some ⟨[(6, .one (.int .i64)), (10, .one (.int .i64))], [], []⟩ | _ => none
  live := fun | 0 => some [0, 1, 2] | 1 => some [0, 1, 2] | 2 => some [0, 1, 2, 6] | 3 => some [0, 1, 2, 6, 7] | 4 => some [0, 1, 2, 6, 7, 23] | 5 => some [0, 1, 2, 6, 7] | 6 => some [0, 1, 2, 6, 7, 8] | 7 => some [0, 1, 2, 6, 7, 8, 37] | 8 => some [0, 1, 2, 6, 7] | 9 => some [0, 1, 2, 6, 7] | 10 => some [0, 1, 6] | 11 => some [0, 1, 6, 9] | 12 => some [0, 1, 6, 9, 10] | 13 => some [0, 1, 6, 9, 10, 52] | 14 => some [0, 1, 6, 9, 10] | 15 => some [0, 1, 6, 9, 10, 11] | 16 => some [0, 1, 6, 9, 10, 11, 12] | 17 => some [0, 1, 6, 9, 10, 11, 12, 68] | 18 => some [0, 1, 6, 9, 10] | 19 => some [0, 1, 6, 9, 10] | _ => none
  track := fun | 11 => true | _ => false
  draw := fun | 15 => .still 0 (.still 1 (.still 2 (.still 3 (.still 4 (.still 5 (.still 6 (.still 7 (.still 8 (.still 9 (.mem 10 (.mem 11 (.done)))))))))))) | 18 => .still 0 (.still 1 (.still 2 (.still 3 (.still 4 (.still 5 (.still 6 (.still 7 (.still 8 (.mem 9 (.mem 10 (.mem 11 (.done)))))))))))) | _ => .done
  iter := fun | _ => none }
def vc85 (a0 : Option (Nat × Nat)) (a1 : Slc) (a2 : Slc) (h : Heap) (R : Heap → Prop) : Prop :=
 Call Go.Proofs.Tryz.prog 81 [VV.lf (Lf.ptr a0), VV.lf (Lf.int IntKind.i64 (0 : Int)), VV.lf (Lf.int IntKind.i64 (0 : Int))] h []
 fun (h0 : Heap) =>
 Call Go.Proofs.Tryz.prog 82 [VV.lf (Lf.ptr a0), VV.lf (Lf.int IntKind.i64 (0 : Int))] h0 [] fun (h1 : Heap) =>
 ∃ (I2 : Int → Int → Heap → Nat → Prop),
 (∃ (b3 : Nat), I2 (0 : Int) (0 : Int) h1 b3) ∧
 ∀ (i4 i5 : Int) (h6 : Heap) (b7 : Nat),
 I2 i4 i5 h6 b7 →
 NilC a0 fun (b8 b9 : Nat) =>
 ∃ (s10 : Slc),
 cellsAt h6 b8 (b9 + 1) [Lf.slc s10] ∧
 Br (Decidable.decide (i5 < (↑(Slc.len s10) : Int)))
 (NilC a0 fun (b11 b12 : Nat) =>
 ∃ (s13 : Slc),
 cellsAt h6 b11 (b12 + 1) [Lf.slc s13] ∧
 IxC s13 i5 2 fun (b14 b15 : Nat) =>
 ∃ (s16 : Slc),
 cellsAt h6 b14 (b15 + 1) [Lf.slc s16] ∧
 Br (Decidable.decide (IntKind.wrap IntKind.i64 ((↑(Slc.len s16) : Int) - (1 : Int)) > (0 : Int)))
 (Call Go.Proofs.Tryz.prog 150
 [VV.lf (Lf.slc a2), VV.lf (Lf.int IntKind.i64 i4),
 VV.lf (Lf.int IntKind.i64 (IntKind.wrap IntKind.i64 ((↑(Slc.len s16) : Int) - (1 : Int))))]
 h6 [VT.one (LT.int IntKind.i64)] fun (i17 : Int) (h18 : Heap) =>
 Call Go.Proofs.Tryz.prog 149 [VV.lf (Lf.ptr a0), VV.lf (Lf.int IntKind.i64 i5), VV.lf (Lf.int IntKind.i64 i17)] h18
 [] fun (h19 : Heap) =>
 ∃ (b20 : Nat), b20 < b7 ∧ I2 (IntKind.wrap IntKind.i64 (i4 + (1 : Int))) (IntKind.wrap IntKind.i64 (i5 + (1 : Int))) h19 b20)
 (∃ (b21 : Nat), b21 < b7 ∧ I2 i4 (IntKind.wrap IntKind.i64 (i5 + (1 : Int))) h6 b21))
 (Call Go.Proofs.Tryz.prog 151 [VV.lf (Lf.ptr a0)] h6 [VT.one LT.slc] fun (s22 : Slc) (h23 : Heap) =>
 ∃ (I24 : Int → Int → Heap → Nat → Prop),
 (∃ (b25 : Nat), I24 (0 : Int) (0 : Int) h23 b25) ∧
 ∀ (i26 i27 : Int) (h28 : Heap) (b29 : Nat),
 I24 i26 i27 h28 b29 →
 Br (Decidable.decide (i27 < (↑(Slc.len s22) : Int)))
 (∃ (I30 : Int → Heap → Prop),
 (NilC a0 fun (b31 b32 : Nat) =>
 ∃ (s33 : Slc),
 cellsAt h28 b31 (b32 + 2) [Lf.slc s33] ∧
 IxC s22 i27 1 fun (b34 b35 : Nat) =>
 ∃ (i36 : Int),
 cellsAt h28 b34 b35 [Lf.int IntKind.i64 i36] ∧
 IxC s33 i36 2 fun (b37 b38 : Nat) =>
 ∃ (s39 : Slc),
 ∃ (s40 : Slc),
 cellsAt h28 b37 b38 [Lf.slc s39, Lf.slc s40] ∧
 New 200 [Lf.slc (Slc.mk Option.none 0 0), Lf.slc (Slc.mk Option.none 0 0)] h28
 fun (b41 : Nat) (h42 : Heap) =>
 cellsAt h42 b37 b38 [Lf.slc s39, Lf.slc s40] ∧
 cellsAt h42 b34 b35 [Lf.int IntKind.i64 i36] ∧
 cellsAt h42 b31 (b32 + 2) [Lf.slc s33] ∧
 Set b41 200 [Lf.slc s39, Lf.slc s40] h42 fun (h43 : Heap) =>
 Call Go.Proofs.Tryz.prog 152 [VV.agg [Lf.slc s39, Lf.slc s40]] h43
 [VT.one (LT.int IntKind.i64)] fun (i44 : Int) (h45 : Heap) =>
 keepB h43 h45 [b41] ∧
 Br (Decidable.decide (i44 > (0 : Int)))
 (IxC s22 i27 1 fun (b46 b47 : Nat) =>
 ∃ (i48 : Int),
 cellsAt h45 b46 b47 [Lf.int IntKind.i64 i48] ∧
 Call Go.Proofs.Tryz.prog 150
 [VV.lf (Lf.slc a1), VV.lf (Lf.int IntKind.i64 i26), VV.lf (Lf.int IntKind.i64 i44)]
 h45 [VT.one (LT.int IntKind.i64)] fun (i49 : Int) (h50 : Heap) =>
 keepB h45 h50 [b41] ∧
 cellsAt h50 b46 b47 [Lf.int IntKind.i64 i48] ∧
 Call Go.Proofs.Tryz.prog 153
 [VV.agg [Lf.slc s39, Lf.slc s40], VV.lf (Lf.int IntKind.i64 i49)] h50
 [VT.agg [LT.slc, LT.slc]] fun (s51 s52 : Slc) (h53 : Heap) =>
 keepB h50 h53 [b41] ∧
 cellsAt h53 b46 b47 [Lf.int IntKind.i64 i48] ∧
 Call Go.Proofs.Tryz.prog 140
 [VV.lf (Lf.ptr a0), VV.lf (Lf.int IntKind.i64 i48),
 VV.agg [Lf.slc s51, Lf.slc s52]]
 h53 [] fun (h54 : Heap) =>
 keepB h53 h54 [b41] ∧ I30 (IntKind.wrap IntKind.i64 (i26 + (1 : Int))) h54)
 (I30 i26 h45)) ∧
 ∀ (i55 : Int) (h56 : Heap), I30 i55 h56 → ∃ (b57 : Nat), b57 < b29 ∧ I24 i55 (IntKind.wrap IntKind.i64 (i27 + (1 : Int))) h56 b57)
 (R h28))
theorem eq85 (a0 : Option (Nat × Nat)) (a1 : Slc) (a2 : Slc) (h : Heap) (R : Heap → Prop) : vc85 a0 a1 a2 h R = vcFn Go.Proofs.Tryz.prog pl85 Go.Proofs.Tryz.f85 [.lf (.ptr a0), .lf (.slc a1), .lf (.slc a2)] h [] R := by kernel_rfl
theorem ok85 {a0 : Option (Nat × Nat)} {a1 : Slc} {a2 : Slc} {h : Heap} {R : Heap → Prop} (hv : vc85 a0 a1 a2 h R) : Call Go.Proofs.Tryz.prog 85 [.lf (.ptr a0), .lf (.slc a1), .lf (.slc a2)] h [] R := call_eq hng hmix Go.Proofs.Tryz.func85 (eq85 a0 a1 a2 h R) hv
end Go.V.YtdeihieblljfcaaGreat
