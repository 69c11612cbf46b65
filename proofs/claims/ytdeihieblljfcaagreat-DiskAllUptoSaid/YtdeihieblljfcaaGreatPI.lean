/- This text proves a part of the laws of seat YtdeihieblljfcaaGreat, under no condition: F1g. -/
import Derived.Test.YtdeihieblljfcaaGreatPC
import Derived.Eval
import Derived.Test.YtdeihieblljfcaaGreatChecked
import Derived.Test.YtdeihieblljfcaaGreatPE
set_option linter.unusedVariables false
set_option maxRecDepth 100000
namespace Go.V.YtdeihieblljfcaaGreat
open Go Go.V
def pl66 : Plan := {
  blk := fun | 1 => some ⟨[(6, .one (.int .i64))], [], []⟩ | _ => none
  seq := fun _ => none
  loop := fun | 11 => some ⟨[(6, .one (.int .i64))], [], []⟩ | _ => none
  live := fun | 0 => some [0,1] | 1 => some [0,1,8] | 2 => some [4] | 3 => some [0,1,12] | 4 => some [4] | 5 => some [0,1,17] | 6 => some [4] | 7 => some [0,1,5] | 8 => some [0,1,5,27] | 9 => some [4] | 10 => some [0,1,6] | 11 => some [0,1,6,47] | 12 => some [0,1,6] | 13 => some [0,1,6,7] | 14 => some [0,6,7] | 15 => some [] | 16 => some [4] | _ => none
  track := fun | _ => false
  draw := fun | _ => .done
  iter := fun | _ => none }
def vc66 (a0 : Option (Nat × Nat)) (a1 : ByteArray) (h : Heap) (R : Int → Heap → Prop) : Prop :=
 Call Proofs.Tryz.prog 127 [.lf (.str a1)] h [.one .bool] fun (c0 : Bool) h1 => Br (!c0) (R 1 h1) (Call Proofs.Tryz.prog 128 [.lf (.ptr a0), .lf (.str a1)] h1 [.one (.int .i64)] fun (i2 : Int) h3 => Br
 (decide (i2 ≥ 0)) (R 7 h3) (NilC a0 fun b4 b5 => ∃ s6, cellsAt h3 b4 (b5 + 1) [.slc s6] ∧ Br (decide ((↑(Slc.len s6) : Int) ≥ 64)) (R 2 h3) (Call Proofs.Tryz.prog 129 [.lf (.ptr a0)] h3 [.one (.int
 .i64)] fun (i7 : Int) h8 => Br (i7 != 0) (R i7 h8) (∃ (I9 : Int → Heap → Prop), (∃ (I10 : Int → Heap → Nat → Prop), (∃ b11, I10 0 h8 b11) ∧ ∀ i12 h13 b14, I10 i12 h13 b14 → NilC a0 fun b15 b16 => ∃
 s17, cellsAt h13 b15 (b16 + 1) [.slc s17] ∧ Br (decide (i12 < (↑(Slc.len s17) : Int))) (NilC a0 fun b18 b19 => ∃ s20, cellsAt h13 b18 (b19 + 1) [.slc s20] ∧ IxC s20 i12 2 fun b21 b22 => ∃ (t23 :
 ByteArray), cellsAt h13 b21 (b22 + 0) [.str t23] ∧ Br (strLt t23 a1) (∃ b24, b24 < b14 ∧ I10 (IntKind.wrap .i64 (i12 + 1)) h13 b24) (I9 i12 h13)) (I9 i12 h13)) ∧ ∀ i25 h26, I9 i25 h26 → New 192 [] h26
 fun b27 h28 => NilC a0 fun b29 b30 => ∃ s31, cellsAt h28 b29 (b30 + 1) [.slc s31] ∧ 0 ≤ i25 ∧ i25 ≤ (↑(Slc.cap s31) : Int) ∧ AppC 192 [.str (ByteArray.mk #[]), .slc (Slc.mk none 0 0)] 2 40 (Slc.mk
 (some (b27, 0)) 0 0) (Slc.sub s31 2 0 (Int.toNat i25) (Slc.cap s31)) h28 fun (s32 : Slc) h33 => New 194 [.slc (Slc.mk none 0 0), .slc (Slc.mk none 0 0)] h33 fun b34 h35 => New 192 [.str a1, .slc
 (Slc.mk (some (b34, 0)) 1 1)] h35 fun b36 h37 => AppC 192 [.str (ByteArray.mk #[]), .slc (Slc.mk none 0 0)] 2 40 s32 (Slc.mk (some (b36, 0)) 1 1) h37 fun (s38 : Slc) h39 => NilC a0 fun b40 b41 => ∃
 s42, cellsAt h39 b40 (b41 + 1) [.slc s42] ∧ 0 ≤ i25 ∧ i25 ≤ (↑(Slc.len s42) : Int) ∧ AppC 192 [.str (ByteArray.mk #[]), .slc (Slc.mk none 0 0)] 2 40 s38 (Slc.sub s42 2 (Int.toNat i25) (Slc.len s42)
 (Slc.cap s42)) h39 fun (s43 : Slc) h44 => NilC a0 fun b45 b46 => StC h44 b45 (b46 + 1) [.slc s43] fun h47 => R 0 h47))))
theorem ok66 {a0 : Option (Nat × Nat)} {a1 : ByteArray} {h : Heap} {R : Int → Heap → Prop} (hv : vc66 a0 a1 h R) : Call Proofs.Tryz.prog 66 [.lf (.ptr a0), .lf (.str a1)] h [.one (.int .i64)] R := call_eq (pl := pl66) hng hmix Proofs.Tryz.func66 (by kernel_rfl) hv
def pl68 : Plan := {
  blk := fun _ => none
  seq := fun _ => none
  loop := fun _ => none
  live := fun | 0 => some [0,1] | 1 => some [0,1,10] | 2 => some [4] | 3 => some [0,5] | 4 => some [0,5,14] | 5 => some [4] | 6 => some [0,5,17] | 7 => some [4] | 8 => some [0,5,6] | 9 => some [0,5,6,27] | 10 => some [4] | 11 => some [0,5,7] | 12 => some [] | 13 => some [4] | _ => none
  track := fun | _ => false
  draw := fun | _ => .done
  iter := fun | _ => none }
def vc68 (a0 : Option (Nat × Nat)) (a1 : ByteArray) (h : Heap) (R : Int → Heap → Prop) : Prop :=
 Call Proofs.Tryz.prog 127 [.lf (.str a1)] h [.one .bool] fun (c0 : Bool) h1 => Br (!c0) (R 1 h1) (Call Proofs.Tryz.prog 128 [.lf (.ptr a0), .lf (.str a1)] h1 [.one (.int .i64)] fun (i2 : Int) h3 => Br
 (decide (i2 < 0)) (R 6 h3) (Call Proofs.Tryz.prog 130 [.lf (.ptr a0), .lf (.int .i64 i2)] h3 [.agg [.slc, .slc]] fun (s4 s5 : Slc) h6 => Br (decide ((↑(Slc.len s4) : Int) > 0)) (R 8 h6) (Call
 Proofs.Tryz.prog 129 [.lf (.ptr a0)] h6 [.one (.int .i64)] fun (i7 : Int) h8 => Br (i7 != 0) (R i7 h8) (New 192 [] h8 fun b9 h10 => NilC a0 fun b11 b12 => ∃ s13, cellsAt h10 b11 (b12 + 1) [.slc s13] ∧
 0 ≤ i2 ∧ i2 ≤ (↑(Slc.cap s13) : Int) ∧ AppC 192 [.str (ByteArray.mk #[]), .slc (Slc.mk none 0 0)] 2 40 (Slc.mk (some (b9, 0)) 0 0) (Slc.sub s13 2 0 (Int.toNat i2) (Slc.cap s13)) h10 fun (s14 : Slc) h15
 => NilC a0 fun b16 b17 => ∃ s18, cellsAt h15 b16 (b17 + 1) [.slc s18] ∧ 0 ≤ IntKind.wrap .i64 (i2 + 1) ∧ IntKind.wrap .i64 (i2 + 1) ≤ (↑(Slc.len s18) : Int) ∧ AppC 192 [.str (ByteArray.mk #[]), .slc
 (Slc.mk none 0 0)] 2 40 s14 (Slc.sub s18 2 (Int.toNat (IntKind.wrap .i64 (i2 + 1))) (Slc.len s18) (Slc.cap s18)) h15 fun (s19 : Slc) h20 => NilC a0 fun b21 b22 => StC h20 b21 (b22 + 1) [.slc s19] fun
 h23 => R 0 h23))))
theorem ok68 {a0 : Option (Nat × Nat)} {a1 : ByteArray} {h : Heap} {R : Int → Heap → Prop} (hv : vc68 a0 a1 h R) : Call Proofs.Tryz.prog 68 [.lf (.ptr a0), .lf (.str a1)] h [.one (.int .i64)] R := call_eq (pl := pl68) hng hmix Proofs.Tryz.func68 (by kernel_rfl) hv
def pl90 : Plan := {
  blk := fun _ => none
  seq := fun _ => none
  loop := fun | 3 => some ⟨[(3, .one .slc), (4, .one (.int .i64))], [], []⟩ | _ => none
  live := fun | 0 => some [0] | 1 => some [0,3] | 2 => some [0,3,4] | 3 => some [0,3,4,11] | 4 => some [0,3,4] | 5 => some [0,3,4] | 6 => some [2] | _ => none
  track := fun | _ => false
  draw := fun | _ => .done
  iter := fun | _ => none }
def vc90 (a0 : Option (Nat × Nat)) (h : Heap) (R : Slc → Heap → Prop) : Prop :=
 ∃ (I0 : Slc → Int → Heap → Nat → Prop), (∃ b1, I0 (Slc.mk none 0 0) 0 h b1) ∧ ∀ s2 i3 h4 b5, I0 s2 i3 h4 b5 → NilC a0 fun b6 b7 => ∃ s8, cellsAt h4 b6 (b7 + 1) [.slc s8] ∧ Br (decide (i3 < (↑(Slc.len
 s8) : Int))) (NilC a0 fun b9 b10 => ∃ s11, cellsAt h4 b9 (b10 + 1) [.slc s11] ∧ IxC s11 i3 2 fun b12 b13 => ∃ (t14 : ByteArray), cellsAt h4 b12 (b13 + 0) [.str t14] ∧ New 9 [.str t14] h4 fun b15 h16 =>
 AppC 9 [.str (ByteArray.mk #[])] 1 16 s2 (Slc.mk (some (b15, 0)) 1 1) h16 fun (s17 : Slc) h18 => ∃ b19, b19 < b5 ∧ I0 s17 (IntKind.wrap .i64 (i3 + 1)) h18 b19) (R s2 h4)
theorem ok90 {a0 : Option (Nat × Nat)} {h : Heap} {R : Slc → Heap → Prop} (hv : vc90 a0 h R) : Call Proofs.Tryz.prog 90 [.lf (.ptr a0)] h [.one .slc] R := call_eq (pl := pl90) hng hmix Proofs.Tryz.func90 (by kernel_rfl) hv
def pl148 : Plan := {
  blk := fun _ => none
  seq := fun _ => none
  loop := fun _ => none
  live := fun | 0 => some [0,1] | 1 => some [0,1,9] | 2 => some [4,5] | 3 => some [6] | 4 => some [6,14] | 5 => some [4,5] | 6 => some [4,5] | _ => none
  track := fun | _ => false
  draw := fun | _ => .done
  iter := fun | _ => none }
def vc148 (a0 : Option (Nat × Nat)) (a1 : ByteArray) (h : Heap) (R : Int → Int → Heap → Prop) : Prop :=
 Call Proofs.Tryz.prog 127 [.lf (.str a1)] h [.one .bool] fun (c0 : Bool) h1 => Br (!c0) (R 0 1 h1) (Call Proofs.Tryz.prog 128 [.lf (.ptr a0), .lf (.str a1)] h1 [.one (.int .i64)] fun (i2 : Int) h3 =>
 Br (decide (i2 < 0)) (R 0 6 h3) (R i2 0 h3))
theorem ok148 {a0 : Option (Nat × Nat)} {a1 : ByteArray} {h : Heap} {R : Int → Int → Heap → Prop} (hv : vc148 a0 a1 h R) : Call Proofs.Tryz.prog 148 [.lf (.ptr a0), .lf (.str a1)] h [.one (.int .i64), .one (.int .i64)] R := call_eq (pl := pl148) hng hmix Proofs.Tryz.func148 (by kernel_rfl) hv
def pl161 : Plan := {
  blk := fun _ => none
  seq := fun _ => none
  loop := fun _ => none
  live := fun | 0 => some [0,1] | 1 => some [0,6,7] | 2 => some [0,6,7,15] | 3 => some [4,5] | 4 => some [4,5] | _ => none
  track := fun | _ => false
  draw := fun | _ => .done
  iter := fun | _ => none }
def vc161 (a0 : Option (Nat × Nat)) (a1 : ByteArray) (h : Heap) (R : Slc → Int → Heap → Prop) : Prop :=
 Call Proofs.Tryz.prog 148 [.lf (.ptr a0), .lf (.str a1)] h [.one (.int .i64), .one (.int .i64)] fun (i0 i1 : Int) h2 => Br (i1 != 0) (R (Slc.mk none 0 0) i1 h2) (Call Proofs.Tryz.prog 130 [.lf (.ptr
 a0), .lf (.int .i64 i0)] h2 [.agg [.slc, .slc]] fun (s3 s4 : Slc) h5 => R s3 0 h5)
theorem ok161 {a0 : Option (Nat × Nat)} {a1 : ByteArray} {h : Heap} {R : Slc → Int → Heap → Prop} (hv : vc161 a0 a1 h R) : Call Proofs.Tryz.prog 161 [.lf (.ptr a0), .lf (.str a1)] h [.one .slc, .one (.int .i64)] R := call_eq (pl := pl161) hng hmix Proofs.Tryz.func161 (by kernel_rfl) hv
def pl69 : Plan := {
  blk := fun _ => none
  seq := fun _ => none
  loop := fun _ => none
  live := fun | 0 => some [0,1] | 1 => some [0,5,6,7] | 2 => some [0,5,6,7,15] | 3 => some [4] | 4 => some [0,5,6,19] | 5 => some [4] | 6 => some [0,5,6,26] | 7 => some [4] | 8 => some [0,5,6,7] | 9 => some [0,5,6,7,36] | 10 => some [4] | 11 => some [0,5,6] | 12 => some [] | 13 => some [4] | _ => none
  track := fun | _ => false
  draw := fun | 12 => .still 0 (.still 1 (.still 2 (.still 3 (.still 5 (.still 6 (.still 7 (.still 8 (.still 9 (.still 10 (.still 11 (.mem 4 (.mem 12 (.mem 13 (.done)))))))))))))) | _ => .done
  iter := fun | _ => none }
def vc69 (a0 : Option (Nat × Nat)) (a1 : ByteArray) (h : Heap) (R : Int → Heap → Prop) : Prop :=
 Call Proofs.Tryz.prog 131 [.lf (.ptr a0), .lf (.str a1)] h [.one (.int .i64), .one .str, .one (.int .i64)] fun (i0 : Int) (t1 : ByteArray) (i2 : Int) h3 => Br (i2 != 0) (R i2 h3) (Call Proofs.Tryz.prog
 130 [.lf (.ptr a0), .lf (.int .i64 i0)] h3 [.agg [.slc, .slc]] fun (s4 s5 : Slc) h6 => Call Proofs.Tryz.prog 132 [.agg [.slc s4, .slc s5], .lf (.str t1)] h6 [.one (.int .i64)] fun (i7 : Int) h8 => Br
 (decide (i7 ≥ 0)) (R 7 h8) (Call Proofs.Tryz.prog 130 [.lf (.ptr a0), .lf (.int .i64 i0)] h8 [.agg [.slc, .slc]] fun (s9 s10 : Slc) h11 => Br (decide ((↑(Slc.len s9) : Int) ≥ 1024)) (R 2 h11) (Call
 Proofs.Tryz.prog 129 [.lf (.ptr a0)] h11 [.one (.int .i64)] fun (i12 : Int) h13 => Br (i12 != 0) (R i12 h13) (New 200 [] h13 fun b14 h15 => NilC a0 fun b16 b17 => ∃ s18, cellsAt h15 b16 (b17 + 2) [.slc
 s18] ∧ AppC 200 [.slc (Slc.mk none 0 0), .slc (Slc.mk none 0 0)] 2 48 (Slc.mk (some (b14, 0)) 0 0) s18 h15 fun (s19 : Slc) h20 => New 200 [.slc (Slc.mk none 0 0), .slc (Slc.mk none 0 0)] h20 fun b21
 h22 => AppC 200 [.slc (Slc.mk none 0 0), .slc (Slc.mk none 0 0)] 2 48 s19 (Slc.mk (some (b21, 0)) 1 1) h22 fun (s23 : Slc) h24 => NilC a0 fun b25 b26 => StC h24 b25 (b26 + 2) [.slc s23] fun h27 => NilC
 a0 fun b28 b29 => ∃ s30, cellsAt h27 b28 (b29 + 2) [.slc s30] ∧ Call Proofs.Tryz.prog 130 [.lf (.ptr a0), .lf (.int .i64 i0)] h27 [.agg [.slc, .slc]] fun (s31 s32 : Slc) h33 => cellsAt h33 b28 (b29 +
 2) [.slc s30] ∧ Call Proofs.Tryz.prog 134 [.agg [.slc s31, .slc s32], .lf (.str t1), .lf (.int .i64 (IntKind.wrap .i64 ((↑(Slc.len s30) : Int) - 1)))] h33 [.agg [.slc, .slc]] fun (s34 s35 : Slc) h36 =>
 Call Proofs.Tryz.prog 133 [.lf (.ptr a0), .lf (.int .i64 i0), .agg [.slc s34, .slc s35]] h36 [] fun h37 => R 0 h37))))
theorem ok69 {a0 : Option (Nat × Nat)} {a1 : ByteArray} {h : Heap} {R : Int → Heap → Prop} (hv : vc69 a0 a1 h R) : Call Proofs.Tryz.prog 69 [.lf (.ptr a0), .lf (.str a1)] h [.one (.int .i64)] R := call_eq (pl := pl69) hng hmix Proofs.Tryz.func69 (by kernel_rfl) hv
def pl145 : Plan := {
  blk := fun _ => none
  seq := fun _ => none
  loop := fun _ => none
  live := fun | 0 => some [0,1,2] | 1 => some [0,2,12,13,14] | 2 => some [0,2,12,13,14,26] | 3 => some [6,7,8,9,10,11] | 4 => some [0,12,13,14,15,16] | 5 => some [0,12,13,14,15,16,36] | 6 => some [6,7,8,9,10,11] | 7 => some [12,13,15,16,17] | 8 => some [12,13,15,16,17,44] | 9 => some [6,7,8,9,10,11] | 10 => some [6,7,8,9,10,11] | _ => none
  track := fun | _ => false
  draw := fun | _ => .done
  iter := fun | _ => none }
def vc145 (a0 : Option (Nat × Nat)) (a1 : ByteArray) (a2 : ByteArray) (h : Heap) (R : Int → ByteArray → Int → ByteArray → Int → Int → Heap → Prop) : Prop :=
 Call Proofs.Tryz.prog 131 [.lf (.ptr a0), .lf (.str a1)] h [.one (.int .i64), .one .str, .one (.int .i64)] fun (i0 : Int) (t1 : ByteArray) (i2 : Int) h3 => Br (i2 != 0) (R 0 (ByteArray.mk #[]) 0
 (ByteArray.mk #[]) 0 i2 h3) (Call Proofs.Tryz.prog 131 [.lf (.ptr a0), .lf (.str a2)] h3 [.one (.int .i64), .one .str, .one (.int .i64)] fun (i4 : Int) (t5 : ByteArray) (i6 : Int) h7 => Br (i6 != 0) (R
 0 (ByteArray.mk #[]) 0 (ByteArray.mk #[]) 0 i6 h7) (Call Proofs.Tryz.prog 130 [.lf (.ptr a0), .lf (.int .i64 i0)] h7 [.agg [.slc, .slc]] fun (s8 s9 : Slc) h10 => Call Proofs.Tryz.prog 132 [.agg [.slc
 s8, .slc s9], .lf (.str t1)] h10 [.one (.int .i64)] fun (i11 : Int) h12 => Br (decide (i11 < 0)) (R 0 (ByteArray.mk #[]) 0 (ByteArray.mk #[]) 0 6 h12) (R i0 t1 i4 t5 i11 0 h12)))
theorem ok145 {a0 : Option (Nat × Nat)} {a1 : ByteArray} {a2 : ByteArray} {h : Heap} {R : Int → ByteArray → Int → ByteArray → Int → Int → Heap → Prop} (hv : vc145 a0 a1 a2 h R) : Call Proofs.Tryz.prog 145 [.lf (.ptr a0), .lf (.str a1), .lf (.str a2)] h [.one (.int .i64), .one .str, .one (.int .i64), .one .str, .one (.int .i64), .one (.int .i64)] R := call_eq (pl := pl145) hng hmix Proofs.Tryz.func145 (by kernel_rfl) hv
def pl74 : Plan := {
  blk := fun _ => none
  seq := fun | 5 => some ⟨[(45, .one .bool)], [], []⟩ | 8 => some ⟨[(54, .one .bool)], [], []⟩ | _ => none
  loop := fun _ => none
  live := fun | 0 => some [0,1,2] | 1 => some [0,1,2,7,8,9,10,11,12] | 2 => some [0,1,2,7,8,9,10,11,12,25] | 3 => some [6] | 4 => some [0,1,2,7,8,9,10,11,45] | 5 => some [6] | 6 => some [0,1,2,7,8,9,10,11,12] | 7 => some [0,7,8,9,10,11,12,54] | 8 => some [6] | 9 => some [0,7,8,9,10,11,58] | 10 => some [] | 11 => some [6] | 12 => some [0,7,8] | 13 => some [] | 14 => some [6] | _ => none
  track := fun | _ => false
  draw := fun | _ => .done
  iter := fun | _ => none }
def vc74 (a0 : Option (Nat × Nat)) (a1 : ByteArray) (a2 : ByteArray) (h : Heap) (R : Int → Heap → Prop) : Prop :=
 Call Proofs.Tryz.prog 145 [.lf (.ptr a0), .lf (.str a1), .lf (.str a2)] h [.one (.int .i64), .one .str, .one (.int .i64), .one .str, .one (.int .i64), .one (.int .i64)] fun (i0 : Int) (t1 : ByteArray)
 (i2 : Int) (t3 : ByteArray) (i4 i5 : Int) h6 => Br (i5 != 0) (R i5 h6) (∃ (I7 : Bool → Heap → Prop), Br (i0 != i2) (Call Proofs.Tryz.prog 130 [.lf (.ptr a0), .lf (.int .i64 i2)] h6 [.agg [.slc, .slc]]
 fun (s8 s9 : Slc) h10 => Call Proofs.Tryz.prog 132 [.agg [.slc s8, .slc s9], .lf (.str t3)] h10 [.one (.int .i64)] fun (i11 : Int) h12 => Br (decide (i11 < 0)) (Call Proofs.Tryz.prog 130 [.lf (.ptr
 a0), .lf (.int .i64 i2)] h12 [.agg [.slc, .slc]] fun (s13 s14 : Slc) h15 => I7 (decide ((↑(Slc.len s13) : Int) ≥ 1024)) h15) (I7 false h12)) (I7 false h6) ∧ ∀ c16 h17, I7 c16 h17 → Br c16 (R 2 h17)
 (Call Proofs.Tryz.prog 129 [.lf (.ptr a0)] h17 [.one (.int .i64)] fun (i18 : Int) h19 => ∃ (I20 : Bool → Heap → Prop), Br (i18 != 0) (I20 true h19) (I20 (strEq a1 a2) h19) ∧ ∀ c21 h22, I20 c21 h22 → Br
 c21 (R i18 h22) (Br (i0 == i2) (Call Proofs.Tryz.prog 130 [.lf (.ptr a0), .lf (.int .i64 i0)] h22 [.agg [.slc, .slc]] fun (s23 s24 : Slc) h25 => Call Proofs.Tryz.prog 134 [.agg [.slc s23, .slc s24],
 .lf (.str t1), .lf (.int .i64 (-1 : Int))] h25 [.agg [.slc, .slc]] fun (s26 s27 : Slc) h28 => Call Proofs.Tryz.prog 134 [.agg [.slc s26, .slc s27], .lf (.str t3), .lf (.int .i64 i4)] h28 [.agg [.slc,
 .slc]] fun (s29 s30 : Slc) h31 => Call Proofs.Tryz.prog 133 [.lf (.ptr a0), .lf (.int .i64 i0), .agg [.slc s29, .slc s30]] h31 [] fun h32 => R 0 h32) (Call Proofs.Tryz.prog 130 [.lf (.ptr a0), .lf
 (.int .i64 i2)] h22 [.agg [.slc, .slc]] fun (s33 s34 : Slc) h35 => Call Proofs.Tryz.prog 134 [.agg [.slc s33, .slc s34], .lf (.str t3), .lf (.int .i64 i4)] h35 [.agg [.slc, .slc]] fun (s36 s37 : Slc)
 h38 => Call Proofs.Tryz.prog 133 [.lf (.ptr a0), .lf (.int .i64 i2), .agg [.slc s36, .slc s37]] h38 [] fun h39 => Call Proofs.Tryz.prog 130 [.lf (.ptr a0), .lf (.int .i64 i0)] h39 [.agg [.slc, .slc]]
 fun (s40 s41 : Slc) h42 => Call Proofs.Tryz.prog 134 [.agg [.slc s40, .slc s41], .lf (.str t1), .lf (.int .i64 (-1 : Int))] h42 [.agg [.slc, .slc]] fun (s43 s44 : Slc) h45 => Call Proofs.Tryz.prog 133
 [.lf (.ptr a0), .lf (.int .i64 i0), .agg [.slc s43, .slc s44]] h45 [] fun h46 => R 0 h46))))
theorem ok74 {a0 : Option (Nat × Nat)} {a1 : ByteArray} {a2 : ByteArray} {h : Heap} {R : Int → Heap → Prop} (hv : vc74 a0 a1 a2 h R) : Call Proofs.Tryz.prog 74 [.lf (.ptr a0), .lf (.str a1), .lf (.str a2)] h [.one (.int .i64)] R := call_eq (pl := pl74) hng hmix Proofs.Tryz.func74 (by kernel_rfl) hv
def pl76 : Plan := {
  blk := fun _ => none
  seq := fun _ => none
  loop := fun _ => none
  live := fun | 0 => some [0,1,2] | 1 => some [0,9,10,11,12] | 2 => some [0,9,10,11,12,24] | 3 => some [6] | 4 => some [0,9,10,11,28] | 5 => some [6] | 6 => some [0,9,10,11,35] | 7 => some [6] | 8 => some [0,9,10,11,12] | 9 => some [0,9,10,11,12,45] | 10 => some [12] | 11 => some [6] | _ => none
  track := fun | _ => false
  draw := fun | _ => .done
  iter := fun | _ => none }
def vc76 (a0 : Option (Nat × Nat)) (a1 : ByteArray) (a2 : ByteArray) (h : Heap) (R : Int → Heap → Prop) : Prop :=
 Call Proofs.Tryz.prog 145 [.lf (.ptr a0), .lf (.str a1), .lf (.str a2)] h [.one (.int .i64), .one .str, .one (.int .i64), .one .str, .one (.int .i64), .one (.int .i64)] fun (i0 : Int) (t1 : ByteArray)
 (i2 : Int) (t3 : ByteArray) (i4 i5 : Int) h6 => Br (i5 != 0) (R i5 h6) (Call Proofs.Tryz.prog 130 [.lf (.ptr a0), .lf (.int .i64 i2)] h6 [.agg [.slc, .slc]] fun (s7 s8 : Slc) h9 => Call
 Proofs.Tryz.prog 132 [.agg [.slc s7, .slc s8], .lf (.str t3)] h9 [.one (.int .i64)] fun (i10 : Int) h11 => Br (decide (i10 ≥ 0)) (R 7 h11) (Call Proofs.Tryz.prog 130 [.lf (.ptr a0), .lf (.int .i64 i2)]
 h11 [.agg [.slc, .slc]] fun (s12 s13 : Slc) h14 => Br (decide ((↑(Slc.len s12) : Int) ≥ 1024)) (R 2 h14) (Call Proofs.Tryz.prog 129 [.lf (.ptr a0)] h14 [.one (.int .i64)] fun (i15 : Int) h16 => Br (i15
 == 0) (Call Proofs.Tryz.prog 130 [.lf (.ptr a0), .lf (.int .i64 i2)] h16 [.agg [.slc, .slc]] fun (s17 s18 : Slc) h19 => Call Proofs.Tryz.prog 134 [.agg [.slc s17, .slc s18], .lf (.str t3), .lf (.int
 .i64 i4)] h19 [.agg [.slc, .slc]] fun (s20 s21 : Slc) h22 => Call Proofs.Tryz.prog 133 [.lf (.ptr a0), .lf (.int .i64 i2), .agg [.slc s20, .slc s21]] h22 [] fun h23 => R i15 h23) (R i15 h16))))
theorem ok76 {a0 : Option (Nat × Nat)} {a1 : ByteArray} {a2 : ByteArray} {h : Heap} {R : Int → Heap → Prop} (hv : vc76 a0 a1 a2 h R) : Call Proofs.Tryz.prog 76 [.lf (.ptr a0), .lf (.str a1), .lf (.str a2)] h [.one (.int .i64)] R := call_eq (pl := pl76) hng hmix Proofs.Tryz.func76 (by kernel_rfl) hv
def pl78 : Plan := {
  blk := fun _ => none
  seq := fun _ => none
  loop := fun _ => none
  live := fun | 0 => some [0,1] | 1 => some [0,1,6] | 2 => some [0,1,6,17] | 3 => some [4] | 4 => some [0,1,6] | 5 => some [0,1,6,22] | 6 => some [0,6,7,8] | 7 => some [6] | 8 => some [4] | _ => none
  track := fun | _ => false
  draw := fun | _ => .done
  iter := fun | _ => none }
def vc78 (a0 : Option (Nat × Nat)) (a1 : ByteArray) (h : Heap) (R : Int → Heap → Prop) : Prop :=
 Call Proofs.Tryz.prog 138 [.lf (.ptr a0), .lf (.str a1)] h [.one (.int .i64), .one (.int .i64)] fun (i0 i1 : Int) h2 => Br (i1 != 0) (R i1 h2) (Call Proofs.Tryz.prog 129 [.lf (.ptr a0)] h2 [.one (.int
 .i64)] fun (i3 : Int) h4 => Br (i3 == 0) (Call Proofs.Tryz.prog 131 [.lf (.ptr a0), .lf (.str a1)] h4 [.one (.int .i64), .one .str, .one (.int .i64)] fun (i5 : Int) (t6 : ByteArray) (i7 : Int) h8 =>
 Call Proofs.Tryz.prog 130 [.lf (.ptr a0), .lf (.int .i64 i5)] h8 [.agg [.slc, .slc]] fun (s9 s10 : Slc) h11 => Call Proofs.Tryz.prog 134 [.agg [.slc s9, .slc s10], .lf (.str t6), .lf (.int .i64 (-1 :
 Int))] h11 [.agg [.slc, .slc]] fun (s12 s13 : Slc) h14 => Call Proofs.Tryz.prog 133 [.lf (.ptr a0), .lf (.int .i64 i5), .agg [.slc s12, .slc s13]] h14 [] fun h15 => R i3 h15) (R i3 h4))
theorem ok78 {a0 : Option (Nat × Nat)} {a1 : ByteArray} {h : Heap} {R : Int → Heap → Prop} (hv : vc78 a0 a1 h R) : Call Proofs.Tryz.prog 78 [.lf (.ptr a0), .lf (.str a1)] h [.one (.int .i64)] R := call_eq (pl := pl78) hng hmix Proofs.Tryz.func78 (by kernel_rfl) hv
def pl163 : Plan := {
  blk := fun _ => none
  seq := fun _ => none
  loop := fun _ => none
  live := fun | 0 => some [0,1,2] | 1 => some [0,2,7,8] | 2 => some [7,8,9,10] | 3 => some [6] | _ => none
  track := fun | _ => false
  draw := fun | _ => .done
  iter := fun | _ => none }
def vc163 (a0 : Option (Nat × Nat)) (a1 : ByteArray) (a2 : ByteArray) (h : Heap) (R : Bool → Heap → Prop) : Prop :=
 Call Proofs.Tryz.prog 138 [.lf (.ptr a0), .lf (.str a1)] h [.one (.int .i64), .one (.int .i64)] fun (i0 i1 : Int) h2 => Call Proofs.Tryz.prog 138 [.lf (.ptr a0), .lf (.str a2)] h2 [.one (.int .i64),
 .one (.int .i64)] fun (i3 i4 : Int) h5 => Br (i1 == 0) (Br (i4 == 0) (R (i0 == i3) h5) (R false h5)) (R false h5)
theorem ok163 {a0 : Option (Nat × Nat)} {a1 : ByteArray} {a2 : ByteArray} {h : Heap} {R : Bool → Heap → Prop} (hv : vc163 a0 a1 a2 h R) : Call Proofs.Tryz.prog 163 [.lf (.ptr a0), .lf (.str a1), .lf (.str a2)] h [.one .bool] R := call_eq (pl := pl163) hng hmix Proofs.Tryz.func163 (by kernel_rfl) hv
def pl199 : Plan := {
  blk := fun _ => none
  seq := fun _ => none
  loop := fun | 2 => some ⟨[(5, .one (.int .i64))], [], []⟩ | _ => none
  live := fun | 0 => some [0,1] | 1 => some [0,1,5] | 2 => some [0,1,5,9] | 3 => some [0,1,5] | 4 => some [0,1,5,17] | 5 => some [4] | 6 => some [4] | _ => none
  track := fun | _ => false
  draw := fun | _ => .done
  iter := fun | _ => none }
def vc199 (a0 : Slc) (a1 : Int) (h : Heap) (R : Bool → Heap → Prop) : Prop :=
 ∃ (I0 : Int → Heap → Nat → Prop), (∃ b1, I0 0 h b1) ∧ ∀ i2 h3 b4, I0 i2 h3 b4 → Br (decide (i2 < (↑(Slc.len a0) : Int))) (IxC a0 i2 1 fun b5 b6 => ∃ i7, cellsAt h3 b5 b6 [.int .i64 i7] ∧ Br (i7 == a1)
 (R true h3) (∃ b8, b8 < b4 ∧ I0 (IntKind.wrap .i64 (i2 + 1)) h3 b8)) (R false h3)
theorem ok199 {a0 : Slc} {a1 : Int} {h : Heap} {R : Bool → Heap → Prop} (hv : vc199 a0 a1 h R) : Call Proofs.Tryz.prog 199 [.lf (.slc a0), .lf (.int .i64 a1)] h [.one .bool] R := call_eq (pl := pl199) hng hmix Proofs.Tryz.func199 (by kernel_rfl) hv
def pl151 : Plan := {
  blk := fun _ => none
  seq := fun _ => none
  loop := fun | 3 => some ⟨[(3, .one .slc), (4, .one (.int .i64))], [], []⟩ | 7 => some ⟨[(3, .one .slc), (6, .one (.int .i64))], [], []⟩ | _ => none
  live := fun | 0 => some [0] | 1 => some [0,3] | 2 => some [0,3,4] | 3 => some [0,3,4,13] | 4 => some [0,3,4] | 5 => some [0,3,4,5] | 6 => some [0,3,4,5,6] | 7 => some [0,3,4,5,6,23] | 8 => some [0,3,4,5,6] | 9 => some [0,3,4,5,6,32] | 10 => some [0,3,4,5,6] | 11 => some [2] | _ => none
  track := fun | _ => false
  draw := fun | _ => .done
  iter := fun | _ => none }
def vc151 (a0 : Option (Nat × Nat)) (h : Heap) (R : Slc → Heap → Prop) : Prop :=
 ∃ (I0 : Slc → Int → Heap → Nat → Prop), (∃ b1, I0 (Slc.mk none 0 0) 0 h b1) ∧ ∀ s2 i3 h4 b5, I0 s2 i3 h4 b5 → NilC a0 fun b6 b7 => ∃ s8, cellsAt h4 b6 (b7 + 1) [.slc s8] ∧ Br (decide (i3 < (↑(Slc.len
 s8) : Int))) (Call Proofs.Tryz.prog 130 [.lf (.ptr a0), .lf (.int .i64 i3)] h4 [.agg [.slc, .slc]] fun (s9 s10 : Slc) h11 => ∃ (I12 : Slc → Int → Heap → Nat → Prop), (∃ b13, I12 s2 0 h11 b13) ∧ ∀ s14
 i15 h16 b17, I12 s14 i15 h16 b17 → Br (decide (i15 < (↑(Slc.len s10) : Int))) (IxC s10 i15 1 fun b18 b19 => ∃ i20, cellsAt h16 b18 b19 [.int .i64 i20] ∧ Call Proofs.Tryz.prog 199 [.lf (.slc s14), .lf
 (.int .i64 i20)] h16 [.one .bool] fun (c21 : Bool) h22 => Br (!c21) (IxC s10 i15 1 fun b23 b24 => ∃ i25, cellsAt h22 b23 b24 [.int .i64 i25] ∧ New 3 [.int .i64 i25] h22 fun b26 h27 => AppC 3 [.int .i64
 0] 1 8 s14 (Slc.mk (some (b26, 0)) 1 1) h27 fun (s28 : Slc) h29 => ∃ b30, b30 < b17 ∧ I12 s28 (IntKind.wrap .i64 (i15 + 1)) h29 b30) (∃ b31, b31 < b17 ∧ I12 s14 (IntKind.wrap .i64 (i15 + 1)) h22 b31))
 (∃ b32, b32 < b5 ∧ I0 s14 (IntKind.wrap .i64 (i3 + 1)) h16 b32)) (R s2 h4)
theorem ok151 {a0 : Option (Nat × Nat)} {h : Heap} {R : Slc → Heap → Prop} (hv : vc151 a0 h R) : Call Proofs.Tryz.prog 151 [.lf (.ptr a0)] h [.one .slc] R := call_eq (pl := pl151) hng hmix Proofs.Tryz.func151 (by kernel_rfl) hv
def pl88 : Plan := {
  blk := fun _ => none
  seq := fun _ => none
  loop := fun | 4 => some ⟨[(3, .one (.int .i64)), (5, .one (.int .i64))], [], []⟩ | _ => none
  live := fun | 0 => some [0] | 1 => some [0,3] | 2 => some [0,3,4] | 3 => some [0,3,4,5] | 4 => some [0,3,4,5,11] | 5 => some [0,3,4,5] | 6 => some [0,3,4,5] | 7 => some [2] | _ => none
  track := fun | _ => false
  draw := fun | 6 => .still 0 (.still 1 (.still 2 (.still 3 (.still 4 (.still 5 (.still 6 (.still 7 (.still 8 (.still 9 (.still 10 (.mem 11 (.still 12 (.still 13 (.still 14 (.done))))))))))))))) | _ => .done
  iter := fun | _ => none }
def vc88 (a0 : Option (Nat × Nat)) (h : Heap) (R : Int → Heap → Prop) : Prop :=
 Call Proofs.Tryz.prog 151 [.lf (.ptr a0)] h [.one .slc] fun (s0 : Slc) h1 => ∃ (I2 : Int → Int → Heap → Nat → Prop), (∃ b3, I2 0 0 h1 b3) ∧ ∀ i4 i5 h6 b7, I2 i4 i5 h6 b7 → Br (decide (i5 < (↑(Slc.len
 s0) : Int))) (NilC a0 fun b8 b9 => ∃ s10, cellsAt h6 b8 (b9 + 2) [.slc s10] ∧ IxC s0 i5 1 fun b11 b12 => ∃ i13, cellsAt h6 b11 b12 [.int .i64 i13] ∧ IxC s10 i13 2 fun b14 b15 => ∃ s16, ∃ s17, cellsAt
 h6 b14 b15 [.slc s16, .slc s17] ∧ Call Proofs.Tryz.prog 139 [.agg [.slc s16, .slc s17]] h6 [.one .slc] fun (s18 : Slc) h19 => ∃ b20, b20 < b7 ∧ I2 (IntKind.wrap .i64 (i4 + (↑(Slc.len s18) : Int)))
 (IntKind.wrap .i64 (i5 + 1)) h19 b20) (R i4 h6)
theorem ok88 {a0 : Option (Nat × Nat)} {h : Heap} {R : Int → Heap → Prop} (hv : vc88 a0 h R) : Call Proofs.Tryz.prog 88 [.lf (.ptr a0)] h [.one (.int .i64)] R := call_eq (pl := pl88) hng hmix Proofs.Tryz.func88 (by kernel_rfl) hv
end Go.V.YtdeihieblljfcaaGreat
