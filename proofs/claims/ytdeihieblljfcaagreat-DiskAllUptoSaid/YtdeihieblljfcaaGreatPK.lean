/- This text proves a part of the laws of seat YtdeihieblljfcaaGreat, under no condition: F1i F1k. -/
import Derived.Test.YtdeihieblljfcaaGreatPC
import Derived.Eval
import Derived.Test.YtdeihieblljfcaaGreatChecked
import Derived.Test.YtdeihieblljfcaaGreatPE
set_option linter.unusedVariables false
set_option maxRecDepth 100000
namespace Go.V.YtdeihieblljfcaaGreat
open Go Go.V
def pl135 : Plan := {
  blk := fun _ => none
  seq := fun _ => none
  loop := fun _ => none
  live := fun | 0 => some [0] | 1 => some [2] | _ => none
  track := fun | _ => false
  draw := fun | _ => .done
  iter := fun | _ => none }
def vc135 (a0 : Slc) (h : Heap) (R : Slc → Heap → Prop) : Prop :=
 MkC 5 [.int .u8 0] 1 1 0 (IntKind.wrap .i64 ((↑(Slc.len a0) : Int) + 2)) h fun (s0 : Slc) h1 => AppC 5 [.int .u8 0] 1 1 s0 a0 h1 fun (s2 : Slc) h3 => R s2 h3
theorem ok135 {a0 : Slc} {h : Heap} {R : Slc → Heap → Prop} (hv : vc135 a0 h R) : Call Proofs.Tryz.prog 135 [.lf (.slc a0)] h [.one .slc] R := call_eq (pl := pl135) hng hmix Proofs.Tryz.func135 (by kernel_rfl) hv
def pl94 : Plan := {
  blk := fun _ => none
  seq := fun _ => none
  loop := fun | 1 => some ⟨[(2, .one (.int .i64))], [], []⟩ | _ => none
  live := fun | 0 => some [0,2] | 1 => some [0,2,6] | 2 => some [0,2] | 3 => some [0,2] | 4 => some [] | _ => none
  track := fun | _ => false
  draw := fun | _ => .done
  iter := fun | _ => none }
def vc94 (a0 : Slc) (h : Heap) (R : Heap → Prop) : Prop :=
 ∃ (I0 : Int → Heap → Nat → Prop), (∃ b1, I0 0 h b1) ∧ ∀ i2 h3 b4, I0 i2 h3 b4 → Br (decide (i2 < (↑(Slc.len a0) : Int))) (IxC a0 i2 1 fun b5 b6 => StC h3 b5 b6 [.int .u8 85] fun h7 => ∃ b8, b8 < b4 ∧
 I0 (IntKind.wrap .i64 (i2 + 1)) h7 b8) (New 5 [.int .u8 85] h3 fun b9 h10 => AppC 5 [.int .u8 0] 1 1 a0 (Slc.mk (some (b9, 0)) 1 1) h10 fun (s11 : Slc) h12 => R h12)
theorem ok94 {a0 : Slc} {h : Heap} {R : Heap → Prop} (hv : vc94 a0 h R) : Call Proofs.Tryz.prog 94 [.lf (.slc a0)] h [] R := call_eq (pl := pl94) hng hmix Proofs.Tryz.func94 (by kernel_rfl) hv
def pl89 : Plan := {
  blk := fun _ => none
  seq := fun _ => none
  loop := fun | 4 => some ⟨[(5, .one (.int .i64))], [], []⟩ | _ => none
  live := fun | 0 => some [0,1] | 1 => some [0,1,10] | 2 => some [4] | 3 => some [0,1,5] | 4 => some [0,1,5,14] | 5 => some [0,1,5] | 6 => some [0,1,5,25] | 7 => some [4] | 8 => some [0,1,5] | 9 => some [4] | _ => none
  track := fun | _ => false
  draw := fun | 6 => .still 0 (.still 1 (.still 2 (.still 3 (.still 4 (.still 5 (.still 6 (.still 7 (.still 8 (.done))))))))) | _ => .done
  iter := fun | _ => none }
def vc89 (a0 : Slc) (a1 : Slc) (h : Heap) (R : Bool → Heap → Prop) : Prop :=
 Br ((↑(Slc.len a0) : Int) != (↑(Slc.len a1) : Int)) (R false h) (∃ (I0 : Int → Heap → Nat → Prop), (∃ b1, I0 0 h b1) ∧ ∀ i2 h3 b4, I0 i2 h3 b4 → Br (decide (i2 < (↑(Slc.len a0) : Int))) (IxC a0 i2 1
 fun b5 b6 => ∃ (t7 : ByteArray), cellsAt h3 b5 b6 [.str t7] ∧ IxC a1 i2 1 fun b8 b9 => ∃ (t10 : ByteArray), cellsAt h3 b8 b9 [.str t10] ∧ Br (!strEq t7 t10) (R false h3) (IxC a0 i2 1 fun b11 b12 => StC
 h3 b11 b12 [.str (ByteArray.mk #[115, 112, 111, 105, 108, 116])] fun h13 => ∃ b14, b14 < b4 ∧ I0 (IntKind.wrap .i64 (i2 + 1)) h13 b14)) (R true h3))
theorem ok89 {a0 : Slc} {a1 : Slc} {h : Heap} {R : Bool → Heap → Prop} (hv : vc89 a0 a1 h R) : Call Proofs.Tryz.prog 89 [.lf (.slc a0), .lf (.slc a1)] h [.one .bool] R := call_eq (pl := pl89) hng hmix Proofs.Tryz.func89 (by kernel_rfl) hv
def pl70 : Plan := {
  blk := fun _ => none
  seq := fun _ => none
  loop := fun _ => none
  live := fun | 0 => some [0,3] | 1 => some [0,3,5] | 2 => some [0,3,5,13] | 3 => some [0,3,5,6] | 4 => some [0,3,6] | 5 => some [4] | 6 => some [0,3,5,7] | 7 => some [0,3,7] | 8 => some [4] | _ => none
  track := fun | 3 => true | _ => false
  draw := fun | 3 => .still 0 (.still 1 (.still 2 (.still 3 (.still 4 (.still 5 (.still 6 (.still 7 (.still 8 (.mem 9 (.still 10 (.done))))))))))) | 5 => .still 0 (.still 1 (.still 2 (.still 3 (.still 4 (.still 5 (.still 6 (.still 7 (.still 8 (.still 9 (.still 10 (.mem 11 (.still 12 (.still 13 (.done)))))))))))))) | 6 => .still 0 (.still 1 (.still 2 (.still 3 (.still 4 (.still 5 (.still 6 (.mem 7 (.still 8 (.done))))))))) | 8 => .still 0 (.still 1 (.still 2 (.still 3 (.still 4 (.still 5 (.still 6 (.still 7 (.still 8 (.mem 9 (.still 10 (.still 11 (.done)))))))))))) | _ => .done
  iter := fun | _ => none }
def vc70 (a0 : Option (Nat × Nat)) (a1 : Int) (a2 : ByteArray) (a3 : ByteArray) (a4 : Slc) (a5 : Int) (a6 : Int) (a7 : Slc) (a8 : Slc) (h : Heap) (R : Bool → Heap → Prop) : Prop :=
 New 58 [.int .i64 a1, .str a2, .str a3, .slc a4, .int .i64 a5, .int .i64 a6, .slc a7, .slc a8] h fun b0 h1 => Call Proofs.Tryz.prog 135 [.lf (.slc a4)] h1 [.one .slc] fun (s2 : Slc) h3 => keepB h1 h3
 [b0] ∧ Br (a1 == 3) (NilC a0 fun b4 b5 => ∃ (p6 : Option (Nat × Nat)), cellsAt h3 b4 (b5 + 0) [.ptr p6] ∧ Call Proofs.Tryz.prog 39 [.lf (.ptr p6), .lf (.str a2), .lf (.int .i64 a5), .lf (.slc s2)] h3
 [.one (.int .i64)] fun (i7 : Int) h8 => keepB h3 h8 [b0] ∧ Call Proofs.Tryz.prog 94 [.lf (.slc s2)] h8 [] fun h9 => keepB h8 h9 [b0] ∧ NilC a0 fun b10 b11 => ∃ (p12 : Option (Nat × Nat)), cellsAt h9
 b10 (b11 + 1) [.ptr p12] ∧ Call Proofs.Tryz.prog 136 [.lf (.ptr p12), .lf (.str a2), .lf (.int .i64 a5), .lf (.slc a4)] h9 [.one (.int .i64)] fun (i13 : Int) h14 => keepB h9 h14 [b0] ∧ R (i7 == i13)
 h14) (NilC a0 fun b15 b16 => ∃ (p17 : Option (Nat × Nat)), cellsAt h3 b15 (b16 + 0) [.ptr p17] ∧ Call Proofs.Tryz.prog 15 [.lf (.ptr p17), .lf (.str a2), .lf (.slc s2)] h3 [.one (.int .i64)] fun (i18 :
 Int) h19 => keepB h3 h19 [b0] ∧ Call Proofs.Tryz.prog 94 [.lf (.slc s2)] h19 [] fun h20 => keepB h19 h20 [b0] ∧ NilC a0 fun b21 b22 => ∃ (p23 : Option (Nat × Nat)), cellsAt h20 b21 (b22 + 1) [.ptr p23]
 ∧ Call Proofs.Tryz.prog 137 [.lf (.ptr p23), .lf (.str a2), .lf (.slc a4)] h20 [.one (.int .i64)] fun (i24 : Int) h25 => keepB h20 h25 [b0] ∧ R (i18 == i24) h25)
theorem ok70 {a0 : Option (Nat × Nat)} {a1 : Int} {a2 : ByteArray} {a3 : ByteArray} {a4 : Slc} {a5 : Int} {a6 : Int} {a7 : Slc} {a8 : Slc} {h : Heap} {R : Bool → Heap → Prop} (hv : vc70 a0 a1 a2 a3 a4 a5 a6 a7 a8 h R) : Call Proofs.Tryz.prog 70 [.lf (.ptr a0), .agg [.int .i64 a1, .str a2, .str a3, .slc a4, .int .i64 a5, .int .i64 a6, .slc a7, .slc a8]] h [.one .bool] R := call_eq (pl := pl70) hng hmix Proofs.Tryz.func70 (by kernel_rfl) hv
def pl86 : Plan := {
  blk := fun _ => none
  seq := fun | 5 => some ⟨[(11, .one .bool)], [], []⟩ | 9 => some ⟨[(11, .one .bool)], [], []⟩ | 13 => some ⟨[(11, .one .bool)], [], []⟩ | 16 => some ⟨[(11, .one .bool)], [], []⟩ | _ => none
  loop := fun _ => none
  live := fun | 0 => some [0,3] | 1 => some [0,3,5,6] | 2 => some [0,3,5,6,7,8] | 3 => some [0,3,5,6,7,8,9,10] | 4 => some [0,3,5,11] | 5 => some [0,3,11] | 6 => some [0,3,5,6,11] | 7 => some [0,3,5,6,7,8,11] | 8 => some [0,3,5,11] | 9 => some [0,3,11] | 10 => some [0,3,6,9,11] | 11 => some [0,3,6,8,9,11,12] | 12 => some [0,3,11] | 13 => some [0,3,6,11,13] | 14 => some [0,3,6,8,11,13,14] | 15 => some [0,3,11] | 16 => some [0,3,6,9,11] | 17 => some [0,3,6,8,9,11,12] | 18 => some [4] | _ => none
  track := fun | 3 => true | _ => false
  draw := fun | 1 => .still 0 (.still 1 (.still 2 (.still 3 (.still 4 (.still 5 (.mem 6 (.still 7 (.still 8 (.still 9 (.still 10 (.still 11 (.done)))))))))))) | 2 => .still 0 (.still 1 (.still 2 (.still 3 (.still 4 (.still 5 (.mem 6 (.still 7 (.still 8 (.still 9 (.still 10 (.still 11 (.done)))))))))))) | 3 => .still 0 (.still 1 (.still 2 (.still 3 (.still 4 (.still 5 (.mem 6 (.still 7 (.still 8 (.still 9 (.still 10 (.still 11 (.done)))))))))))) | 6 => .still 0 (.still 1 (.still 2 (.still 3 (.still 4 (.still 5 (.still 6 (.still 7 (.still 8 (.still 9 (.mem 10 (.still 11 (.still 12 (.still 13 (.still 14 (.still 15 (.done)))))))))))))))) | 7 => .still 0 (.still 1 (.still 2 (.still 3 (.still 4 (.still 5 (.still 6 (.still 7 (.still 8 (.still 9 (.mem 10 (.still 11 (.still 12 (.still 13 (.still 14 (.still 15 (.done)))))))))))))))) | 10 => .still 0 (.still 1 (.still 2 (.still 3 (.still 4 (.still 5 (.mem 6 (.still 7 (.still 8 (.still 9 (.still 10 (.still 11 (.done)))))))))))) | 11 => .still 0 (.still 1 (.still 2 (.still 3 (.still 4 (.still 5 (.mem 6 (.still 7 (.still 8 (.still 9 (.still 10 (.still 11 (.done)))))))))))) | 13 => .still 0 (.still 1 (.still 2 (.still 3 (.still 4 (.still 5 (.mem 6 (.still 7 (.still 8 (.still 9 (.still 10 (.still 11 (.done)))))))))))) | 14 => .still 0 (.still 1 (.still 2 (.still 3 (.still 4 (.still 5 (.mem 6 (.still 7 (.still 8 (.still 9 (.still 10 (.still 11 (.done)))))))))))) | 16 => .still 0 (.still 1 (.still 2 (.still 3 (.still 4 (.still 5 (.mem 6 (.still 7 (.still 8 (.still 9 (.still 10 (.still 11 (.done)))))))))))) | 17 => .still 0 (.still 1 (.still 2 (.still 3 (.still 4 (.still 5 (.mem 6 (.still 7 (.still 8 (.still 9 (.still 10 (.still 11 (.done)))))))))))) | 18 => .still 0 (.still 1 (.still 2 (.still 3 (.still 4 (.still 5 (.still 6 (.still 7 (.still 8 (.still 9 (.still 10 (.still 11 (.still 12 (.still 13 (.still 14 (.still 15 (.still 16 (.still 17 (.still 18 (.still 19 (.still 21 (.still 22 (.still 23 (.still 24 (.still 25 (.still 26 (.still 27 (.still 28 (.mem 20 (.mem 29 (.still 30 (.still 31 (.still 32 (.done))))))))))))))))))))))))))))))))) | _ => .done
  iter := fun | _ => none }
def vc86 (a0 : Option (Nat × Nat)) (a1 : Int) (a2 : ByteArray) (a3 : ByteArray) (a4 : Slc) (a5 : Int) (a6 : Int) (a7 : Slc) (a8 : Slc) (h : Heap) (R : Bool → Heap → Prop) : Prop :=
 New 58 [.int .i64 a1, .str a2, .str a3, .slc a4, .int .i64 a5, .int .i64 a6, .slc a7, .slc a8] h fun b0 h1 => NilC a0 fun b2 b3 => ∃ (p4 : Option (Nat × Nat)), cellsAt h1 b2 (b3 + 0) [.ptr p4] ∧ Call
 Proofs.Tryz.prog 41 [.lf (.ptr p4), .lf (.str a2)] h1 [.one .slc, .one (.int .i64)] fun (s5 : Slc) (i6 : Int) h7 => keepB h1 h7 [b0] ∧ NilC a0 fun b8 b9 => ∃ (p10 : Option (Nat × Nat)), cellsAt h7 b8
 (b9 + 1) [.ptr p10] ∧ Call Proofs.Tryz.prog 154 [.lf (.ptr p10), .lf (.str a2)] h7 [.one .slc, .one (.int .i64)] fun (s11 : Slc) (i12 : Int) h13 => keepB h7 h13 [b0] ∧ NilC a0 fun b14 b15 => ∃ (p16 :
 Option (Nat × Nat)), cellsAt h13 b14 (b15 + 0) [.ptr p16] ∧ Call Proofs.Tryz.prog 155 [.lf (.ptr p16), .lf (.str a2)] h13 [.one (.int .i64), .one (.int .i64)] fun (i17 i18 : Int) h19 => keepB h13 h19
 [b0] ∧ ∃ (I20 : Bool → Heap → Prop), (∃ (t21 : ByteArray), bytesAt h19 s5 t21 ∧ ∃ (t22 : ByteArray), bytesAt h19 s11 t22 ∧ Br (strEq t21 t22) (Br (i6 == i12) (Br (i17 == (↑(Slc.len s11) : Int)) (I20
 (i18 == i12) h19) (I20 false h19)) (I20 false h19)) (I20 false h19)) ∧ ∀ c23 h24, I20 c23 h24 → Call Proofs.Tryz.prog 94 [.lf (.slc s5)] h24 [] fun h25 => keepB h24 h25 [b0] ∧ NilC a0 fun b26 b27 => ∃
 (p28 : Option (Nat × Nat)), cellsAt h25 b26 (b27 + 0) [.ptr p28] ∧ Call Proofs.Tryz.prog 156 [.lf (.ptr p28), .lf (.str a2), .lf (.int .i64 a5), .lf (.int .i64 a6)] h25 [.one .slc, .one (.int .i64)]
 fun (s29 : Slc) (i30 : Int) h31 => keepB h25 h31 [b0] ∧ NilC a0 fun b32 b33 => ∃ (p34 : Option (Nat × Nat)), cellsAt h31 b32 (b33 + 1) [.ptr p34] ∧ Call Proofs.Tryz.prog 157 [.lf (.ptr p34), .lf (.str
 a2), .lf (.int .i64 a5), .lf (.int .i64 a6)] h31 [.one .slc, .one (.int .i64)] fun (s35 : Slc) (i36 : Int) h37 => keepB h31 h37 [b0] ∧ ∃ (I38 : Bool → Heap → Prop), Br c23 (∃ (t39 : ByteArray), bytesAt
 h37 s29 t39 ∧ ∃ (t40 : ByteArray), bytesAt h37 s35 t40 ∧ Br (strEq t39 t40) (I38 (i30 == i36) h37) (I38 false h37)) (I38 false h37) ∧ ∀ c41 h42, I38 c41 h42 → Call Proofs.Tryz.prog 94 [.lf (.slc s29)]
 h42 [] fun h43 => keepB h42 h43 [b0] ∧ NilC a0 fun b44 b45 => ∃ (p46 : Option (Nat × Nat)), cellsAt h43 b44 (b45 + 0) [.ptr p46] ∧ Call Proofs.Tryz.prog 158 [.lf (.ptr p46), .lf (.str a2)] h43 [.one
 (.int .i64), .one (.int .i64)] fun (i47 i48 : Int) h49 => keepB h43 h49 [b0] ∧ NilC a0 fun b50 b51 => ∃ (p52 : Option (Nat × Nat)), cellsAt h49 b50 (b51 + 1) [.ptr p52] ∧ Call Proofs.Tryz.prog 159 [.lf
 (.ptr p52), .lf (.str a2)] h49 [.one (.int .i64), .one (.int .i64)] fun (i53 i54 : Int) h55 => keepB h49 h55 [b0] ∧ ∃ (I56 : Bool → Heap → Prop), Br c41 (Br (i47 == i53) (I56 (i48 == i54) h55) (I56
 false h55)) (I56 false h55) ∧ ∀ c57 h58, I56 c57 h58 → NilC a0 fun b59 b60 => ∃ (p61 : Option (Nat × Nat)), cellsAt h58 b59 (b60 + 0) [.ptr p61] ∧ Call Proofs.Tryz.prog 160 [.lf (.ptr p61), .lf (.str
 a2)] h58 [.one .slc, .one (.int .i64)] fun (s62 : Slc) (i63 : Int) h64 => keepB h58 h64 [b0] ∧ NilC a0 fun b65 b66 => ∃ (p67 : Option (Nat × Nat)), cellsAt h64 b65 (b66 + 1) [.ptr p67] ∧ Call
 Proofs.Tryz.prog 161 [.lf (.ptr p67), .lf (.str a2)] h64 [.one .slc, .one (.int .i64)] fun (s68 : Slc) (i69 : Int) h70 => keepB h64 h70 [b0] ∧ ∃ (I71 : Bool → Heap → Prop), Br c57 (Call
 Proofs.Tryz.prog 89 [.lf (.slc s62), .lf (.slc s68)] h70 [.one .bool] fun (c72 : Bool) h73 => keepB h70 h73 [b0] ∧ Br c72 (I71 (i63 == i69) h73) (I71 false h73)) (I71 false h70) ∧ ∀ c74 h75, I71 c74
 h75 → NilC a0 fun b76 b77 => ∃ (p78 : Option (Nat × Nat)), cellsAt h75 b76 (b77 + 0) [.ptr p78] ∧ Call Proofs.Tryz.prog 91 [.lf (.ptr p78), .lf (.str a2)] h75 [.one (.int .i64), .one (.int .i64)] fun
 (i79 i80 : Int) h81 => keepB h75 h81 [b0] ∧ NilC a0 fun b82 b83 => ∃ (p84 : Option (Nat × Nat)), cellsAt h81 b82 (b83 + 1) [.ptr p84] ∧ Call Proofs.Tryz.prog 92 [.lf (.ptr p84), .lf (.str a2)] h81
 [.one (.int .i64), .one (.int .i64)] fun (i85 i86 : Int) h87 => keepB h81 h87 [b0] ∧ Br c74 (Br (i79 == i85) (Br (i80 == i86) (NilC a0 fun b88 b89 => ∃ (p90 : Option (Nat × Nat)), cellsAt h87 b88 (b89
 + 0) [.ptr p90] ∧ NilC a0 fun b91 b92 => ∃ (p93 : Option (Nat × Nat)), cellsAt h87 b91 (b92 + 1) [.ptr p93] ∧ Call Proofs.Tryz.prog 162 [.lf (.ptr p90), .lf (.str a2), .lf (.str a3)] h87 [.one .bool]
 fun (c94 : Bool) (h95 : Heap) => keepB h87 h95 [b0] ∧ cellsAt h95 b91 (b92 + 1) [.ptr p93] ∧ Call Proofs.Tryz.prog 163 [.lf (.ptr p93), .lf (.str a2), .lf (.str a3)] h95 [.one .bool] fun (c96 : Bool)
 (h97 : Heap) => keepB h95 h97 [b0] ∧ R (c94 == c96) h97) (R false h87)) (R false h87)) (R false h87)
theorem ok86 {a0 : Option (Nat × Nat)} {a1 : Int} {a2 : ByteArray} {a3 : ByteArray} {a4 : Slc} {a5 : Int} {a6 : Int} {a7 : Slc} {a8 : Slc} {h : Heap} {R : Bool → Heap → Prop} (hv : vc86 a0 a1 a2 a3 a4 a5 a6 a7 a8 h R) : Call Proofs.Tryz.prog 86 [.lf (.ptr a0), .agg [.int .i64 a1, .str a2, .str a3, .slc a4, .int .i64 a5, .int .i64 a6, .slc a7, .slc a8]] h [.one .bool] R := call_eq (pl := pl86) hng hmix Proofs.Tryz.func86 (by kernel_rfl) hv
def pl28 : Plan := {
  blk := fun _ => none
  seq := fun | 10 => some ⟨[(58, .one .bool)], [], []⟩ | _ => none
  loop := fun _ => none
  live := fun | 0 => some [0,3] | 1 => some [0,3,6] | 2 => some [0,3,6,7] | 3 => some [4] | 4 => some [0,3,6,24] | 5 => some [4] | 6 => some [0,3,6,41] | 7 => some [4] | 8 => some [0,3,6,58] | 9 => some [0,3,6,58] | 10 => some [4] | 11 => some [0,3,6,64] | 12 => some [4] | 13 => some [0,3,6,85] | 14 => some [4] | 15 => some [0,3,6,106] | 16 => some [4] | 17 => some [0,3,6,127] | 18 => some [4] | 19 => some [0,3,6,144] | 20 => some [4] | 21 => some [0,3,6,161] | 22 => some [4] | 23 => some [0,3,6,178] | 24 => some [0,3] | 25 => some [] | 26 => some [0,3,6,198] | 27 => some [0,3] | 28 => some [] | 29 => some [0,3,6,214] | 30 => some [4] | 31 => some [0,3,6,235] | 32 => some [0,3] | 33 => some [] | 34 => some [0,3,259] | 35 => some [4] | 36 => some [4] | _ => none
  track := fun | 3 => true | _ => false
  draw := fun | 3 => .still 0 (.still 1 (.still 2 (.still 3 (.still 4 (.still 5 (.still 7 (.still 8 (.still 9 (.still 10 (.still 11 (.still 12 (.mem 6 (.mem 13 (.still 14 (.still 15 (.done)))))))))))))))) | 5 => .still 0 (.still 1 (.still 2 (.still 3 (.still 4 (.still 5 (.still 7 (.still 8 (.still 9 (.still 10 (.still 11 (.still 12 (.mem 6 (.mem 13 (.still 14 (.still 15 (.done)))))))))))))))) | 7 => .still 0 (.still 1 (.still 2 (.still 3 (.still 4 (.still 5 (.still 7 (.still 8 (.still 9 (.still 10 (.still 11 (.still 12 (.mem 6 (.mem 13 (.still 14 (.still 15 (.done)))))))))))))))) | 12 => .still 0 (.still 1 (.still 2 (.still 3 (.still 4 (.still 5 (.still 6 (.still 7 (.still 9 (.still 10 (.still 11 (.still 12 (.still 13 (.still 14 (.still 15 (.still 16 (.mem 8 (.mem 17 (.still 18 (.still 19 (.done)))))))))))))))))))) | 14 => .still 0 (.still 1 (.still 2 (.still 3 (.still 4 (.still 5 (.still 6 (.still 7 (.still 9 (.still 10 (.still 11 (.still 12 (.still 13 (.still 14 (.still 15 (.still 16 (.mem 8 (.mem 17 (.still 18 (.still 19 (.done)))))))))))))))))))) | 16 => .still 0 (.still 1 (.still 2 (.still 3 (.still 4 (.still 5 (.still 6 (.still 7 (.still 9 (.still 10 (.still 11 (.still 12 (.still 13 (.still 14 (.still 15 (.still 16 (.mem 8 (.mem 17 (.still 18 (.still 19 (.done)))))))))))))))))))) | 18 => .still 0 (.still 1 (.still 2 (.still 3 (.still 4 (.still 5 (.still 7 (.still 8 (.still 9 (.still 10 (.still 11 (.still 12 (.mem 6 (.mem 13 (.still 14 (.still 15 (.done)))))))))))))))) | 20 => .still 0 (.still 1 (.still 2 (.still 3 (.still 4 (.still 5 (.still 7 (.still 8 (.still 9 (.still 10 (.still 11 (.still 12 (.mem 6 (.mem 13 (.still 14 (.still 15 (.done)))))))))))))))) | 22 => .still 0 (.still 1 (.still 2 (.still 3 (.still 4 (.still 5 (.still 7 (.still 8 (.still 9 (.still 10 (.still 11 (.still 12 (.mem 6 (.mem 13 (.still 14 (.still 15 (.done)))))))))))))))) | 24 => .still 0 (.still 1 (.still 2 (.still 3 (.still 4 (.still 5 (.still 6 (.still 7 (.mem 8 (.done))))))))) | 25 => .still 0 (.still 1 (.still 2 (.still 3 (.still 4 (.still 5 (.still 6 (.still 7 (.mem 8 (.done))))))))) | 27 => .still 0 (.still 1 (.still 2 (.still 3 (.still 4 (.still 5 (.mem 6 (.done))))))) | 28 => .still 0 (.still 1 (.still 2 (.still 3 (.still 4 (.still 5 (.mem 6 (.done))))))) | 30 => .still 0 (.still 1 (.still 2 (.still 3 (.still 4 (.still 5 (.still 6 (.still 7 (.still 9 (.still 10 (.still 11 (.still 12 (.still 13 (.still 14 (.still 15 (.still 16 (.mem 8 (.mem 17 (.still 18 (.still 19 (.done)))))))))))))))))))) | 32 => .still 0 (.still 1 (.still 2 (.still 3 (.still 5 (.still 6 (.still 9 (.still 10 (.alt 4 (.alt 7 (.mem 8 (.mem 11 (.mem 12 (.done)))) (.mem 8 (.mem 7 (.mem 11 (.mem 12 (.done)))))) (.mem 8 (.mem 4 (.mem 7 (.mem 11 (.mem 12 (.done)))))))))))))) | 33 => .still 0 (.still 1 (.still 2 (.still 3 (.still 4 (.still 5 (.still 6 (.still 7 (.mem 8 (.done))))))))) | _ => .done
  iter := fun | _ => none }
def vc28 (a0 : Option (Nat × Nat)) (a1 : Int) (a2 : ByteArray) (a3 : ByteArray) (a4 : Slc) (a5 : Int) (a6 : Int) (a7 : Slc) (a8 : Slc) (h : Heap) (R : Bool → Heap → Prop) : Prop :=
 New 58 [.int .i64 a1, .str a2, .str a3, .slc a4, .int .i64 a5, .int .i64 a6, .slc a7, .slc a8] h fun b0 h1 => Br (a1 == 0) (NilC a0 fun b2 b3 => ∃ (p4 : Option (Nat × Nat)), cellsAt h1 b2 (b3 + 0)
 [.ptr p4] ∧ NilC a0 fun b5 b6 => ∃ (p7 : Option (Nat × Nat)), cellsAt h1 b5 (b6 + 1) [.ptr p7] ∧ Call Proofs.Tryz.prog 37 [.lf (.ptr p4), .lf (.str a2)] h1 [.one (.int .i64)] fun (i8 : Int) h9 => keepB
 h1 h9 [b0] ∧ cellsAt h9 b5 (b6 + 1) [.ptr p7] ∧ Call Proofs.Tryz.prog 66 [.lf (.ptr p7), .lf (.str a2)] h9 [.one (.int .i64)] fun (i10 : Int) h11 => keepB h9 h11 [b0] ∧ R (i8 == i10) h11) (Br (a1 == 1)
 (NilC a0 fun b12 b13 => ∃ (p14 : Option (Nat × Nat)), cellsAt h1 b12 (b13 + 0) [.ptr p14] ∧ NilC a0 fun b15 b16 => ∃ (p17 : Option (Nat × Nat)), cellsAt h1 b15 (b16 + 1) [.ptr p17] ∧ Call
 Proofs.Tryz.prog 67 [.lf (.ptr p14), .lf (.str a2)] h1 [.one (.int .i64)] fun (i18 : Int) h19 => keepB h1 h19 [b0] ∧ cellsAt h19 b15 (b16 + 1) [.ptr p17] ∧ Call Proofs.Tryz.prog 68 [.lf (.ptr p17), .lf
 (.str a2)] h19 [.one (.int .i64)] fun (i20 : Int) h21 => keepB h19 h21 [b0] ∧ R (i18 == i20) h21) (Br (a1 == 2) (NilC a0 fun b22 b23 => ∃ (p24 : Option (Nat × Nat)), cellsAt h1 b22 (b23 + 0) [.ptr p24]
 ∧ NilC a0 fun b25 b26 => ∃ (p27 : Option (Nat × Nat)), cellsAt h1 b25 (b26 + 1) [.ptr p27] ∧ Call Proofs.Tryz.prog 38 [.lf (.ptr p24), .lf (.str a2)] h1 [.one (.int .i64)] fun (i28 : Int) h29 => keepB
 h1 h29 [b0] ∧ cellsAt h29 b25 (b26 + 1) [.ptr p27] ∧ Call Proofs.Tryz.prog 69 [.lf (.ptr p27), .lf (.str a2)] h29 [.one (.int .i64)] fun (i30 : Int) h31 => keepB h29 h31 [b0] ∧ R (i28 == i30) h31) (∃
 (I32 : Bool → Heap → Prop), Br (a1 == 3) (I32 (a1 == 3) h1) (I32 (a1 == 4) h1) ∧ ∀ c33 h34, I32 c33 h34 → Br c33 (Call Proofs.Tryz.prog 70 [.lf (.ptr a0), .agg [.int .i64 a1, .str a2, .str a3, .slc a4,
 .int .i64 a5, .int .i64 a6, .slc a7, .slc a8]] h34 [.one .bool] fun (c35 : Bool) h36 => keepB h34 h36 [b0] ∧ R c35 h36) (Br (a1 == 5) (NilC a0 fun b37 b38 => ∃ (p39 : Option (Nat × Nat)), cellsAt h34
 b37 (b38 + 0) [.ptr p39] ∧ NilC a0 fun b40 b41 => ∃ (p42 : Option (Nat × Nat)), cellsAt h34 b40 (b41 + 1) [.ptr p42] ∧ Call Proofs.Tryz.prog 71 [.lf (.ptr p39), .lf (.str a2), .lf (.int .i64 a5)] h34
 [.one (.int .i64)] fun (i43 : Int) h44 => keepB h34 h44 [b0] ∧ cellsAt h44 b40 (b41 + 1) [.ptr p42] ∧ Call Proofs.Tryz.prog 72 [.lf (.ptr p42), .lf (.str a2), .lf (.int .i64 a5)] h44 [.one (.int .i64)]
 fun (i45 : Int) h46 => keepB h44 h46 [b0] ∧ R (i43 == i45) h46) (Br (a1 == 6) (NilC a0 fun b47 b48 => ∃ (p49 : Option (Nat × Nat)), cellsAt h34 b47 (b48 + 0) [.ptr p49] ∧ NilC a0 fun b50 b51 => ∃ (p52
 : Option (Nat × Nat)), cellsAt h34 b50 (b51 + 1) [.ptr p52] ∧ Call Proofs.Tryz.prog 73 [.lf (.ptr p49), .lf (.str a2), .lf (.str a3)] h34 [.one (.int .i64)] fun (i53 : Int) h54 => keepB h34 h54 [b0] ∧
 cellsAt h54 b50 (b51 + 1) [.ptr p52] ∧ Call Proofs.Tryz.prog 74 [.lf (.ptr p52), .lf (.str a2), .lf (.str a3)] h54 [.one (.int .i64)] fun (i55 : Int) h56 => keepB h54 h56 [b0] ∧ R (i53 == i55) h56) (Br
 (a1 == 7) (NilC a0 fun b57 b58 => ∃ (p59 : Option (Nat × Nat)), cellsAt h34 b57 (b58 + 0) [.ptr p59] ∧ NilC a0 fun b60 b61 => ∃ (p62 : Option (Nat × Nat)), cellsAt h34 b60 (b61 + 1) [.ptr p62] ∧ Call
 Proofs.Tryz.prog 75 [.lf (.ptr p59), .lf (.str a2), .lf (.str a3)] h34 [.one (.int .i64)] fun (i63 : Int) h64 => keepB h34 h64 [b0] ∧ cellsAt h64 b60 (b61 + 1) [.ptr p62] ∧ Call Proofs.Tryz.prog 76
 [.lf (.ptr p62), .lf (.str a2), .lf (.str a3)] h64 [.one (.int .i64)] fun (i65 : Int) h66 => keepB h64 h66 [b0] ∧ R (i63 == i65) h66) (Br (a1 == 8) (NilC a0 fun b67 b68 => ∃ (p69 : Option (Nat × Nat)),
 cellsAt h34 b67 (b68 + 0) [.ptr p69] ∧ NilC a0 fun b70 b71 => ∃ (p72 : Option (Nat × Nat)), cellsAt h34 b70 (b71 + 1) [.ptr p72] ∧ Call Proofs.Tryz.prog 77 [.lf (.ptr p69), .lf (.str a2)] h34 [.one
 (.int .i64)] fun (i73 : Int) h74 => keepB h34 h74 [b0] ∧ cellsAt h74 b70 (b71 + 1) [.ptr p72] ∧ Call Proofs.Tryz.prog 78 [.lf (.ptr p72), .lf (.str a2)] h74 [.one (.int .i64)] fun (i75 : Int) h76 =>
 keepB h74 h76 [b0] ∧ R (i73 == i75) h76) (Br (a1 == 9) (NilC a0 fun b77 b78 => ∃ (p79 : Option (Nat × Nat)), cellsAt h34 b77 (b78 + 0) [.ptr p79] ∧ NilC a0 fun b80 b81 => ∃ (p82 : Option (Nat × Nat)),
 cellsAt h34 b80 (b81 + 1) [.ptr p82] ∧ Call Proofs.Tryz.prog 16 [.lf (.ptr p79), .lf (.str a2)] h34 [.one (.int .i64)] fun (i83 : Int) h84 => keepB h34 h84 [b0] ∧ cellsAt h84 b80 (b81 + 1) [.ptr p82] ∧
 Call Proofs.Tryz.prog 79 [.lf (.ptr p82), .lf (.str a2)] h84 [.one (.int .i64)] fun (i85 : Int) h86 => keepB h84 h86 [b0] ∧ R (i83 == i85) h86) (Br (a1 == 10) (NilC a0 fun b87 b88 => ∃ (p89 : Option
 (Nat × Nat)), cellsAt h34 b87 (b88 + 0) [.ptr p89] ∧ NilC a0 fun b90 b91 => ∃ (p92 : Option (Nat × Nat)), cellsAt h34 b90 (b91 + 1) [.ptr p92] ∧ Call Proofs.Tryz.prog 40 [.lf (.ptr p89), .lf (.str a2)]
 h34 [.one (.int .i64)] fun (i93 : Int) h94 => keepB h34 h94 [b0] ∧ cellsAt h94 b90 (b91 + 1) [.ptr p92] ∧ Call Proofs.Tryz.prog 80 [.lf (.ptr p92), .lf (.str a2)] h94 [.one (.int .i64)] fun (i95 : Int)
 h96 => keepB h94 h96 [b0] ∧ R (i93 == i95) h96) (Br (a1 == 11) (NilC a0 fun b97 b98 => ∃ (p99 : Option (Nat × Nat)), cellsAt h34 b97 (b98 + 0) [.ptr p99] ∧ Call Proofs.Tryz.prog 42 [.lf (.ptr p99), .lf
 (.int .i64 a5), .lf (.int .i64 a6)] h34 [] fun h100 => keepB h34 h100 [b0] ∧ NilC a0 fun b101 b102 => ∃ (p103 : Option (Nat × Nat)), cellsAt h100 b101 (b102 + 1) [.ptr p103] ∧ Call Proofs.Tryz.prog 81
 [.lf (.ptr p103), .lf (.int .i64 a5), .lf (.int .i64 a6)] h100 [] fun h104 => keepB h100 h104 [b0] ∧ R true h104) (Br (a1 == 12) (NilC a0 fun b105 b106 => ∃ (p107 : Option (Nat × Nat)), cellsAt h34
 b105 (b106 + 0) [.ptr p107] ∧ Call Proofs.Tryz.prog 43 [.lf (.ptr p107), .lf (.int .i64 a5)] h34 [] fun h108 => keepB h34 h108 [b0] ∧ NilC a0 fun b109 b110 => ∃ (p111 : Option (Nat × Nat)), cellsAt
 h108 b109 (b110 + 1) [.ptr p111] ∧ Call Proofs.Tryz.prog 82 [.lf (.ptr p111), .lf (.int .i64 a5)] h108 [] fun h112 => keepB h108 h112 [b0] ∧ R true h112) (Br (a1 == 13) (NilC a0 fun b113 b114 => ∃
 (p115 : Option (Nat × Nat)), cellsAt h34 b113 (b114 + 0) [.ptr p115] ∧ NilC a0 fun b116 b117 => ∃ (p118 : Option (Nat × Nat)), cellsAt h34 b116 (b117 + 1) [.ptr p118] ∧ Call Proofs.Tryz.prog 83 [.lf
 (.ptr p115), .lf (.str a2), .lf (.int .i64 a5)] h34 [.one (.int .i64)] fun (i119 : Int) h120 => keepB h34 h120 [b0] ∧ cellsAt h120 b116 (b117 + 1) [.ptr p118] ∧ Call Proofs.Tryz.prog 84 [.lf (.ptr
 p118), .lf (.str a2), .lf (.int .i64 a5)] h120 [.one (.int .i64)] fun (i121 : Int) h122 => keepB h120 h122 [b0] ∧ R (i119 == i121) h122) (Br (a1 == 14) (NilC a0 fun b123 b124 => ∃ (p125 : Option (Nat ×
 Nat)), cellsAt h34 b123 (b124 + 0) [.ptr p125] ∧ (New 3 [] h34 fun b126 h127 => cellsAt h127 b123 (b124 + 0) [.ptr p125] ∧ (AppC 3 [.int .i64 0] 1 8 (Slc.mk (some (b126, 0)) 0 0) a7 h127 fun (s128 :
 Slc) h129 => keepB h127 h129 [b0] ∧ cellsAt h129 b123 (b124 + 0) [.ptr p125] ∧ New 3 [] h129 fun b130 h131 => cellsAt h131 b123 (b124 + 0) [.ptr p125] ∧ AppC 3 [.int .i64 0] 1 8 (Slc.mk (some (b130,
 0)) 0 0) a8 h131 fun (s132 : Slc) h133 => keepB h131 h133 [b0] ∧ cellsAt h133 b123 (b124 + 0) [.ptr p125] ∧ Call Proofs.Tryz.prog 13 [.lf (.ptr p125), .lf (.slc s128), .lf (.slc s132)] h133 [] fun h134
 => keepB h133 h134 [b0] ∧ NilC a0 fun b135 b136 => ∃ (p137 : Option (Nat × Nat)), cellsAt h134 b135 (b136 + 1) [.ptr p137] ∧ Call Proofs.Tryz.prog 85 [.lf (.ptr p137), .lf (.slc a7), .lf (.slc a8)]
 h134 [] fun h138 => keepB h134 h138 [b0] ∧ R true h138) ∧ New 3 [] h127 fun b139 h140 => cellsAt h140 b123 (b124 + 0) [.ptr p125] ∧ AppC 3 [.int .i64 0] 1 8 (Slc.mk (some (b126, 0)) 0 0) a7 h140 fun
 (s141 : Slc) h142 => keepB h140 h142 [b0] ∧ cellsAt h142 b123 (b124 + 0) [.ptr p125] ∧ AppC 3 [.int .i64 0] 1 8 (Slc.mk (some (b139, 0)) 0 0) a8 h142 fun (s143 : Slc) h144 => keepB h142 h144 [b0] ∧
 cellsAt h144 b123 (b124 + 0) [.ptr p125] ∧ Call Proofs.Tryz.prog 13 [.lf (.ptr p125), .lf (.slc s141), .lf (.slc s143)] h144 [] fun h145 => keepB h144 h145 [b0] ∧ NilC a0 fun b146 b147 => ∃ (p148 :
 Option (Nat × Nat)), cellsAt h145 b146 (b147 + 1) [.ptr p148] ∧ Call Proofs.Tryz.prog 85 [.lf (.ptr p148), .lf (.slc a7), .lf (.slc a8)] h145 [] fun h149 => keepB h145 h149 [b0] ∧ R true h149) ∧ New 3
 [] h34 fun b150 h151 => cellsAt h151 b123 (b124 + 0) [.ptr p125] ∧ New 3 [] h151 fun b152 h153 => cellsAt h153 b123 (b124 + 0) [.ptr p125] ∧ AppC 3 [.int .i64 0] 1 8 (Slc.mk (some (b152, 0)) 0 0) a7
 h153 fun (s154 : Slc) h155 => keepB h153 h155 [b0] ∧ cellsAt h155 b123 (b124 + 0) [.ptr p125] ∧ AppC 3 [.int .i64 0] 1 8 (Slc.mk (some (b150, 0)) 0 0) a8 h155 fun (s156 : Slc) h157 => keepB h155 h157
 [b0] ∧ cellsAt h157 b123 (b124 + 0) [.ptr p125] ∧ Call Proofs.Tryz.prog 13 [.lf (.ptr p125), .lf (.slc s154), .lf (.slc s156)] h157 [] fun h158 => keepB h157 h158 [b0] ∧ NilC a0 fun b159 b160 => ∃
 (p161 : Option (Nat × Nat)), cellsAt h158 b159 (b160 + 1) [.ptr p161] ∧ Call Proofs.Tryz.prog 85 [.lf (.ptr p161), .lf (.slc a7), .lf (.slc a8)] h158 [] fun h162 => keepB h158 h162 [b0] ∧ R true h162)
 (Br (a1 == 15) (Call Proofs.Tryz.prog 86 [.lf (.ptr a0), .agg [.int .i64 a1, .str a2, .str a3, .slc a4, .int .i64 a5, .int .i64 a6, .slc a7, .slc a8]] h34 [.one .bool] fun (c163 : Bool) h164 => keepB
 h34 h164 [b0] ∧ R c163 h164) (R true h34)))))))))))))))
theorem ok28 {a0 : Option (Nat × Nat)} {a1 : Int} {a2 : ByteArray} {a3 : ByteArray} {a4 : Slc} {a5 : Int} {a6 : Int} {a7 : Slc} {a8 : Slc} {h : Heap} {R : Bool → Heap → Prop} (hv : vc28 a0 a1 a2 a3 a4 a5 a6 a7 a8 h R) : Call Proofs.Tryz.prog 28 [.lf (.ptr a0), .agg [.int .i64 a1, .str a2, .str a3, .slc a4, .int .i64 a5, .int .i64 a6, .slc a7, .slc a8]] h [.one .bool] R := call_eq (pl := pl28) hng hmix Proofs.Tryz.func28 (by kernel_rfl) hv
end Go.V.YtdeihieblljfcaaGreat
namespace Go.V.YtdeihieblljfcaaGreat
open Go Go.V
def pl29 : Plan := {
  blk := fun _ => none
  seq := fun | 2 => some ⟨[(35, .one .bool)], [], []⟩ | _ => none
  loop := fun | 5 => some ⟨[(4, .one (.int .i64))], [], []⟩ | 15 => some ⟨[(10, .one (.int .i64))], [], []⟩ | _ => none
  live := fun | 0 => some [0] | 1 => some [0,35] | 2 => some [2] | 3 => some [0,3] | 4 => some [0,3,4] | 5 => some [0,3,4,44] | 6 => some [0,3,4] | 7 => some [0,3,4,5,6] | 8 => some [0,3,4,5,6,7,8] | 9 => some [0,3,4,78] | 10 => some [2] | 11 => some [0,9] | 12 => some [9,91] | 13 => some [2] | 14 => some [9,10] | 15 => some [9,10,95] | 16 => some [9,10] | 17 => some [9,10] | 18 => some [9,10] | 19 => some [2] | _ => none
  track := fun | _ => false
  draw := fun | 1 => .still 0 (.still 1 (.still 2 (.still 3 (.still 5 (.still 6 (.still 7 (.still 8 (.mem 4 (.mem 9 (.still 10 (.still 11 (.still 12 (.still 13 (.still 14 (.still 15 (.still 17 (.still 18 (.still 19 (.still 20 (.mem 16 (.mem 21 (.mem 22 (.still 23 (.still 24 (.done))))))))))))))))))))))))) | 7 => .still 0 (.still 1 (.still 2 (.still 3 (.still 4 (.still 5 (.still 6 (.still 7 (.mem 8 (.still 9 (.still 10 (.still 11 (.still 12 (.still 13 (.done)))))))))))))) | 8 => .still 0 (.still 1 (.still 2 (.still 3 (.still 4 (.still 5 (.still 6 (.still 7 (.mem 8 (.still 9 (.still 10 (.still 11 (.still 12 (.still 13 (.done)))))))))))))) | _ => .done
  iter := fun | _ => none }
def vc29 (a0 : Option (Nat × Nat)) (h : Heap) (R : Bool → Heap → Prop) : Prop :=
 ∃ (I0 : Bool → Heap → Prop), (NilC a0 fun b1 b2 => ∃ (p3 : Option (Nat × Nat)), cellsAt h b1 (b2 + 0) [.ptr p3] ∧ NilC a0 fun b4 b5 => ∃ (p6 : Option (Nat × Nat)), cellsAt h b4 (b5 + 1) [.ptr p6] ∧
 Call Proofs.Tryz.prog 87 [.lf (.ptr p3)] h [.one (.int .i64)] fun (i7 : Int) h8 => cellsAt h8 b4 (b5 + 1) [.ptr p6] ∧ Call Proofs.Tryz.prog 88 [.lf (.ptr p6)] h8 [.one (.int .i64)] fun (i9 : Int) h10
 => Br (i7 != i9) (I0 true h10) (NilC a0 fun b11 b12 => ∃ (p13 : Option (Nat × Nat)), cellsAt h10 b11 (b12 + 0) [.ptr p13] ∧ NilC a0 fun b14 b15 => ∃ (p16 : Option (Nat × Nat)), cellsAt h10 b14 (b15 +
 1) [.ptr p16] ∧ Call Proofs.Tryz.prog 44 [.lf (.ptr p13)] h10 [.one .slc] fun (s17 : Slc) h18 => cellsAt h18 b14 (b15 + 1) [.ptr p16] ∧ Call Proofs.Tryz.prog 90 [.lf (.ptr p16)] h18 [.one .slc] fun
 (s19 : Slc) h20 => Call Proofs.Tryz.prog 89 [.lf (.slc s17), .lf (.slc s19)] h20 [.one .bool] fun (c21 : Bool) h22 => I0 (!c21) h22)) ∧ ∀ c23 h24, I0 c23 h24 → Br c23 (R false h24) (NilC a0 fun b25 b26
 => ∃ (p27 : Option (Nat × Nat)), cellsAt h24 b25 (b26 + 1) [.ptr p27] ∧ Call Proofs.Tryz.prog 90 [.lf (.ptr p27)] h24 [.one .slc] fun (s28 : Slc) h29 => ∃ (I30 : Int → Heap → Nat → Prop), (∃ b31, I30 0
 h29 b31) ∧ ∀ i32 h33 b34, I30 i32 h33 b34 → Br (decide (i32 < (↑(Slc.len s28) : Int))) (NilC a0 fun b35 b36 => ∃ (p37 : Option (Nat × Nat)), cellsAt h33 b35 (b36 + 0) [.ptr p37] ∧ IxC s28 i32 1 fun b38
 b39 => ∃ (t40 : ByteArray), cellsAt h33 b38 b39 [.str t40] ∧ Call Proofs.Tryz.prog 91 [.lf (.ptr p37), .lf (.str t40)] h33 [.one (.int .i64), .one (.int .i64)] fun (i41 i42 : Int) h43 => NilC a0 fun
 b44 b45 => ∃ (p46 : Option (Nat × Nat)), cellsAt h43 b44 (b45 + 1) [.ptr p46] ∧ IxC s28 i32 1 fun b47 b48 => ∃ (t49 : ByteArray), cellsAt h43 b47 b48 [.str t49] ∧ Call Proofs.Tryz.prog 92 [.lf (.ptr
 p46), .lf (.str t49)] h43 [.one (.int .i64), .one (.int .i64)] fun (i50 i51 : Int) h52 => Br (i41 != i50) (R false h52) (Br (i42 != i51) (R false h52) (∃ b53, b53 < b34 ∧ I30 (IntKind.wrap .i64 (i32 +
 1)) h52 b53))) (NilC a0 fun b54 b55 => ∃ (p56 : Option (Nat × Nat)), cellsAt h33 b54 (b55 + 0) [.ptr p56] ∧ Call Proofs.Tryz.prog 12 [.lf (.ptr p56)] h33 [.one .slc] fun (s57 : Slc) h58 => NilC a0 fun
 b59 b60 => ∃ (p61 : Option (Nat × Nat)), cellsAt h58 b59 (b60 + 1) [.ptr p61] ∧ Call Proofs.Tryz.prog 93 [.lf (.ptr p61)] h58 [.one .slc] fun (s62 : Slc) h63 => Call Proofs.Tryz.prog 14 [.lf (.slc
 s57), .lf (.slc s62)] h63 [.one .bool] fun (c64 : Bool) h65 => Br (!c64) (R false h65) (∃ (I66 : Int → Heap → Nat → Prop), (∃ b67, I66 0 h65 b67) ∧ ∀ i68 h69 b70, I66 i68 h69 b70 → Br (decide (i68 <
 (↑(Slc.len s57) : Int))) (IxC s57 i68 4 fun b71 b72 => ∃ s73, cellsAt h69 b71 (b72 + 1) [.slc s73] ∧ Call Proofs.Tryz.prog 94 [.lf (.slc s73)] h69 [] fun h74 => IxC s57 i68 4 fun b75 b76 => StC h74 b75
 b76 [.str (ByteArray.mk #[115, 112, 111, 105, 108, 116]), .slc (Slc.mk none 0 0), .int .i64 0, .str (ByteArray.mk #[])] fun h77 => ∃ b78, b78 < b70 ∧ I66 (IntKind.wrap .i64 (i68 + 1)) h77 b78) (R true
 h69))))
theorem ok29 {a0 : Option (Nat × Nat)} {h : Heap} {R : Bool → Heap → Prop} (hv : vc29 a0 h R) : Call Proofs.Tryz.prog 29 [.lf (.ptr a0)] h [.one .bool] R := call_eq (pl := pl29) hng hmix Proofs.Tryz.func29 (by kernel_rfl) hv
def pl6 : Plan := {
  blk := fun _ => none
  seq := fun | 11 => some ⟨[(44, .one .bool)], [], []⟩ | 14 => some ⟨[(5, .one .ptr), (7, .one .slc)], [], []⟩ | _ => none
  loop := fun | 6 => some ⟨[(5, .one .ptr), (7, .one .slc), (8, .one (.int .i64))], [], []⟩ | 17 => some ⟨[(10, .one (.int .i64))], [], []⟩ | _ => none
  live := fun | 0 => some [0,1] | 1 => some [1,5,6] | 2 => some [1,5,6,17] | 3 => some [4] | 4 => some [1,5,7] | 5 => some [1,5,7,8] | 6 => some [1,5,7,8,24] | 7 => some [1,5,7,8] | 8 => some [1,5,7,8,32] | 9 => some [1,5,7,8,9] | 10 => some [1,5,7,8,9,44] | 11 => some [4] | 12 => some [1,5,7,8] | 13 => some [1,5,7,8] | 14 => some [1,5,7,8,70] | 15 => some [4] | 16 => some [7,10] | 17 => some [7,10,74] | 18 => some [7,10] | 19 => some [7,10,82] | 20 => some [4] | 21 => some [4] | _ => none
  track := fun | _ => false
  draw := fun | _ => .done
  iter := fun | _ => none }
def vc6 (a0 : Int) (a1 : Slc) (h : Heap) (R : Bool → Heap → Prop) : Prop :=
 Call Proofs.Tryz.prog 25 [.lf (.int .i64 a0)] h [.one .ptr, .one .bool] fun (p0 : Option (Nat × Nat)) (c1 : Bool) h2 => Br (Option.isNone p0) (R c1 h2) (New 53 [.ptr p0] h2 fun b3 h4 => ∃ (I5 : Option
 (Nat × Nat) → Slc → Int → Heap → Nat → Prop), (∃ b6, I5 p0 (Slc.mk (some (b3, 0)) 1 1) 0 h4 b6) ∧ ∀ (p7 : Option (Nat × Nat)) s8 i9 h10 b11, I5 p7 s8 i9 h10 b11 → Br (decide (i9 < (↑(Slc.len a1) :
 Int))) (∃ (I12 : Option (Nat × Nat) → Slc → Heap → Prop), (IxC a1 i9 8 fun b13 b14 => ∃ i15, cellsAt h10 b13 (b14 + 0) [.int .i64 i15] ∧ Br (i15 == 16) (NilC p7 fun b16 b17 => ∃ (p18 : Option (Nat ×
 Nat)), cellsAt h10 b16 (b17 + 0) [.ptr p18] ∧ Call Proofs.Tryz.prog 26 [.lf (.ptr p18)] h10 [.one .ptr] fun (p19 : Option (Nat × Nat)) h20 => ∃ (I21 : Bool → Heap → Prop), Br (Option.isNone p19) (I21
 true h20) (I21 (decide ((↑(Slc.len s8) : Int) > 20)) h20) ∧ ∀ c22 h23, I21 c22 h23 → Br c22 (R (!Option.isNone p19) h23) (NilC p7 fun b24 b25 => ∃ (p26 : Option (Nat × Nat)), cellsAt h23 b24 (b25 + 1)
 [.ptr p26] ∧ Call Proofs.Tryz.prog 27 [.lf (.ptr p26)] h23 [.one .ptr] fun (p27 : Option (Nat × Nat)) h28 => New 61 [.ptr p19, .ptr p27] h28 fun b29 h30 => New 53 [.ptr (some (b29, 0))] h30 fun b31 h32
 => AppC 53 [.ptr none] 1 8 s8 (Slc.mk (some (b31, 0)) 1 1) h32 fun (s33 : Slc) h34 => I12 (some (b29, 0)) s33 h34)) (I12 p7 s8 h10)) ∧ ∀ (p35 : Option (Nat × Nat)) s36 h37, I12 p35 s36 h37 → IxC a1 i9
 8 fun b38 b39 => ∃ i40, ∃ (t41 : ByteArray), ∃ (t42 : ByteArray), ∃ s43, ∃ i44, ∃ i45, ∃ s46, ∃ s47, cellsAt h37 b38 b39 [.int .i64 i40, .str t41, .str t42, .slc s43, .int .i64 i44, .int .i64 i45, .slc
 s46, .slc s47] ∧ Call Proofs.Tryz.prog 28 [.lf (.ptr p35), .agg [.int .i64 i40, .str t41, .str t42, .slc s43, .int .i64 i44, .int .i64 i45, .slc s46, .slc s47]] h37 [.one .bool] fun (c48 : Bool) h49 =>
 Br (!c48) (R false h49) (Call Proofs.Tryz.prog 29 [.lf (.ptr p35)] h49 [.one .bool] fun (c50 : Bool) h51 => Br (!c50) (R false h51) (∃ b52, b52 < b11 ∧ I5 p35 s36 (IntKind.wrap .i64 (i9 + 1)) h51
 b52))) (∃ (I53 : Int → Heap → Nat → Prop), (∃ b54, I53 0 h10 b54) ∧ ∀ i55 h56 b57, I53 i55 h56 b57 → Br (decide (i55 < (↑(Slc.len s8) : Int))) (IxC s8 i55 1 fun b58 b59 => ∃ (p60 : Option (Nat × Nat)),
 cellsAt h56 b58 b59 [.ptr p60] ∧ Call Proofs.Tryz.prog 29 [.lf (.ptr p60)] h56 [.one .bool] fun (c61 : Bool) h62 => Br (!c61) (R false h62) (∃ b63, b63 < b57 ∧ I53 (IntKind.wrap .i64 (i55 + 1)) h62
 b63)) (R true h56)))
theorem ok6 {a0 : Int} {a1 : Slc} {h : Heap} {R : Bool → Heap → Prop} (hv : vc6 a0 a1 h R) : Call Proofs.Tryz.prog 6 [.lf (.int .i64 a0), .lf (.slc a1)] h [.one .bool] R := call_eq (pl := pl6) hng hmix Proofs.Tryz.func6 (by kernel_rfl) hv
end Go.V.YtdeihieblljfcaaGreat
