/- This text proves a part of the laws of seat YtdeihieblljfcaaGreat, under no condition: F1c F1d. -/
import Derived.Test.YtdeihieblljfcaaGreatPC
import Derived.Eval
import Derived.Test.YtdeihieblljfcaaGreatChecked
import Derived.Test.YtdeihieblljfcaaGreatPE
set_option linter.unusedVariables false
set_option maxRecDepth 100000
namespace Go.V.YtdeihieblljfcaaGreat
open Go Go.V
def pl50 : Plan := {
  blk := fun _ => none
  seq := fun _ => none
  loop := fun _ => none
  live := fun | 0 => some [0] | 1 => some [2] | _ => none
  track := fun | _ => false
  draw := fun | _ => .done
  iter := fun | _ => none }
def vc50 (a0 : Option (Nat × Nat)) (h : Heap) (R : Slc → Heap → Prop) : Prop :=
 NilC a0 fun b0 b1 => ∃ (p2 : Option Nat), cellsAt h b0 (b1 + 1) [.map p2] ∧ Call Proofs.Tryz.prog 110 [.lf (.map p2)] h [.one .raw] fun (x3 : Value) (h4 : Heap) => Call Proofs.Tryz.prog 107 [.lf (.raw
 x3)] h4 [.one .slc] fun (s5 : Slc) h6 => R s5 h6
theorem ok50 {a0 : Option (Nat × Nat)} {h : Heap} {R : Slc → Heap → Prop} (hv : vc50 a0 h R) : Call Proofs.Tryz.prog 50 [.lf (.ptr a0)] h [.one .slc] R := call_eq (pl := pl50) hng hmix Proofs.Tryz.func50 (by kernel_rfl) hv
def pl45 : Plan := {
  blk := fun _ => none
  seq := fun _ => none
  loop := fun | 2 => some ⟨[(15, .one (.int .i64))], [], []⟩ | 6 => some ⟨[(32, .one (.int .i64))], [], []⟩ | _ => none
  live := fun | 0 => some [0,1,4] | 1 => some [0,1,4,13,14,15] | 2 => some [0,1,4,13,14,15,16] | 3 => some [0,1,4,6,13,14,15] | 4 => some [0,1,4,6,7,13,14,15] | 5 => some [0,1,4,6,7,13,14,15,30,31,32] | 6 => some [0,1,4,6,7,13,14,15,30,31,32,33] | 7 => some [0,1,4,6,7,9,13,14,15,30,31,32] | 8 => some [0,1,4,6,7,9,10,13,14,15,30,31,32] | 9 => some [0,1,4,6,7,10,13,14,15,30,31,32] | 10 => some [0,1,4,6,7,13,14,15,30,31,32] | 11 => some [0,1,4,6,7,13,14,15,30,31,32] | 12 => some [0,1,4,13,14,15] | _ => none
  track := fun | _ => false
  draw := fun | _ => .done
  iter := fun | _ => none }
def vc45 (a0 : Option (Nat × Nat)) (a1 : Value) (h : Heap) (R : Heap → Prop) : Prop :=
 NewM h fun b0 h1 => Call Proofs.Tryz.prog 50 [.lf (.ptr a0)] h1 [.one .slc] fun (s2 : Slc) h3 => ∃ (I4 : Int → Heap → Nat → Prop), (∃ b5, I4 0 h3 b5) ∧ ∀ i6 h7 b8, I4 i6 h7 b8 → Br (decide (i6 <
 (↑(Slc.len s2) : Int))) (IxC s2 i6 1 fun b9 b10 => ∃ (t11 : ByteArray), cellsAt h7 b9 b10 [.str t11] ∧ NilC a0 fun b12 b13 => ∃ (p14 : Option Nat), cellsAt h7 b12 (b13 + 1) [.map p14] ∧ ∃ (p15 : Option
 (Nat × Nat)), ∃ c16, LookR h7 .str (.one .ptr) [.ptr none] p14 t11 [.ptr p15] c16 ∧ NilC p15 fun b17 b18 => ∃ (p19 : Option Nat), cellsAt h7 b17 (b18 + 0) [.map p19] ∧ Call Proofs.Tryz.prog 108 [.lf
 (.map p19)] h7 [.one .raw] fun (x20 : Value) (h21 : Heap) => Call Proofs.Tryz.prog 107 [.lf (.raw x20)] h21 [.one .slc] fun (s22 : Slc) h23 => ∃ (I24 : Int → Heap → Nat → Prop), (∃ b25, I24 0 h23 b25)
 ∧ ∀ i26 h27 b28, I24 i26 h27 b28 → Br (decide (i26 < (↑(Slc.len s22) : Int))) (IxC s22 i26 1 fun b29 b30 => ∃ (t31 : ByteArray), cellsAt h27 b29 b30 [.str t31] ∧ ∃ (p32 : Option (Nat × Nat)), ∃ c33,
 LookR h27 .str (.one .ptr) [.ptr none] p19 t31 [.ptr p32] c33 ∧ (↑(ByteArray.size t11 + 1) : Int) ≤ 9223372036854775807 ∧ (↑(ByteArray.size (t11 ++ ByteArray.mk #[47]) + ByteArray.size t31) : Int) ≤
 9223372036854775807 ∧ ∃ c34, ∃ c35, LookR h27 .ptr (.one .bool) [.bool false] (some b0) p32 [.bool c34] c35 ∧ CallV Proofs.Tryz.prog a1 [.lf (.str (t11 ++ ByteArray.mk #[47] ++ t31)), .lf (.ptr p32),
 .lf (.bool !c34)] h27 [] fun h36 => UpdC .ptr (.one .bool) h36 (some b0) p32 [.bool true] fun h37 => ∃ b38, b38 < b28 ∧ I24 (IntKind.wrap .i64 (i26 + 1)) h37 b38) (∃ b39, b39 < b8 ∧ I4 (IntKind.wrap
 .i64 (i6 + 1)) h27 b39)) (R h7)
theorem ok45 {a0 : Option (Nat × Nat)} {a1 : Value} {h : Heap} {R : Heap → Prop} (hv : vc45 a0 a1 h R) : Call Proofs.Tryz.prog 45 [.lf (.ptr a0), .lf (.raw a1)] h [] R := call_eq (pl := pl45) hng hmix Proofs.Tryz.func45 (by kernel_rfl) hv
def pl51 : Plan := {
  blk := fun _ => none
  seq := fun _ => none
  loop := fun _ => none
  live := fun | 0 => some [1,2,3,7] | 1 => some [1,3,7,14] | 2 => some [] | _ => none
  track := fun | _ => false
  draw := fun | _ => .done
  iter := fun | _ => none }
def vc51 (a0 : ByteArray) (a1 : Option (Nat × Nat)) (a2 : Bool) (f0 : Nat) (o0 : Nat) (h : Heap) (R : Heap → Prop) : Prop :=
 Call Proofs.Tryz.prog 48 [.lf (.ptr a1)] h [.one (.int .i64)] fun (i0 : Int) h1 => Br a2 (Br (decide (i0 > 0)) (∃ (x2 : Value), cellsAt h1 f0 o0 [.raw x2] ∧ CallV Proofs.Tryz.prog x2 [] h1 [.one (.int
 .i64)] fun (i3 : Int) h4 => (IntKind.wrap .i64 (i0 + 1) = 0 → False) ∧ Call Proofs.Tryz.prog 52 [.lf (.ptr a1), .lf (.int .i64 (Int.tmod i3 (IntKind.wrap .i64 (i0 + 1))))] h4 [] fun h5 => R h5) (R h1))
 (R h1)
theorem ok51 {a0 : ByteArray} {a1 : Option (Nat × Nat)} {a2 : Bool} {f0 : Nat} {o0 : Nat} {h : Heap} {R : Heap → Prop} (hv : vc51 a0 a1 a2 f0 o0 h R) : Call Proofs.Tryz.prog 51 [.lf (.str a0), .lf (.ptr a1), .lf (.bool a2), .lf (.ptr (some (f0, o0)))] h [] R := call_eq (pl := pl51) hng hmix Proofs.Tryz.func51 (by kernel_rfl) hv
def pl112 : Plan := {
  blk := fun _ => none
  seq := fun _ => none
  loop := fun _ => none
  live := fun | 0 => some [0] | 1 => some [0,3] | 2 => some [3] | 3 => some [2] | _ => none
  track := fun | _ => false
  draw := fun | _ => .done
  iter := fun | _ => none }
def vc112 (a0 : Option (Nat × Nat)) (h : Heap) (R : Int → Heap → Prop) : Prop :=
 New 3 [.int .i64 0] h fun b0 h1 => StC h1 b0 0 [.int .i64 0] fun h2 => Call Proofs.Tryz.prog 45 [.lf (.ptr a0), .lf (.raw (Value.func (Fn.func 187) #[] #[Value.pointer (some (Addr.mk b0 0 none))]))] h2
 [] fun h3 => ∃ i4, cellsAt h3 b0 0 [.int .i64 i4] ∧ R i4 h3
theorem ok112 {a0 : Option (Nat × Nat)} {h : Heap} {R : Int → Heap → Prop} (hv : vc112 a0 h R) : Call Proofs.Tryz.prog 112 [.lf (.ptr a0)] h [.one (.int .i64)] R := call_eq (pl := pl112) hng hmix Proofs.Tryz.func112 (by kernel_rfl) hv
def pl187 : Plan := {
  blk := fun _ => none
  seq := fun _ => none
  loop := fun _ => none
  live := fun | 0 => some [1,3,7] | 1 => some [] | _ => none
  track := fun | _ => false
  draw := fun | 1 => .still 0 (.still 1 (.still 2 (.still 3 (.still 4 (.still 5 (.still 6 (.mem 7 (.done)))))))) | _ => .done
  iter := fun | _ => none }
def vc187 (a0 : ByteArray) (a1 : Option (Nat × Nat)) (a2 : Bool) (f0 : Nat) (o0 : Nat) (h : Heap) (R : Heap → Prop) : Prop :=
 Br a2 (∃ i0, cellsAt h f0 o0 [.int .i64 i0] ∧ NilC a1 fun b1 b2 => ∃ s3, cellsAt h b1 (b2 + 2) [.slc s3] ∧ StC h f0 o0 [.int .i64 (IntKind.wrap .i64 (i0 + (↑(Slc.len s3) : Int)))] fun h4 => R h4) (R h)
theorem ok187 {a0 : ByteArray} {a1 : Option (Nat × Nat)} {a2 : Bool} {f0 : Nat} {o0 : Nat} {h : Heap} {R : Heap → Prop} (hv : vc187 a0 a1 a2 f0 o0 h R) : Call Proofs.Tryz.prog 187 [.lf (.str a0), .lf (.ptr a1), .lf (.bool a2), .lf (.ptr (some (f0, o0)))] h [] R := call_eq (pl := pl187) hng hmix Proofs.Tryz.func187 (by kernel_rfl) hv
def pl107 : Plan := {
  blk := fun _ => none
  seq := fun _ => none
  loop := fun _ => none
  live := fun | 0 => some [0] | 1 => some [3] | 2 => some [3] | 3 => some [2] | _ => none
  track := fun | _ => false
  draw := fun | _ => .done
  iter := fun | _ => none }
def vc107 (a0 : Value) (h : Heap) (R : Slc → Heap → Prop) : Prop :=
 Call Proofs.Tryz.prog 183 [.lf (.raw a0)] h [.one .slc] fun (s0 : Slc) h1 => Call Proofs.Tryz.prog 184 [.lf (.slc s0)] h1 [] fun h2 => R s0 h2
theorem ok107 {a0 : Value} {h : Heap} {R : Slc → Heap → Prop} (hv : vc107 a0 h R) : Call Proofs.Tryz.prog 107 [.lf (.raw a0)] h [.one .slc] R := call_eq (pl := pl107) hng hmix Proofs.Tryz.func107 (by kernel_rfl) hv
def pl110 : Plan := {
  blk := fun _ => none
  seq := fun _ => none
  loop := fun _ => none
  live := fun | 0 => some [1] | 1 => some [2] | _ => none
  track := fun | _ => false
  draw := fun | _ => .done
  iter := fun | _ => none }
def vc110 (a0 : Option Nat) (h : Heap) (R : Value → Heap → Prop) : Prop :=
 New 107 [.map a0] h fun b0 h1 => R (Value.func (Fn.func 186) #[] #[Value.pointer (some (Addr.mk b0 0 none))]) h1
theorem ok110 {a0 : Option Nat} {h : Heap} {R : Value → Heap → Prop} (hv : vc110 a0 h R) : Call Proofs.Tryz.prog 110 [.lf (.map a0)] h [.one .raw] R := call_eq (pl := pl110) hng hmix Proofs.Tryz.func110 (by kernel_rfl) hv
def pl108 : Plan := {
  blk := fun _ => none
  seq := fun _ => none
  loop := fun _ => none
  live := fun | 0 => some [1] | 1 => some [2] | _ => none
  track := fun | _ => false
  draw := fun | _ => .done
  iter := fun | _ => none }
def vc108 (a0 : Option Nat) (h : Heap) (R : Value → Heap → Prop) : Prop :=
 New 113 [.map a0] h fun b0 h1 => R (Value.func (Fn.func 185) #[] #[Value.pointer (some (Addr.mk b0 0 none))]) h1
theorem ok108 {a0 : Option Nat} {h : Heap} {R : Value → Heap → Prop} (hv : vc108 a0 h R) : Call Proofs.Tryz.prog 108 [.lf (.map a0)] h [.one .raw] R := call_eq (pl := pl108) hng hmix Proofs.Tryz.func108 (by kernel_rfl) hv
def pl183 : Plan := {
  blk := fun _ => none
  seq := fun _ => none
  loop := fun _ => none
  live := fun | 0 => some [0] | 1 => some [2] | _ => none
  track := fun | _ => false
  draw := fun | _ => .done
  iter := fun | _ => none }
def vc183 (a0 : Value) (h : Heap) (R : Slc → Heap → Prop) : Prop :=
 Call Proofs.Tryz.prog 215 [.lf (.slc (Slc.mk none 0 0)), .lf (.raw a0)] h [.one .slc] fun (s0 : Slc) h1 => R s0 h1
theorem ok183 {a0 : Value} {h : Heap} {R : Slc → Heap → Prop} (hv : vc183 a0 h R) : Call Proofs.Tryz.prog 183 [.lf (.raw a0)] h [.one .slc] R := call_eq (pl := pl183) hng hmix Proofs.Tryz.func183 (by kernel_rfl) hv
def pl185 : Plan := {
  blk := fun _ => none
  seq := fun _ => none
  loop := fun | 1 => some ⟨[], [], []⟩ | _ => none
  live := fun | 0 => some [0,5] | 1 => some [0,5,7] | 2 => some [0,3,5] | 3 => some [0,5,13] | _ => none
  track := fun | _ => false
  draw := fun | _ => .done
  iter := fun | 5 => some 113 | _ => none }
def vc185 (a0 : Value) (f0 : Nat) (o0 : Nat) (h : Heap) (R : Heap → Prop) : Prop :=
 ∃ (p0 : Option Nat), cellsAt h f0 o0 [.map p0] ∧ RngC h p0 fun b1 h2 => ∃ (I3 : Heap → Nat → Prop), (∃ b4, I3 h2 b4) ∧ ∀ h5 b6, I3 h5 b6 → NextC .str (.one .ptr) h5 b1 (fun h7 => R h7) fun (t8 :
 ByteArray) (x9 : List Lf) h10 => ∃ (t11 : ByteArray), ∃ (p12 : Option (Nat × Nat)), EntryR h10 b1 .str (.one .ptr) t11 [.ptr p12] ∧ CallV Proofs.Tryz.prog a0 [.lf (.str t11)] h10 [.one .bool] fun (c13
 : Bool) h14 => Br (!c13) (R h14) (∃ b15, b15 < b6 ∧ I3 h14 b15)
theorem ok185 {a0 : Value} {f0 : Nat} {o0 : Nat} {h : Heap} {R : Heap → Prop} (hv : vc185 a0 f0 o0 h R) : Call Proofs.Tryz.prog 185 [.lf (.raw a0), .lf (.ptr (some (f0, o0)))] h [] R := call_eq (pl := pl185) hng hmix Proofs.Tryz.func185 (by kernel_rfl) hv
def pl186 : Plan := {
  blk := fun _ => none
  seq := fun _ => none
  loop := fun | 1 => some ⟨[], [], []⟩ | _ => none
  live := fun | 0 => some [0,5] | 1 => some [0,5,7] | 2 => some [0,3,5] | 3 => some [0,5,13] | _ => none
  track := fun | _ => false
  draw := fun | _ => .done
  iter := fun | 5 => some 107 | _ => none }
def vc186 (a0 : Value) (f0 : Nat) (o0 : Nat) (h : Heap) (R : Heap → Prop) : Prop :=
 ∃ (p0 : Option Nat), cellsAt h f0 o0 [.map p0] ∧ RngC h p0 fun b1 h2 => ∃ (I3 : Heap → Nat → Prop), (∃ b4, I3 h2 b4) ∧ ∀ h5 b6, I3 h5 b6 → NextC .str (.one .ptr) h5 b1 (fun h7 => R h7) fun (t8 :
 ByteArray) (x9 : List Lf) h10 => ∃ (t11 : ByteArray), ∃ (p12 : Option (Nat × Nat)), EntryR h10 b1 .str (.one .ptr) t11 [.ptr p12] ∧ CallV Proofs.Tryz.prog a0 [.lf (.str t11)] h10 [.one .bool] fun (c13
 : Bool) h14 => Br (!c13) (R h14) (∃ b15, b15 < b6 ∧ I3 h14 b15)
theorem ok186 {a0 : Value} {f0 : Nat} {o0 : Nat} {h : Heap} {R : Heap → Prop} (hv : vc186 a0 f0 o0 h R) : Call Proofs.Tryz.prog 186 [.lf (.raw a0), .lf (.ptr (some (f0, o0)))] h [] R := call_eq (pl := pl186) hng hmix Proofs.Tryz.func186 (by kernel_rfl) hv
def pl215 : Plan := {
  blk := fun _ => none
  seq := fun _ => none
  loop := fun _ => none
  live := fun | 0 => some [1,2] | 1 => some [2,6] | 2 => some [2,5] | 3 => some [] | 4 => some [4] | _ => none
  track := fun | _ => false
  draw := fun | _ => .done
  iter := fun | _ => none
  yt := fun | 2 => some [.one .str] | _ => none }
def vc215 (a0 : Slc) (a1 : Value) (h : Heap) (R : Slc → Heap → Prop) : Prop :=
 New 66 [.slc a0] h fun b0 h1 => ∀ (lp2 : Loop), LoopC lp2 h1 fun b3 b4 h5 => (∀ (h6 : Heap) (I7 : Bool → Heap → Prop), LAt h6 b4 lp2 → ∀ (t8 : ByteArray), (LBusy h6 b4 lp2 fun h9 => ∃ s10, cellsAt h9
 b0 0 [.slc s10] ∧ New 9 [.str t8] h9 fun b11 h12 => AppC 9 [.str (ByteArray.mk #[])] 1 16 s10 (Slc.mk (some (b11, 0)) 1 1) h12 fun (s13 : Slc) h14 => StC h14 b0 0 [.slc s13] fun h15 => LReady h15 b4
 lp2 fun h16 => I7 true h16) → CallV Proofs.Tryz.prog (yv b4) [.lf (.str t8)] h6 [.one .bool] fun (c17 : Bool) h18 => I7 c17 h18) → CallF Proofs.Tryz.prog a1 [.lf (.raw (yv b4))] h5 [] fun h19 => LEnd
 h19 b4 lp2 fun h20 => ∃ s21, cellsAt h20 b0 0 [.slc s21] ∧ CollC h20 b3 fun h22 => R s21 h22
theorem ok215 {a0 : Slc} {a1 : Value} {h : Heap} {R : Slc → Heap → Prop} (hv : vc215 a0 a1 h R) : Call Proofs.Tryz.prog 215 [.lf (.slc a0), .lf (.raw a1)] h [.one .slc] R := call_eq (pl := pl215) hng hmix Proofs.Tryz.func215 (by kernel_rfl) hv
end Go.V.YtdeihieblljfcaaGreat
namespace Go.V.YtdeihieblljfcaaGreat
open Go Go.V
def pl16 : Plan := {
  blk := fun _ => none
  seq := fun _ => none
  loop := fun _ => none
  live := fun | 0 => some [0,1] | 1 => some [0,5,6] | 2 => some [0,5,6,16] | 3 => some [4] | 4 => some [5,7] | 5 => some [5,7,24] | 6 => some [4] | 7 => some [] | 8 => some [4] | _ => none
  track := fun | _ => false
  draw := fun | _ => .done
  iter := fun | _ => none }
def vc16 (a0 : Option (Nat × Nat)) (a1 : ByteArray) (h : Heap) (R : Int → Heap → Prop) : Prop :=
 Call Proofs.Tryz.prog 53 [.lf (.ptr a0), .lf (.str a1)] h [.one .ptr, .one (.int .i64)] fun (p0 : Option (Nat × Nat)) (i1 : Int) h2 => Br (i1 != 0) (R i1 h2) (Call Proofs.Tryz.prog 55 [.lf (.ptr a0)]
 h2 [.one (.int .i64), .one .bool] fun (i3 : Int) (c4 : Bool) h5 => Br (i3 != 0) (R i3 h5) (NilC p0 fun b6 b7 => ∃ s8, cellsAt h5 b6 (b7 + 2) [.slc s8] ∧ NilC p0 fun b9 b10 => StC h5 b9 (b10 + 0) [.slc
 s8] fun h11 => NilC p0 fun b12 b13 => StC h11 b12 (b13 + 1) [.slc (Slc.mk none 0 0)] fun h14 => R 0 h14))
theorem ok16 {a0 : Option (Nat × Nat)} {a1 : ByteArray} {h : Heap} {R : Int → Heap → Prop} (hv : vc16 a0 a1 h R) : Call Proofs.Tryz.prog 16 [.lf (.ptr a0), .lf (.str a1)] h [.one (.int .i64)] R := call_eq (pl := pl16) hng hmix Proofs.Tryz.func16 (by kernel_rfl) hv
def pl40 : Plan := {
  blk := fun _ => none
  seq := fun _ => none
  loop := fun _ => none
  live := fun | 0 => some [0,1] | 1 => some [0,5,6] | 2 => some [0,5,6,16] | 3 => some [4] | 4 => some [5,7] | 5 => some [5,7,24] | 6 => some [4] | 7 => some [] | 8 => some [4] | _ => none
  track := fun | _ => false
  draw := fun | _ => .done
  iter := fun | _ => none }
def vc40 (a0 : Option (Nat × Nat)) (a1 : ByteArray) (h : Heap) (R : Int → Heap → Prop) : Prop :=
 Call Proofs.Tryz.prog 106 [.lf (.ptr a0), .lf (.str a1)] h [.one .ptr, .one (.int .i64)] fun (p0 : Option (Nat × Nat)) (i1 : Int) h2 => Br (i1 != 0) (R i1 h2) (Call Proofs.Tryz.prog 55 [.lf (.ptr a0)]
 h2 [.one (.int .i64), .one .bool] fun (i3 : Int) (c4 : Bool) h5 => Br (i3 != 0) (R i3 h5) (NilC p0 fun b6 b7 => StC h5 b6 (b7 + 1) [.slc (Slc.mk none 0 0)] fun h8 => R 0 h8))
theorem ok40 {a0 : Option (Nat × Nat)} {a1 : ByteArray} {h : Heap} {R : Int → Heap → Prop} (hv : vc40 a0 a1 h R) : Call Proofs.Tryz.prog 40 [.lf (.ptr a0), .lf (.str a1)] h [.one (.int .i64)] R := call_eq (pl := pl40) hng hmix Proofs.Tryz.func40 (by kernel_rfl) hv
def pl73 : Plan := {
  blk := fun _ => none
  seq := fun | 6 => some ⟨[(54, .one .bool)], [], []⟩ | 9 => some ⟨[(66, .one .bool)], [], []⟩ | _ => none
  loop := fun _ => none
  live := fun | 0 => some [0,1,2] | 1 => some [0,1,2,7,8,9,10,11,12] | 2 => some [0,1,2,7,8,9,10,11,12,29] | 3 => some [6] | 4 => some [0,1,2,7,8,9,10,11,14] | 5 => some [0,1,2,7,8,9,10,11,54] | 6 => some [6] | 7 => some [1,2,7,8,9,10,11,15] | 8 => some [7,8,9,10,11,15,66] | 9 => some [6] | 10 => some [7,8,9,10,11,70] | 11 => some [] | 12 => some [6] | 13 => some [7,9] | 14 => some [] | 15 => some [6] | _ => none
  track := fun | _ => false
  draw := fun | 4 => .still 0 (.still 1 (.still 2 (.still 3 (.still 4 (.still 5 (.still 6 (.still 7 (.still 8 (.still 9 (.still 10 (.done))))))))))) | _ => .done
  iter := fun | _ => none }
def vc73 (a0 : Option (Nat × Nat)) (a1 : ByteArray) (a2 : ByteArray) (h : Heap) (R : Int → Heap → Prop) : Prop :=
 Call Proofs.Tryz.prog 141 [.lf (.ptr a0), .lf (.str a1), .lf (.str a2)] h [.one .ptr, .one .ptr, .one .str, .one .str, .one .ptr, .one (.int .i64)] fun (p0 p1 : Option (Nat × Nat)) (t2 t3 : ByteArray)
 (p4 : Option (Nat × Nat)) (i5 : Int) h6 => New 9 [.str (ByteArray.mk #[])] h6 fun b7 h8 => New 9 [.str (ByteArray.mk #[])] h8 fun b9 h10 => New 98 [.ptr none] h10 fun b11 h12 => StC h12 b7 0 [.str t2]
 fun h13 => StC h13 b9 0 [.str t3] fun h14 => StC h14 b11 0 [.ptr p4] fun h15 => Br (i5 != 0) (R i5 h15) (NilC p1 fun b16 b17 => ∃ (p18 : Option Nat), cellsAt h15 b16 (b17 + 0) [.map p18] ∧ ∃ (t19 :
 ByteArray), cellsAt h15 b9 0 [.str t19] ∧ ∃ (p20 : Option (Nat × Nat)), ∃ c21, LookR h15 .str (.one .ptr) [.ptr none] p18 t19 [.ptr p20] c21 ∧ ∃ (I22 : Bool → Heap → Prop), Br (!c21) (PEq h15 p0 p1 ∧
 Br (!ptrEq p0 p1) (NilC p1 fun b23 b24 => ∃ (p25 : Option Nat), cellsAt h15 b23 (b24 + 0) [.map p25] ∧ ∃ i26, LenR h15 p25 i26 ∧ I22 (decide (i26 ≥ 1024)) h15) (I22 false h15)) (I22 false h15) ∧ ∀ c27
 h28, I22 c27 h28 → Br c27 (R 2 h28) (Call Proofs.Tryz.prog 55 [.lf (.ptr a0)] h28 [.one (.int .i64), .one .bool] fun (i29 : Int) (c30 : Bool) h31 => ∃ (I32 : Bool → Heap → Prop), Br (i29 != 0) (I32
 true h31) (I32 (strEq a1 a2) h31) ∧ ∀ c33 h34, I32 c33 h34 → Br c33 (R i29 h34) (PEq h34 p0 p1 ∧ Br (ptrEq p0 p1) (Call Proofs.Tryz.prog 104 [.lf (.ptr p0), .lf (.raw (Value.func (Fn.func 142) #[]
 #[Value.pointer (some (Addr.mk b7 0 none)), Value.pointer (some (Addr.mk b11 0 none)), Value.pointer (some (Addr.mk b9 0 none))]))] h34 [] fun h35 => R 0 h35) (Call Proofs.Tryz.prog 104 [.lf (.ptr p1),
 .lf (.raw (Value.func (Fn.func 143) #[] #[Value.pointer (some (Addr.mk b11 0 none)), Value.pointer (some (Addr.mk b9 0 none))]))] h34 [] fun h36 => Call Proofs.Tryz.prog 104 [.lf (.ptr p0), .lf (.raw
 (Value.func (Fn.func 144) #[] #[Value.pointer (some (Addr.mk b7 0 none))]))] h36 [] fun h37 => R 0 h37))))
theorem ok73 {a0 : Option (Nat × Nat)} {a1 : ByteArray} {a2 : ByteArray} {h : Heap} {R : Int → Heap → Prop} (hv : vc73 a0 a1 a2 h R) : Call Proofs.Tryz.prog 73 [.lf (.ptr a0), .lf (.str a1), .lf (.str a2)] h [.one (.int .i64)] R := call_eq (pl := pl73) hng hmix Proofs.Tryz.func73 (by kernel_rfl) hv
def pl141 : Plan := {
  blk := fun _ => none
  seq := fun _ => none
  loop := fun _ => none
  live := fun | 0 => some [0,1,2,7,9,10] | 1 => some [0,2,6,7,8,9,10,11] | 2 => some [0,2,6,7,8,9,10,11,20] | 3 => some [6,7,8,9,10,11] | 4 => some [6,7,8,9,10,11,29] | 5 => some [6,7,8,9,10,11] | 6 => some [6,7,8,9,10,11,37] | 7 => some [6,7,8,9,10,11] | _ => none
  track := fun | _ => false
  draw := fun | _ => .done
  iter := fun | _ => none }
def vc141 (a0 : Option (Nat × Nat)) (a1 : ByteArray) (a2 : ByteArray) (h : Heap) (R : Option (Nat × Nat) → Option (Nat × Nat) → ByteArray → ByteArray → Option (Nat × Nat) → Int → Heap → Prop) : Prop :=
 Call Proofs.Tryz.prog 103 [.lf (.ptr a0), .lf (.str a1)] h [.one .ptr, .one .str, .one (.int .i64)] fun (p0 : Option (Nat × Nat)) (t1 : ByteArray) (i2 : Int) h3 => Br (i2 != 0) (R p0 none t1
 (ByteArray.mk #[]) none i2 h3) (Call Proofs.Tryz.prog 103 [.lf (.ptr a0), .lf (.str a2)] h3 [.one .ptr, .one .str, .one (.int .i64)] fun (p4 : Option (Nat × Nat)) (t5 : ByteArray) (i6 : Int) h7 => Br
 (i6 != 0) (R p0 p4 t1 t5 none i6 h7) (NilC p0 fun b8 b9 => ∃ (p10 : Option Nat), cellsAt h7 b8 (b9 + 0) [.map p10] ∧ ∃ (p11 : Option (Nat × Nat)), ∃ c12, LookR h7 .str (.one .ptr) [.ptr none] p10 t1
 [.ptr p11] c12 ∧ Br (Option.isNone p11) (R p0 p4 t1 t5 p11 6 h7) (R p0 p4 t1 t5 p11 i6 h7)))
theorem ok141 {a0 : Option (Nat × Nat)} {a1 : ByteArray} {a2 : ByteArray} {h : Heap} {R : Option (Nat × Nat) → Option (Nat × Nat) → ByteArray → ByteArray → Option (Nat × Nat) → Int → Heap → Prop} (hv : vc141 a0 a1 a2 h R) : Call Proofs.Tryz.prog 141 [.lf (.ptr a0), .lf (.str a1), .lf (.str a2)] h [.one .ptr, .one .ptr, .one .str, .one .str, .one .ptr, .one (.int .i64)] R := call_eq (pl := pl141) hng hmix Proofs.Tryz.func141 (by kernel_rfl) hv
def pl142 : Plan := {
  blk := fun _ => none
  seq := fun _ => none
  loop := fun _ => none
  live := fun | 0 => some [0,2,3] | 1 => some [] | _ => none
  track := fun | _ => false
  draw := fun | _ => .done
  iter := fun | _ => none }
def vc142 (a0 : Option Nat) (f0 : Nat) (o0 : Nat) (f1 : Nat) (o1 : Nat) (f2 : Nat) (o2 : Nat) (h : Heap) (R : Heap → Prop) : Prop :=
 ∃ (t0 : ByteArray), cellsAt h f0 o0 [.str t0] ∧ DelC .str (.one .ptr) h a0 t0 fun h1 => ∃ (t2 : ByteArray), cellsAt h1 f2 o2 [.str t2] ∧ ∃ (p3 : Option (Nat × Nat)), cellsAt h1 f1 o1 [.ptr p3] ∧ UpdC
 .str (.one .ptr) h1 a0 t2 [.ptr p3] fun h4 => R h4
theorem ok142 {a0 : Option Nat} {f0 : Nat} {o0 : Nat} {f1 : Nat} {o1 : Nat} {f2 : Nat} {o2 : Nat} {h : Heap} {R : Heap → Prop} (hv : vc142 a0 f0 o0 f1 o1 f2 o2 h R) : Call Proofs.Tryz.prog 142 [.lf (.map a0), .lf (.ptr (some (f0, o0))), .lf (.ptr (some (f1, o1))), .lf (.ptr (some (f2, o2)))] h [] R := call_eq (pl := pl142) hng hmix Proofs.Tryz.func142 (by kernel_rfl) hv
def pl143 : Plan := {
  blk := fun _ => none
  seq := fun _ => none
  loop := fun _ => none
  live := fun | 0 => some [] | _ => none
  track := fun | _ => false
  draw := fun | _ => .done
  iter := fun | _ => none }
def vc143 (a0 : Option Nat) (f0 : Nat) (o0 : Nat) (f1 : Nat) (o1 : Nat) (h : Heap) (R : Heap → Prop) : Prop :=
 ∃ (t0 : ByteArray), cellsAt h f1 o1 [.str t0] ∧ ∃ (p1 : Option (Nat × Nat)), cellsAt h f0 o0 [.ptr p1] ∧ UpdC .str (.one .ptr) h a0 t0 [.ptr p1] fun h2 => R h2
theorem ok143 {a0 : Option Nat} {f0 : Nat} {o0 : Nat} {f1 : Nat} {o1 : Nat} {h : Heap} {R : Heap → Prop} (hv : vc143 a0 f0 o0 f1 o1 h R) : Call Proofs.Tryz.prog 143 [.lf (.map a0), .lf (.ptr (some (f0, o0))), .lf (.ptr (some (f1, o1)))] h [] R := call_eq (pl := pl143) hng hmix Proofs.Tryz.func143 (by kernel_rfl) hv
def pl144 : Plan := {
  blk := fun _ => none
  seq := fun _ => none
  loop := fun _ => none
  live := fun | 0 => some [] | _ => none
  track := fun | _ => false
  draw := fun | _ => .done
  iter := fun | _ => none }
def vc144 (a0 : Option Nat) (f0 : Nat) (o0 : Nat) (h : Heap) (R : Heap → Prop) : Prop :=
 ∃ (t0 : ByteArray), cellsAt h f0 o0 [.str t0] ∧ DelC .str (.one .ptr) h a0 t0 fun h1 => R h1
theorem ok144 {a0 : Option Nat} {f0 : Nat} {o0 : Nat} {h : Heap} {R : Heap → Prop} (hv : vc144 a0 f0 o0 h R) : Call Proofs.Tryz.prog 144 [.lf (.map a0), .lf (.ptr (some (f0, o0)))] h [] R := call_eq (pl := pl144) hng hmix Proofs.Tryz.func144 (by kernel_rfl) hv
def pl13 : Plan := {
  blk := fun _ => none
  seq := fun _ => none
  loop := fun | 2 => some ⟨[(19, .one (.int .i64))], [], []⟩ | _ => none
  live := fun | 0 => some [0,6,7] | 1 => some [0,6,7,17,18,19] | 2 => some [0,6,7,17,18,19,20] | 3 => some [0,6,7,9,17,18,19] | 4 => some [0,6,7,10,17,18,19] | 5 => some [0,6,7,10,17,18,19,34] | 6 => some [0,6,7,10,11,17,18,19] | 7 => some [0,6,7,10,11,17,18,19,50] | 8 => some [0,6,7,10,17,18,19] | 9 => some [0,6,7,17,18,19] | 10 => some [0,6,7,17,18,19] | 11 => some [0] | 12 => some [] | _ => none
  track := fun | _ => false
  draw := fun | 6 => .still 0 (.still 2 (.still 3 (.still 4 (.still 5 (.still 6 (.still 7 (.mem 1 (.still 8 (.still 9 (.done)))))))))) | _ => .done
  iter := fun | _ => none }
def vc13 (a0 : Option (Nat × Nat)) (a1 : Slc) (a2 : Slc) (h : Heap) (R : Heap → Prop) : Prop :=
 Call Proofs.Tryz.prog 49 [.lf (.slc a1)] h [.one .raw] fun (x0 : Value) (h1 : Heap) => Call Proofs.Tryz.prog 49 [.lf (.slc a2)] h1 [.one .raw] fun (x2 : Value) (h3 : Heap) => New 103 [.raw
 Value.nilFunc] h3 fun b4 h5 => StC h5 b4 0 [.raw x0] fun h6 => Call Proofs.Tryz.prog 50 [.lf (.ptr a0)] h6 [.one .slc] fun (s7 : Slc) h8 => ∃ (I9 : Int → Heap → Nat → Prop), (∃ b10, I9 0 h8 b10) ∧ ∀
 i11 h12 b13, I9 i11 h12 b13 → Br (decide (i11 < (↑(Slc.len s7) : Int))) (IxC s7 i11 1 fun b14 b15 => ∃ (t16 : ByteArray), cellsAt h12 b14 b15 [.str t16] ∧ NilC a0 fun b17 b18 => ∃ (p19 : Option Nat),
 cellsAt h12 b17 (b18 + 1) [.map p19] ∧ ∃ (p20 : Option (Nat × Nat)), ∃ c21, LookR h12 .str (.one .ptr) [.ptr none] p19 t16 [.ptr p20] c21 ∧ NilC p20 fun b22 b23 => ∃ s24, cellsAt h12 b22 (b23 + 1)
 [.slc s24] ∧ Br ((↑(Slc.len s24) : Int) == 0) (∃ b25, b25 < b13 ∧ I9 (IntKind.wrap .i64 (i11 + 1)) h12 b25) (NilC p20 fun b26 b27 => ∃ s28, cellsAt h12 b26 (b27 + 1) [.slc s28] ∧ CallV Proofs.Tryz.prog
 x2 [] h12 [.one (.int .i64)] fun (i29 : Int) h30 => cellsAt h30 b26 (b27 + 1) [.slc s28] ∧ (IntKind.wrap .i64 ((↑(Slc.len s28) : Int) + 1) = 0 → False) ∧ NilC p20 fun b31 b32 => ∃ s33, cellsAt h30 b31
 (b32 + 1) [.slc s33] ∧ Br (decide (Int.tmod i29 (IntKind.wrap .i64 ((↑(Slc.len s28) : Int) + 1)) < (↑(Slc.len s33) : Int))) (NilC p20 fun b34 b35 => ∃ s36, cellsAt h30 b34 (b35 + 1) [.slc s36] ∧ IxC
 s36 (Int.tmod i29 (IntKind.wrap .i64 ((↑(Slc.len s28) : Int) + 1))) 1 fun b37 b38 => ∃ (p39 : Option Nat), cellsAt h30 b37 b38 [.map p39] ∧ NilC p20 fun b40 b41 => StC h30 b40 (b41 + 0) [.map p39] fun
 h42 => NilC p20 fun b43 b44 => StC h42 b43 (b44 + 1) [.slc (Slc.mk none 0 0)] fun h45 => ∃ b46, b46 < b13 ∧ I9 (IntKind.wrap .i64 (i11 + 1)) h45 b46) (NilC p20 fun b47 b48 => StC h30 b47 (b48 + 1)
 [.slc (Slc.mk none 0 0)] fun h49 => ∃ b50, b50 < b13 ∧ I9 (IntKind.wrap .i64 (i11 + 1)) h49 b50))) (Call Proofs.Tryz.prog 45 [.lf (.ptr a0), .lf (.raw (Value.func (Fn.func 51) #[] #[Value.pointer (some
 (Addr.mk b4 0 none))]))] h12 [] fun h51 => NilC a0 fun b52 b53 => StC h51 b52 (b53 + 2) [.int .i64 0, .int .i64 0, .int .i64 0] fun h54 => NilC a0 fun b55 b56 => StC h54 b55 (b56 + 5) [.int .i64 0,
 .int .i64 0, .int .i64 0] fun h57 => R h57)
theorem ok13 {a0 : Option (Nat × Nat)} {a1 : Slc} {a2 : Slc} {h : Heap} {R : Heap → Prop} (hv : vc13 a0 a1 a2 h R) : Call Proofs.Tryz.prog 13 [.lf (.ptr a0), .lf (.slc a1), .lf (.slc a2)] h [] R := call_eq (pl := pl13) hng hmix Proofs.Tryz.func13 (by kernel_rfl) hv
def pl49 : Plan := {
  blk := fun _ => none
  seq := fun _ => none
  loop := fun _ => none
  live := fun | 0 => some [1] | 1 => some [1,3] | 2 => some [2] | _ => none
  track := fun | _ => false
  draw := fun | _ => .done
  iter := fun | _ => none }
def vc49 (a0 : Slc) (h : Heap) (R : Value → Heap → Prop) : Prop :=
 New 23 [.slc a0] h fun b0 h1 => New 3 [.int .i64 0] h1 fun b2 h3 => StC h3 b2 0 [.int .i64 0] fun h4 => R (Value.func (Fn.func 109) #[] #[Value.pointer (some (Addr.mk b0 0 none)), Value.pointer (some
 (Addr.mk b2 0 none))]) h4
theorem ok49 {a0 : Slc} {h : Heap} {R : Value → Heap → Prop} (hv : vc49 a0 h R) : Call Proofs.Tryz.prog 49 [.lf (.slc a0)] h [.one .raw] R := call_eq (pl := pl49) hng hmix Proofs.Tryz.func49 (by kernel_rfl) hv
def pl109 : Plan := {
  blk := fun _ => none
  seq := fun _ => none
  loop := fun _ => none
  live := fun | 0 => some [0,1] | 1 => some [0,1,5] | 2 => some [2] | 3 => some [0,1] | 4 => some [2] | _ => none
  track := fun | _ => false
  draw := fun | 4 => .still 0 (.still 1 (.still 2 (.still 3 (.still 4 (.still 5 (.still 6 (.still 7 (.still 8 (.still 9 (.done)))))))))) | _ => .done
  iter := fun | _ => none }
def vc109 (f0 : Nat) (o0 : Nat) (f1 : Nat) (o1 : Nat) (h : Heap) (R : Int → Heap → Prop) : Prop :=
 ∃ s0, cellsAt h f0 o0 [.slc s0] ∧ Br ((↑(Slc.len s0) : Int) == 0) (R 0 h) (∃ i1, cellsAt h f1 o1 [.int .i64 i1] ∧ StC h f1 o1 [.int .i64 (IntKind.wrap .i64 (i1 + 1))] fun h2 => ∃ s3, cellsAt h2 f0 o0
 [.slc s3] ∧ ∃ i4, cellsAt h2 f1 o1 [.int .i64 i4] ∧ ∃ s5, cellsAt h2 f0 o0 [.slc s5] ∧ ((↑(Slc.len s5) : Int) = 0 → False) ∧ IxC s3 (Int.tmod (IntKind.wrap .i64 (i4 - 1)) (↑(Slc.len s5) : Int)) 1 fun
 b6 b7 => ∃ i8, cellsAt h2 b6 b7 [.int .i64 i8] ∧ R (if 0 > i8 then 0 else i8) h2)
theorem ok109 {f0 : Nat} {o0 : Nat} {f1 : Nat} {o1 : Nat} {h : Heap} {R : Int → Heap → Prop} (hv : vc109 f0 o0 f1 o1 h R) : Call Proofs.Tryz.prog 109 [.lf (.ptr (some (f0, o0))), .lf (.ptr (some (f1, o1)))] h [.one (.int .i64)] R := call_eq (pl := pl109) hng hmix Proofs.Tryz.func109 (by kernel_rfl) hv
def pl41 : Plan := {
  blk := fun _ => none
  seq := fun _ => none
  loop := fun _ => none
  live := fun | 0 => some [0,1] | 1 => some [6,7] | 2 => some [6,7,15] | 3 => some [4,5] | 4 => some [4,5] | _ => none
  track := fun | _ => false
  draw := fun | _ => .done
  iter := fun | _ => none }
def vc41 (a0 : Option (Nat × Nat)) (a1 : ByteArray) (h : Heap) (R : Slc → Int → Heap → Prop) : Prop :=
 Call Proofs.Tryz.prog 53 [.lf (.ptr a0), .lf (.str a1)] h [.one .ptr, .one (.int .i64)] fun (p0 : Option (Nat × Nat)) (i1 : Int) h2 => Br (i1 != 0) (R (Slc.mk none 0 0) i1 h2) (NilC p0 fun b3 b4 => ∃
 s5, cellsAt h2 b3 (b4 + 2) [.slc s5] ∧ Call Proofs.Tryz.prog 47 [.lf (.slc s5)] h2 [.one .slc] fun (s6 : Slc) h7 => R s6 0 h7)
theorem ok41 {a0 : Option (Nat × Nat)} {a1 : ByteArray} {h : Heap} {R : Slc → Int → Heap → Prop} (hv : vc41 a0 a1 h R) : Call Proofs.Tryz.prog 41 [.lf (.ptr a0), .lf (.str a1)] h [.one .slc, .one (.int .i64)] R := call_eq (pl := pl41) hng hmix Proofs.Tryz.func41 (by kernel_rfl) hv
def pl75 : Plan := {
  blk := fun _ => none
  seq := fun _ => none
  loop := fun _ => none
  live := fun | 0 => some [0,1,2] | 1 => some [0,8,10,11,12] | 2 => some [0,8,10,11,12,29] | 3 => some [6] | 4 => some [0,8,10,11,14] | 5 => some [0,8,10,11,40] | 6 => some [6] | 7 => some [0,8,10,11,46] | 8 => some [6] | 9 => some [8,10,11,15] | 10 => some [8,10,11,15,53] | 11 => some [6] | 12 => some [] | 13 => some [6] | _ => none
  track := fun | _ => false
  draw := fun | 4 => .still 0 (.still 1 (.still 2 (.still 3 (.still 4 (.still 5 (.still 6 (.still 7 (.still 8 (.still 9 (.still 10 (.done))))))))))) | _ => .done
  iter := fun | _ => none }
def vc75 (a0 : Option (Nat × Nat)) (a1 : ByteArray) (a2 : ByteArray) (h : Heap) (R : Int → Heap → Prop) : Prop :=
 Call Proofs.Tryz.prog 141 [.lf (.ptr a0), .lf (.str a1), .lf (.str a2)] h [.one .ptr, .one .ptr, .one .str, .one .str, .one .ptr, .one (.int .i64)] fun (p0 p1 : Option (Nat × Nat)) (t2 t3 : ByteArray)
 (p4 : Option (Nat × Nat)) (i5 : Int) h6 => New 9 [.str (ByteArray.mk #[])] h6 fun b7 h8 => New 98 [.ptr none] h8 fun b9 h10 => StC h10 b7 0 [.str t3] fun h11 => StC h11 b9 0 [.ptr p4] fun h12 => Br (i5
 != 0) (R i5 h12) (NilC p1 fun b13 b14 => ∃ (p15 : Option Nat), cellsAt h12 b13 (b14 + 0) [.map p15] ∧ ∃ (t16 : ByteArray), cellsAt h12 b7 0 [.str t16] ∧ ∃ (p17 : Option (Nat × Nat)), ∃ c18, LookR h12
 .str (.one .ptr) [.ptr none] p15 t16 [.ptr p17] c18 ∧ Br c18 (R 7 h12) (NilC p1 fun b19 b20 => ∃ (p21 : Option Nat), cellsAt h12 b19 (b20 + 0) [.map p21] ∧ ∃ i22, LenR h12 p21 i22 ∧ Br (decide (i22 ≥
 1024)) (R 2 h12) (Call Proofs.Tryz.prog 55 [.lf (.ptr a0)] h12 [.one (.int .i64), .one .bool] fun (i23 : Int) (c24 : Bool) h25 => Br (i23 != 0) (R i23 h25) (Call Proofs.Tryz.prog 104 [.lf (.ptr p1),
 .lf (.raw (Value.func (Fn.func 146) #[] #[Value.pointer (some (Addr.mk b9 0 none)), Value.pointer (some (Addr.mk b7 0 none))]))] h25 [] fun h26 => R 0 h26))))
theorem ok75 {a0 : Option (Nat × Nat)} {a1 : ByteArray} {a2 : ByteArray} {h : Heap} {R : Int → Heap → Prop} (hv : vc75 a0 a1 a2 h R) : Call Proofs.Tryz.prog 75 [.lf (.ptr a0), .lf (.str a1), .lf (.str a2)] h [.one (.int .i64)] R := call_eq (pl := pl75) hng hmix Proofs.Tryz.func75 (by kernel_rfl) hv
def pl146 : Plan := {
  blk := fun _ => none
  seq := fun _ => none
  loop := fun _ => none
  live := fun | 0 => some [] | _ => none
  track := fun | _ => false
  draw := fun | _ => .done
  iter := fun | _ => none }
def vc146 (a0 : Option Nat) (f0 : Nat) (o0 : Nat) (f1 : Nat) (o1 : Nat) (h : Heap) (R : Heap → Prop) : Prop :=
 ∃ (t0 : ByteArray), cellsAt h f1 o1 [.str t0] ∧ ∃ (p1 : Option (Nat × Nat)), cellsAt h f0 o0 [.ptr p1] ∧ UpdC .str (.one .ptr) h a0 t0 [.ptr p1] fun h2 => R h2
theorem ok146 {a0 : Option Nat} {f0 : Nat} {o0 : Nat} {f1 : Nat} {o1 : Nat} {h : Heap} {R : Heap → Prop} (hv : vc146 a0 f0 o0 f1 o1 h R) : Call Proofs.Tryz.prog 146 [.lf (.map a0), .lf (.ptr (some (f0, o0))), .lf (.ptr (some (f1, o1)))] h [] R := call_eq (pl := pl146) hng hmix Proofs.Tryz.func146 (by kernel_rfl) hv
def pl39 : Plan := {
  blk := fun _ => none
  seq := fun _ => none
  loop := fun _ => none
  live := fun | 0 => some [0,1,2,3] | 1 => some [0,2,3,9,10] | 2 => some [0,2,3,9,10,18] | 3 => some [8] | 4 => some [8] | _ => none
  track := fun | _ => false
  draw := fun | _ => .done
  iter := fun | _ => none }
def vc39 (a0 : Option (Nat × Nat)) (a1 : ByteArray) (a2 : Int) (a3 : Slc) (h : Heap) (R : Int → Heap → Prop) : Prop :=
 Call Proofs.Tryz.prog 53 [.lf (.ptr a0), .lf (.str a1)] h [.one .ptr, .one (.int .i64)] fun (p0 : Option (Nat × Nat)) (i1 : Int) h2 => Br (i1 != 0) (R i1 h2) (Call Proofs.Tryz.prog 54 [.lf (.ptr a0),
 .lf (.ptr p0), .lf (.int .i64 a2), .lf (.slc a3)] h2 [.one (.int .i64)] fun (i3 : Int) h4 => R i3 h4)
theorem ok39 {a0 : Option (Nat × Nat)} {a1 : ByteArray} {a2 : Int} {a3 : Slc} {h : Heap} {R : Int → Heap → Prop} (hv : vc39 a0 a1 a2 a3 h R) : Call Proofs.Tryz.prog 39 [.lf (.ptr a0), .lf (.str a1), .lf (.int .i64 a2), .lf (.slc a3)] h [.one (.int .i64)] R := call_eq (pl := pl39) hng hmix Proofs.Tryz.func39 (by kernel_rfl) hv
def pl162 : Plan := {
  blk := fun _ => none
  seq := fun _ => none
  loop := fun _ => none
  live := fun | 0 => some [0,1,2] | 1 => some [0,2,7,8] | 2 => some [7,8,9,10] | 3 => some [6] | _ => none
  track := fun | _ => false
  draw := fun | _ => .done
  iter := fun | _ => none }
def vc162 (a0 : Option (Nat × Nat)) (a1 : ByteArray) (a2 : ByteArray) (h : Heap) (R : Bool → Heap → Prop) : Prop :=
 Call Proofs.Tryz.prog 53 [.lf (.ptr a0), .lf (.str a1)] h [.one .ptr, .one (.int .i64)] fun (p0 : Option (Nat × Nat)) (i1 : Int) h2 => Call Proofs.Tryz.prog 53 [.lf (.ptr a0), .lf (.str a2)] h2 [.one
 .ptr, .one (.int .i64)] fun (p3 : Option (Nat × Nat)) (i4 : Int) h5 => Br (i1 == 0) (Br (i4 == 0) (PEq h5 p0 p3 ∧ R (ptrEq p0 p3) h5) (R false h5)) (R false h5)
theorem ok162 {a0 : Option (Nat × Nat)} {a1 : ByteArray} {a2 : ByteArray} {h : Heap} {R : Bool → Heap → Prop} (hv : vc162 a0 a1 a2 h R) : Call Proofs.Tryz.prog 162 [.lf (.ptr a0), .lf (.str a1), .lf (.str a2)] h [.one .bool] R := call_eq (pl := pl162) hng hmix Proofs.Tryz.func162 (by kernel_rfl) hv
def pl87 : Plan := {
  blk := fun _ => none
  seq := fun _ => none
  loop := fun _ => none
  live := fun | 0 => some [0] | 1 => some [2] | _ => none
  track := fun | _ => false
  draw := fun | _ => .done
  iter := fun | _ => none }
def vc87 (a0 : Option (Nat × Nat)) (h : Heap) (R : Int → Heap → Prop) : Prop :=
 Call Proofs.Tryz.prog 112 [.lf (.ptr a0)] h [.one (.int .i64)] fun (i0 : Int) h1 => R i0 h1
theorem ok87 {a0 : Option (Nat × Nat)} {h : Heap} {R : Int → Heap → Prop} (hv : vc87 a0 h R) : Call Proofs.Tryz.prog 87 [.lf (.ptr a0)] h [.one (.int .i64)] R := call_eq (pl := pl87) hng hmix Proofs.Tryz.func87 (by kernel_rfl) hv
def pl77 : Plan := {
  blk := fun _ => none
  seq := fun _ => none
  loop := fun _ => none
  live := fun | 0 => some [0,1] | 1 => some [0,1,6] | 2 => some [0,1,6,19] | 3 => some [4] | 4 => some [0,7,8] | 5 => some [7,8,10] | 6 => some [7,8,10,34] | 7 => some [4] | 8 => some [] | 9 => some [4] | _ => none
  track := fun | _ => false
  draw := fun | _ => .done
  iter := fun | _ => none }
def vc77 (a0 : Option (Nat × Nat)) (a1 : ByteArray) (h : Heap) (R : Int → Heap → Prop) : Prop :=
 Call Proofs.Tryz.prog 53 [.lf (.ptr a0), .lf (.str a1)] h [.one .ptr, .one (.int .i64)] fun (p0 : Option (Nat × Nat)) (i1 : Int) h2 => Br (i1 != 0) (R i1 h2) (Call Proofs.Tryz.prog 103 [.lf (.ptr a0),
 .lf (.str a1)] h2 [.one .ptr, .one .str, .one (.int .i64)] fun (p3 : Option (Nat × Nat)) (t4 : ByteArray) (i5 : Int) h6 => New 9 [.str (ByteArray.mk #[])] h6 fun b7 h8 => StC h8 b7 0 [.str t4] fun h9
 => Call Proofs.Tryz.prog 55 [.lf (.ptr a0)] h9 [.one (.int .i64), .one .bool] fun (i10 : Int) (c11 : Bool) h12 => Br (i10 != 0) (R i10 h12) (Call Proofs.Tryz.prog 104 [.lf (.ptr p3), .lf (.raw
 (Value.func (Fn.func 147) #[] #[Value.pointer (some (Addr.mk b7 0 none))]))] h12 [] fun h13 => R 0 h13))
theorem ok77 {a0 : Option (Nat × Nat)} {a1 : ByteArray} {h : Heap} {R : Int → Heap → Prop} (hv : vc77 a0 a1 h R) : Call Proofs.Tryz.prog 77 [.lf (.ptr a0), .lf (.str a1)] h [.one (.int .i64)] R := call_eq (pl := pl77) hng hmix Proofs.Tryz.func77 (by kernel_rfl) hv
def pl147 : Plan := {
  blk := fun _ => none
  seq := fun _ => none
  loop := fun _ => none
  live := fun | 0 => some [] | _ => none
  track := fun | _ => false
  draw := fun | _ => .done
  iter := fun | _ => none }
def vc147 (a0 : Option Nat) (f0 : Nat) (o0 : Nat) (h : Heap) (R : Heap → Prop) : Prop :=
 ∃ (t0 : ByteArray), cellsAt h f0 o0 [.str t0] ∧ DelC .str (.one .ptr) h a0 t0 fun h1 => R h1
theorem ok147 {a0 : Option Nat} {f0 : Nat} {o0 : Nat} {h : Heap} {R : Heap → Prop} (hv : vc147 a0 f0 o0 h R) : Call Proofs.Tryz.prog 147 [.lf (.map a0), .lf (.ptr (some (f0, o0)))] h [] R := call_eq (pl := pl147) hng hmix Proofs.Tryz.func147 (by kernel_rfl) hv
end Go.V.YtdeihieblljfcaaGreat
