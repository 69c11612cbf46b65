/- This text proves a part of the laws of seat YtdeihieblljfcaaGreat, under no condition: F1a F1b. -/
import Derived.Test.YtdeihieblljfcaaGreatPC
import Derived.Eval
import Derived.Test.YtdeihieblljfcaaGreatChecked
set_option linter.unusedVariables false
set_option maxRecDepth 100000
namespace Go.V.YtdeihieblljfcaaGreat
open Go Go.V
theorem hng : ∀ (f : Nat) (fn : Func), Proofs.Tryz.prog.funcs[f]? = some fn → (fn.name == "runtime.NumGoroutine") = false := by
  have h : (Proofs.Tryz.prog.funcs.toList.all fun fn => !(fn.name == "runtime.NumGoroutine")) = true := by kernel_rfl
  intro f fn hf
  have hm : fn ∈ Proofs.Tryz.prog.funcs.toList := by simpa using Array.mem_of_getElem? hf
  have := List.all_eq_true.1 h fn hm
  simpa using this
theorem hmix : Proofs.Tryz.prog.follows .mixedOrders = true := Checked.mixed Proofs.Tryz.checked
def pl36 : Plan := {
  blk := fun _ => none
  seq := fun _ => none
  loop := fun _ => none
  live := fun | 0 => some [0] | 1 => some [0,9] | 2 => some [2,3] | 3 => some [2,3] | _ => none
  track := fun | _ => false
  draw := fun | _ => .done
  iter := fun | _ => none }
def vc36 (a0 : Int) (h : Heap) (R : Option (Nat × Nat) → Int → Heap → Prop) : Prop :=
 Br (decide (a0 < 0)) (R none 1 h) (Br (decide (a0 > 268435456)) (R none 1 h) (NewM h fun b0 h1 => New 111 [.int .i64 a0, .map (some b0), .int .i64 0, .int .i64 0, .int .i64 0, .int .i64 0, .int .i64 0,
 .int .i64 0] h1 fun b2 h3 => R (some (b2, 0)) 0 h3))
theorem ok36 {a0 : Int} {h : Heap} {R : Option (Nat × Nat) → Int → Heap → Prop} (hv : vc36 a0 h R) : Call Proofs.Tryz.prog 36 [.lf (.int .i64 a0)] h [.one .ptr, .one (.int .i64)] R := call_eq (pl := pl36) hng hmix Proofs.Tryz.func36 (by kernel_rfl) hv
def pl113 : Plan := {
  blk := fun _ => none
  seq := fun | 2 => some ⟨[(16, .one .bool)], [], []⟩ | _ => none
  loop := fun _ => none
  live := fun | 0 => some [0] | 1 => some [0,16] | 2 => some [2,3] | 3 => some [0] | 4 => some [0,4] | 5 => some [2,3] | _ => none
  track := fun | _ => false
  draw := fun | 4 => .still 0 (.still 1 (.still 2 (.still 3 (.still 4 (.still 5 (.still 6 (.still 7 (.still 8 (.still 9 (.done)))))))))) | _ => .done
  iter := fun | _ => none }
def vc113 (a0 : Option (Nat × Nat)) (h : Heap) (R : Bool → Bool → Heap → Prop) : Prop :=
 ∃ (I0 : Bool → Heap → Prop), (NilC a0 fun b1 b2 => ∃ i3, cellsAt h b1 (b2 + 0) [.int .i64 i3] ∧ Br (decide (i3 < 1)) (I0 true h) (NilC a0 fun b4 b5 => ∃ i6, cellsAt h b4 (b5 + 1) [.int .i64 i6] ∧ I0
 (i6 == 0) h)) ∧ ∀ c7 h8, I0 c7 h8 → Br c7 (R false false h8) (NilC a0 fun b9 b10 => ∃ i11, cellsAt h8 b9 (b10 + 2) [.int .i64 i11] ∧ NilC a0 fun b12 b13 => StC h8 b12 (b13 + 2) [.int .i64 (IntKind.wrap
 .i64 (i11 + 1))] fun h14 => NilC a0 fun b15 b16 => ∃ i17, cellsAt h14 b15 (b16 + 2) [.int .i64 i17] ∧ NilC a0 fun b18 b19 => ∃ i20, cellsAt h14 b18 (b19 + 0) [.int .i64 i20] ∧ Br (decide (IntKind.wrap
 .i64 (i17 - i20) ≥ 0)) (NilC a0 fun b21 b22 => ∃ i23, cellsAt h14 b21 (b22 + 1) [.int .i64 i23] ∧ Br (decide (i23 < 0)) (R true (IntKind.wrap .i64 (i17 - i20) == 0) h14) (NilC a0 fun b24 b25 => ∃ i26,
 cellsAt h14 b24 (b25 + 1) [.int .i64 i26] ∧ R (decide (IntKind.wrap .i64 (i17 - i20) < i26)) (IntKind.wrap .i64 (i17 - i20) == 0) h14)) (R false (IntKind.wrap .i64 (i17 - i20) == 0) h14))
theorem ok113 {a0 : Option (Nat × Nat)} {h : Heap} {R : Bool → Bool → Heap → Prop} (hv : vc113 a0 h R) : Call Proofs.Tryz.prog 113 [.lf (.ptr a0)] h [.one .bool, .one .bool] R := call_eq (pl := pl113) hng hmix Proofs.Tryz.func113 (by kernel_rfl) hv
def pl55 : Plan := {
  blk := fun _ => none
  seq := fun _ => none
  loop := fun _ => none
  live := fun | 0 => some [0] | 1 => some [0,4,5] | 2 => some [4,5,6,7] | 3 => some [4,5,7,22] | 4 => some [2,3] | 5 => some [5,25] | 6 => some [2,3] | 7 => some [2,3] | _ => none
  track := fun | _ => false
  draw := fun | _ => .done
  iter := fun | _ => none }
def vc55 (a0 : Option (Nat × Nat)) (h : Heap) (R : Int → Bool → Heap → Prop) : Prop :=
 NilC a0 fun b0 b1 => Call Proofs.Tryz.prog 113 [.lf (.ptr (some (b0, b1 + 2)))] h [.one .bool, .one .bool] fun (c2 c3 : Bool) h4 => NilC a0 fun b5 b6 => Call Proofs.Tryz.prog 113 [.lf (.ptr (some (b5,
 b6 + 5)))] h4 [.one .bool, .one .bool] fun (c7 c8 : Bool) h9 => Br c7 (R 22 c8 h9) (Br c2 (R 21 c3 h9) (R 0 false h9))
theorem ok55 {a0 : Option (Nat × Nat)} {h : Heap} {R : Int → Bool → Heap → Prop} (hv : vc55 a0 h R) : Call Proofs.Tryz.prog 55 [.lf (.ptr a0)] h [.one (.int .i64), .one .bool] R := call_eq (pl := pl55) hng hmix Proofs.Tryz.func55 (by kernel_rfl) hv
def pl180 : Plan := {
  blk := fun _ => none
  seq := fun _ => none
  loop := fun _ => none
  live := fun | 0 => some [0] | 1 => some [2] | _ => none
  track := fun | _ => false
  draw := fun | _ => .done
  iter := fun | _ => none }
def vc180 (a0 : Int) (h : Heap) (R : Bool → Heap → Prop) : Prop :=
 Br (decide (a0 < 33)) (R true h) (Br (decide (a0 > 126)) (R true h) (R (a0 == 47) h))
theorem ok180 {a0 : Int} {h : Heap} {R : Bool → Heap → Prop} (hv : vc180 a0 h R) : Call Proofs.Tryz.prog 180 [.lf (.int .i32 a0)] h [.one .bool] R := call_eq (pl := pl180) hng hmix Proofs.Tryz.func180 (by kernel_rfl) hv
def pl102 : Plan := {
  blk := fun _ => none
  seq := fun _ => none
  loop := fun _ => none
  live := fun | 0 => some [0] | 1 => some [2] | _ => none
  track := fun | _ => false
  draw := fun | _ => .done
  iter := fun | _ => none }
def vc102 (a0 : ByteArray) (h : Heap) (R : Bool → Heap → Prop) : Prop :=
 Br (decide ((↑(ByteArray.size a0) : Int) ≥ 1)) (Br (decide ((↑(ByteArray.size a0) : Int) ≤ 32)) (Call Proofs.Tryz.prog 179 [.lf (.str a0), .lf (.raw (Value.func (Fn.func 180) #[] #[]))] h [.one (.int
 .i64)] fun (i0 : Int) h1 => R (decide (i0 < 0)) h1) (R false h)) (R false h)
theorem ok102 {a0 : ByteArray} {h : Heap} {R : Bool → Heap → Prop} (hv : vc102 a0 h R) : Call Proofs.Tryz.prog 102 [.lf (.str a0)] h [.one .bool] R := call_eq (pl := pl102) hng hmix Proofs.Tryz.func102 (by kernel_rfl) hv
def pl212 : Plan := {
  blk := fun _ => none
  seq := fun _ => none
  loop := fun | 2 => some ⟨[], [], []⟩ | _ => none
  live := fun | 0 => some [0,1,2] | 1 => some [1,2,10] | 2 => some [1,2,10,11,12] | 3 => some [1,2,7,8,10] | 4 => some [1,2,7,10,19] | 5 => some [6] | 6 => some [6] | _ => none
  track := fun | _ => false
  draw := fun | _ => .done
  iter := fun | 10 => some 9 | _ => none }
def vc212 (a0 : ByteArray) (a1 : Value) (a2 : Bool) (h : Heap) (R : Int → Heap → Prop) : Prop :=
 RngS h a0 fun b0 h1 => ∃ (I2 : Heap → Nat → Prop), (∃ b3, I2 h1 b3) ∧ ∀ h4 b5, I2 h4 b5 → NextS h4 b0 (fun h6 => R (-1 : Int) h6) fun (i7 i8 : Int) h9 => CallV Proofs.Tryz.prog a1 [.lf (.int .i32 i8)]
 h9 [.one .bool] fun (c10 : Bool) h11 => Br (c10 == a2) (R i7 h11) (∃ b12, b12 < b5 ∧ I2 h11 b12)
theorem ok212 {a0 : ByteArray} {a1 : Value} {a2 : Bool} {h : Heap} {R : Int → Heap → Prop} (hv : vc212 a0 a1 a2 h R) : Call Proofs.Tryz.prog 212 [.lf (.str a0), .lf (.raw a1), .lf (.bool a2)] h [.one (.int .i64)] R := call_eq (pl := pl212) hng hmix Proofs.Tryz.func212 (by kernel_rfl) hv
def pl179 : Plan := {
  blk := fun _ => none
  seq := fun _ => none
  loop := fun _ => none
  live := fun | 0 => some [0,1] | 1 => some [4] | _ => none
  track := fun | _ => false
  draw := fun | _ => .done
  iter := fun | _ => none }
def vc179 (a0 : ByteArray) (a1 : Value) (h : Heap) (R : Int → Heap → Prop) : Prop :=
 Call Proofs.Tryz.prog 212 [.lf (.str a0), .lf (.raw a1), .lf (.bool true)] h [.one (.int .i64)] fun (i0 : Int) h1 => R i0 h1
theorem ok179 {a0 : ByteArray} {a1 : Value} {h : Heap} {R : Int → Heap → Prop} (hv : vc179 a0 a1 h R) : Call Proofs.Tryz.prog 179 [.lf (.str a0), .lf (.raw a1)] h [.one (.int .i64)] R := call_eq (pl := pl179) hng hmix Proofs.Tryz.func179 (by kernel_rfl) hv
def pl103 : Plan := {
  blk := fun _ => none
  seq := fun _ => none
  loop := fun _ => none
  live := fun | 0 => some [0,1] | 1 => some [0,7,8,9] | 2 => some [0,7,8,29] | 3 => some [4,5,6] | 4 => some [8,10,11] | 5 => some [8,10,40] | 6 => some [4,5,6] | 7 => some [4,5,6] | _ => none
  track := fun | _ => false
  draw := fun | _ => .done
  iter := fun | _ => none }
def vc103 (a0 : Option (Nat × Nat)) (a1 : ByteArray) (h : Heap) (R : Option (Nat × Nat) → ByteArray → Int → Heap → Prop) : Prop :=
 Call Proofs.Tryz.prog 181 [.lf (.str a1), .lf (.str (ByteArray.mk #[47]))] h [.one .str, .one .str, .one .bool] fun (t0 t1 : ByteArray) (c2 : Bool) h3 => Br (!c2) (R none (ByteArray.mk #[]) 1 h3) (Call
 Proofs.Tryz.prog 102 [.lf (.str t0)] h3 [.one .bool] fun (c4 : Bool) h5 => Br (!c4) (R none (ByteArray.mk #[]) 1 h5) (Call Proofs.Tryz.prog 102 [.lf (.str t1)] h5 [.one .bool] fun (c6 : Bool) h7 => Br
 (!c6) (R none (ByteArray.mk #[]) 1 h7) (NilC a0 fun b8 b9 => ∃ (p10 : Option Nat), cellsAt h7 b8 (b9 + 1) [.map p10] ∧ ∃ (p11 : Option (Nat × Nat)), ∃ c12, LookR h7 .str (.one .ptr) [.ptr none] p10 t0
 [.ptr p11] c12 ∧ Br (!c12) (R none (ByteArray.mk #[]) 6 h7) (R p11 t1 0 h7))))
theorem ok103 {a0 : Option (Nat × Nat)} {a1 : ByteArray} {h : Heap} {R : Option (Nat × Nat) → ByteArray → Int → Heap → Prop} (hv : vc103 a0 a1 h R) : Call Proofs.Tryz.prog 103 [.lf (.ptr a0), .lf (.str a1)] h [.one .ptr, .one .str, .one (.int .i64)] R := call_eq (pl := pl103) hng hmix Proofs.Tryz.func103 (by kernel_rfl) hv
def pl53 : Plan := {
  blk := fun _ => none
  seq := fun _ => none
  loop := fun _ => none
  live := fun | 0 => some [0,1] | 1 => some [6,7,8] | 2 => some [6,7,8,19] | 3 => some [4,5] | 4 => some [9,10] | 5 => some [9,31] | 6 => some [4,5] | 7 => some [4,5] | _ => none
  track := fun | _ => false
  draw := fun | _ => .done
  iter := fun | _ => none }
def vc53 (a0 : Option (Nat × Nat)) (a1 : ByteArray) (h : Heap) (R : Option (Nat × Nat) → Int → Heap → Prop) : Prop :=
 Call Proofs.Tryz.prog 103 [.lf (.ptr a0), .lf (.str a1)] h [.one .ptr, .one .str, .one (.int .i64)] fun (p0 : Option (Nat × Nat)) (t1 : ByteArray) (i2 : Int) h3 => Br (i2 != 0) (R none i2 h3) (NilC p0
 fun b4 b5 => ∃ (p6 : Option Nat), cellsAt h3 b4 (b5 + 0) [.map p6] ∧ ∃ (p7 : Option (Nat × Nat)), ∃ c8, LookR h3 .str (.one .ptr) [.ptr none] p6 t1 [.ptr p7] c8 ∧ Br (!c8) (R none 6 h3) (R p7 0 h3))
theorem ok53 {a0 : Option (Nat × Nat)} {a1 : ByteArray} {h : Heap} {R : Option (Nat × Nat) → Int → Heap → Prop} (hv : vc53 a0 a1 h R) : Call Proofs.Tryz.prog 53 [.lf (.ptr a0), .lf (.str a1)] h [.one .ptr, .one (.int .i64)] R := call_eq (pl := pl53) hng hmix Proofs.Tryz.func53 (by kernel_rfl) hv
def pl106 : Plan := {
  blk := fun _ => none
  seq := fun _ => none
  loop := fun _ => none
  live := fun | 0 => some [0,1] | 1 => some [0,1,10] | 2 => some [4,5] | 3 => some [6,7] | 4 => some [6,21] | 5 => some [4,5] | 6 => some [4,5] | _ => none
  track := fun | _ => false
  draw := fun | _ => .done
  iter := fun | _ => none }
def vc106 (a0 : Option (Nat × Nat)) (a1 : ByteArray) (h : Heap) (R : Option (Nat × Nat) → Int → Heap → Prop) : Prop :=
 Call Proofs.Tryz.prog 102 [.lf (.str a1)] h [.one .bool] fun (c0 : Bool) h1 => Br (!c0) (R none 1 h1) (NilC a0 fun b2 b3 => ∃ (p4 : Option Nat), cellsAt h1 b2 (b3 + 1) [.map p4] ∧ ∃ (p5 : Option (Nat ×
 Nat)), ∃ c6, LookR h1 .str (.one .ptr) [.ptr none] p4 a1 [.ptr p5] c6 ∧ Br (!c6) (R none 6 h1) (R p5 0 h1))
theorem ok106 {a0 : Option (Nat × Nat)} {a1 : ByteArray} {h : Heap} {R : Option (Nat × Nat) → Int → Heap → Prop} (hv : vc106 a0 a1 h R) : Call Proofs.Tryz.prog 106 [.lf (.ptr a0), .lf (.str a1)] h [.one .ptr, .one (.int .i64)] R := call_eq (pl := pl106) hng hmix Proofs.Tryz.func106 (by kernel_rfl) hv
def pl43 : Plan := {
  blk := fun _ => none
  seq := fun _ => none
  loop := fun _ => none
  live := fun | 0 => some [] | _ => none
  track := fun | _ => false
  draw := fun | _ => .done
  iter := fun | _ => none }
def vc43 (a0 : Option (Nat × Nat)) (a1 : Int) (h : Heap) (R : Heap → Prop) : Prop :=
 NilC a0 fun b0 b1 => StC h b0 (b1 + 5) [.int .i64 a1, .int .i64 (-1 : Int), .int .i64 0] fun h2 => R h2
theorem ok43 {a0 : Option (Nat × Nat)} {a1 : Int} {h : Heap} {R : Heap → Prop} (hv : vc43 a0 a1 h R) : Call Proofs.Tryz.prog 43 [.lf (.ptr a0), .lf (.int .i64 a1)] h [] R := call_eq (pl := pl43) hng hmix Proofs.Tryz.func43 (by kernel_rfl) hv
end Go.V.YtdeihieblljfcaaGreat
namespace Go.V.YtdeihieblljfcaaGreat
open Go Go.V
def pl104 : Plan := {
  blk := fun _ => none
  seq := fun _ => none
  loop := fun _ => none
  live := fun | 0 => some [0,1] | 1 => some [0,1] | 2 => some [] | _ => none
  track := fun | _ => false
  draw := fun | 0 => .still 0 (.still 1 (.still 2 (.still 3 (.still 4 (.still 5 (.still 6 (.still 7 (.still 8 (.mem 9 (.mem 10 (.still 11 (.still 12 (.mem 13 (.done)))))))))))))) | _ => .done
  iter := fun | _ => none }
def vc104 (a0 : Option (Nat × Nat)) (a1 : Value) (h : Heap) (R : Heap → Prop) : Prop :=
 NilC a0 fun b0 b1 => ∃ s2, cellsAt h b0 (b1 + 1) [.slc s2] ∧ NilC a0 fun b3 b4 => ∃ (p5 : Option Nat), cellsAt h b3 (b4 + 0) [.map p5] ∧ New 113 [.map p5] h fun b6 h7 => cellsAt h7 b0 (b1 + 1) [.slc
 s2] ∧ AppC 113 [.map none] 1 8 s2 (Slc.mk (some (b6, 0)) 1 1) h7 fun (s8 : Slc) h9 => NilC a0 fun b10 b11 => StC h9 b10 (b11 + 1) [.slc s8] fun h12 => NilC a0 fun b13 b14 => ∃ (p15 : Option Nat),
 cellsAt h12 b13 (b14 + 0) [.map p15] ∧ Call Proofs.Tryz.prog 182 [.lf (.map p15)] h12 [.one .map] fun (p16 : Option Nat) h17 => NilC a0 fun b18 b19 => StC h17 b18 (b19 + 0) [.map p16] fun h20 => NilC
 a0 fun b21 b22 => ∃ (p23 : Option Nat), cellsAt h20 b21 (b22 + 0) [.map p23] ∧ CallV Proofs.Tryz.prog a1 [.lf (.map p23)] h20 [] fun h24 => R h24
theorem ok104 {a0 : Option (Nat × Nat)} {a1 : Value} {h : Heap} {R : Heap → Prop} (hv : vc104 a0 a1 h R) : Call Proofs.Tryz.prog 104 [.lf (.ptr a0), .lf (.raw a1)] h [] R := call_eq (pl := pl104) hng hmix Proofs.Tryz.func104 (by kernel_rfl) hv
def pl105 : Plan := {
  blk := fun _ => none
  seq := fun _ => none
  loop := fun _ => none
  live := fun | 0 => some [] | _ => none
  track := fun | _ => false
  draw := fun | _ => .done
  iter := fun | _ => none }
def vc105 (a0 : Option Nat) (f0 : Nat) (o0 : Nat) (h : Heap) (R : Heap → Prop) : Prop :=
 ∃ (t0 : ByteArray), cellsAt h f0 o0 [.str t0] ∧ New 102 [.slc (Slc.mk none 0 0), .slc (Slc.mk none 0 0), .slc (Slc.mk none 0 0)] h fun b1 h2 => UpdC .str (.one .ptr) h2 a0 t0 [.ptr (some (b1, 0))] fun
 h3 => R h3
theorem ok105 {a0 : Option Nat} {f0 : Nat} {o0 : Nat} {h : Heap} {R : Heap → Prop} (hv : vc105 a0 f0 o0 h R) : Call Proofs.Tryz.prog 105 [.lf (.map a0), .lf (.ptr (some (f0, o0)))] h [] R := call_eq (pl := pl105) hng hmix Proofs.Tryz.func105 (by kernel_rfl) hv
def pl37 : Plan := {
  blk := fun _ => none
  seq := fun _ => none
  loop := fun _ => none
  live := fun | 0 => some [0,1] | 1 => some [0,1,11] | 2 => some [4] | 3 => some [0,1,6] | 4 => some [0,1,21] | 5 => some [4] | 6 => some [0,1,27] | 7 => some [4] | 8 => some [0,1,7] | 9 => some [0,1,7,34] | 10 => some [4] | 11 => some [] | 12 => some [4] | _ => none
  track := fun | _ => false
  draw := fun | _ => .done
  iter := fun | _ => none }
def vc37 (a0 : Option (Nat × Nat)) (a1 : ByteArray) (h : Heap) (R : Int → Heap → Prop) : Prop :=
 Call Proofs.Tryz.prog 102 [.lf (.str a1)] h [.one .bool] fun (c0 : Bool) h1 => Br (!c0) (R 1 h1) (NilC a0 fun b2 b3 => ∃ (p4 : Option Nat), cellsAt h1 b2 (b3 + 1) [.map p4] ∧ ∃ (p5 : Option (Nat ×
 Nat)), ∃ c6, LookR h1 .str (.one .ptr) [.ptr none] p4 a1 [.ptr p5] c6 ∧ Br c6 (R 7 h1) (NilC a0 fun b7 b8 => ∃ (p9 : Option Nat), cellsAt h1 b7 (b8 + 1) [.map p9] ∧ ∃ i10, LenR h1 p9 i10 ∧ Br (decide
 (i10 ≥ 64)) (R 2 h1) (Call Proofs.Tryz.prog 55 [.lf (.ptr a0)] h1 [.one (.int .i64), .one .bool] fun (i11 : Int) (c12 : Bool) h13 => Br (i11 != 0) (R i11 h13) (NilC a0 fun b14 b15 => ∃ (p16 : Option
 Nat), cellsAt h13 b14 (b15 + 1) [.map p16] ∧ NewM h13 fun b17 h18 => New 116 [.map (some b17), .slc (Slc.mk none 0 0)] h18 fun b19 h20 => UpdC .str (.one .ptr) h20 p16 a1 [.ptr (some (b19, 0))] fun h21
 => R 0 h21))))
theorem ok37 {a0 : Option (Nat × Nat)} {a1 : ByteArray} {h : Heap} {R : Int → Heap → Prop} (hv : vc37 a0 a1 h R) : Call Proofs.Tryz.prog 37 [.lf (.ptr a0), .lf (.str a1)] h [.one (.int .i64)] R := call_eq (pl := pl37) hng hmix Proofs.Tryz.func37 (by kernel_rfl) hv
def pl38 : Plan := {
  blk := fun _ => none
  seq := fun _ => none
  loop := fun _ => none
  live := fun | 0 => some [0,1] | 1 => some [0,5,6,7] | 2 => some [0,5,6,7,20] | 3 => some [4] | 4 => some [0,5,6,9] | 5 => some [0,5,6,31] | 6 => some [4] | 7 => some [0,5,6,37] | 8 => some [4] | 9 => some [5,6,10] | 10 => some [5,6,10,44] | 11 => some [4] | 12 => some [] | 13 => some [4] | _ => none
  track := fun | _ => false
  draw := fun | 4 => .still 0 (.still 1 (.still 2 (.still 3 (.still 4 (.still 5 (.still 6 (.still 7 (.still 8 (.still 9 (.still 10 (.done))))))))))) | _ => .done
  iter := fun | _ => none }
def vc38 (a0 : Option (Nat × Nat)) (a1 : ByteArray) (h : Heap) (R : Int → Heap → Prop) : Prop :=
 Call Proofs.Tryz.prog 103 [.lf (.ptr a0), .lf (.str a1)] h [.one .ptr, .one .str, .one (.int .i64)] fun (p0 : Option (Nat × Nat)) (t1 : ByteArray) (i2 : Int) h3 => New 9 [.str (ByteArray.mk #[])] h3
 fun b4 h5 => StC h5 b4 0 [.str t1] fun h6 => Br (i2 != 0) (R i2 h6) (NilC p0 fun b7 b8 => ∃ (p9 : Option Nat), cellsAt h6 b7 (b8 + 0) [.map p9] ∧ ∃ (t10 : ByteArray), cellsAt h6 b4 0 [.str t10] ∧ ∃
 (p11 : Option (Nat × Nat)), ∃ c12, LookR h6 .str (.one .ptr) [.ptr none] p9 t10 [.ptr p11] c12 ∧ Br c12 (R 7 h6) (NilC p0 fun b13 b14 => ∃ (p15 : Option Nat), cellsAt h6 b13 (b14 + 0) [.map p15] ∧ ∃
 i16, LenR h6 p15 i16 ∧ Br (decide (i16 ≥ 1024)) (R 2 h6) (Call Proofs.Tryz.prog 55 [.lf (.ptr a0)] h6 [.one (.int .i64), .one .bool] fun (i17 : Int) (c18 : Bool) h19 => Br (i17 != 0) (R i17 h19) (Call
 Proofs.Tryz.prog 104 [.lf (.ptr p0), .lf (.raw (Value.func (Fn.func 105) #[] #[Value.pointer (some (Addr.mk b4 0 none))]))] h19 [] fun h20 => R 0 h20))))
theorem ok38 {a0 : Option (Nat × Nat)} {a1 : ByteArray} {h : Heap} {R : Int → Heap → Prop} (hv : vc38 a0 a1 h R) : Call Proofs.Tryz.prog 38 [.lf (.ptr a0), .lf (.str a1)] h [.one (.int .i64)] R := call_eq (pl := pl38) hng hmix Proofs.Tryz.func38 (by kernel_rfl) hv
def pl15 : Plan := {
  blk := fun _ => none
  seq := fun _ => none
  loop := fun _ => none
  live := fun | 0 => some [0,1,2] | 1 => some [0,2,7,8] | 2 => some [0,2,7,8,16] | 3 => some [6] | 4 => some [6] | _ => none
  track := fun | _ => false
  draw := fun | _ => .done
  iter := fun | _ => none }
def vc15 (a0 : Option (Nat × Nat)) (a1 : ByteArray) (a2 : Slc) (h : Heap) (R : Int → Heap → Prop) : Prop :=
 Call Proofs.Tryz.prog 53 [.lf (.ptr a0), .lf (.str a1)] h [.one .ptr, .one (.int .i64)] fun (p0 : Option (Nat × Nat)) (i1 : Int) h2 => Br (i1 != 0) (R i1 h2) (NilC p0 fun b3 b4 => ∃ s5, cellsAt h2 b3
 (b4 + 2) [.slc s5] ∧ Call Proofs.Tryz.prog 54 [.lf (.ptr a0), .lf (.ptr p0), .lf (.int .i64 (↑(Slc.len s5) : Int)), .lf (.slc a2)] h2 [.one (.int .i64)] fun (i6 : Int) h7 => R i6 h7)
theorem ok15 {a0 : Option (Nat × Nat)} {a1 : ByteArray} {a2 : Slc} {h : Heap} {R : Int → Heap → Prop} (hv : vc15 a0 a1 a2 h R) : Call Proofs.Tryz.prog 15 [.lf (.ptr a0), .lf (.str a1), .lf (.slc a2)] h [.one (.int .i64)] R := call_eq (pl := pl15) hng hmix Proofs.Tryz.func15 (by kernel_rfl) hv
def pl54 : Plan := {
  blk := fun _ => none
  seq := fun | 2 => some ⟨[(23, .one .bool)], [], []⟩ | 5 => some ⟨[(46, .one .bool)], [], []⟩ | 9 => some ⟨[(3, .one .slc)], [], []⟩ | 10 => some ⟨[(67, .one .bool)], [], []⟩ | 13 => some ⟨[], [], []⟩ | _ => none
  loop := fun _ => none
  live := fun | 0 => some [0,1,2,3] | 1 => some [0,1,2,3,23] | 2 => some [8] | 3 => some [0,1,2,3,9] | 4 => some [0,1,2,3,46] | 5 => some [8] | 6 => some [1,2,3,10,11] | 7 => some [1,2,3,10,11,52] | 8 => some [1,2,3,10,11] | 9 => some [1,2,3,10,67] | 10 => some [1,10,12] | 11 => some [1,10,12] | 12 => some [10] | 13 => some [8] | _ => none
  track := fun | 12 => true | _ => false
  draw := fun | 4 => .still 0 (.still 1 (.still 2 (.still 3 (.still 5 (.still 7 (.still 8 (.still 9 (.still 10 (.mem 4 (.still 6 (.still 11 (.still 12 (.done))))))))))))) | 11 => .still 0 (.still 1 (.still 2 (.still 3 (.still 4 (.still 5 (.mem 6 (.mem 7 (.still 8 (.still 9 (.mem 10 (.done))))))))))) | 12 => .still 0 (.still 1 (.still 2 (.still 3 (.still 4 (.still 5 (.mem 6 (.still 7 (.still 8 (.mem 9 (.done)))))))))) | _ => .done
  iter := fun | _ => none }
def vc54 (a0 : Option (Nat × Nat)) (a1 : Option (Nat × Nat)) (a2 : Int) (a3 : Slc) (h : Heap) (R : Int → Heap → Prop) : Prop :=
 ∃ (I0 : Bool → Heap → Prop),
 Br (Decidable.decide (a2 < (0 : Int))) (I0 Bool.true h)
 (NilC a1 fun (b1 b2 : Nat) => ∃ (s3 : Slc), cellsAt h b1 (b2 + 2) [Lf.slc s3] ∧ I0 (Decidable.decide (a2 > (↑(Slc.len s3) : Int))) h) ∧
 ∀ (c4 : Bool) (h5 : Heap),
 I0 c4 h5 →
 Br c4 (R (1 : Int) h5)
 (NilC a1 fun (b6 b7 : Nat) =>
 ∃ (s8 : Slc),
 cellsAt h5 b6 (b7 + 2) [Lf.slc s8] ∧
 ∃ (I9 : Bool → Heap → Prop),
 Br (Decidable.decide (IntKind.wrap IntKind.i64 (IntKind.wrap IntKind.i64 (a2 + (↑(Slc.len a3) : Int)) - (↑(Slc.len s8) : Int)) > (0 : Int)))
 (NilC a0 fun (b10 b11 : Nat) =>
 ∃ (i12 : Int),
 cellsAt h5 b10 (b11 + 0) [Lf.int IntKind.i64 i12] ∧
 Call Proofs.Tryz.prog 112 [VV.lf (Lf.ptr a0)] h5 [VT.one (LT.int IntKind.i64)] fun (i13 : Int) (h14 : Heap) =>
 cellsAt h14 b10 (b11 + 0) [Lf.int IntKind.i64 i12] ∧
 I9
 (Decidable.decide
 (IntKind.wrap IntKind.i64
 (i13 + IntKind.wrap IntKind.i64 (IntKind.wrap IntKind.i64 (a2 + (↑(Slc.len a3) : Int)) - (↑(Slc.len s8) : Int))) >
 i12))
 h14)
 (I9 Bool.false h5) ∧
 ∀ (c15 : Bool) (h16 : Heap),
 I9 c15 h16 →
 Br c15 (R (20 : Int) h16)
 (Call Proofs.Tryz.prog 55 [VV.lf (Lf.ptr a0)] h16 [VT.one (LT.int IntKind.i64), VT.one LT.bool]
 fun (i17 : Int) (c18 : Bool) (h19 : Heap) =>
 ∃ (I20 : Slc → Heap → Prop),
 Br c18
 (((2 : Int) = (0 : Int) → False) ∧
 (0 : Int) ≤ IntKind.wrap IntKind.i64 (Int.tdiv (↑(Slc.len a3) : Int) (2 : Int)) ∧
 IntKind.wrap IntKind.i64 (Int.tdiv (↑(Slc.len a3) : Int) (2 : Int)) ≤ (↑(Slc.cap a3) : Int) ∧
 I20 (Slc.sub a3 1 0 (Int.toNat (IntKind.wrap IntKind.i64 (Int.tdiv (↑(Slc.len a3) : Int) (2 : Int)))) (Slc.cap a3)) h19)
 (I20 a3 h19) ∧
 ∀ (s21 : Slc) (h22 : Heap),
 I20 s21 h22 →
 ∃ (I23 : Heap → Prop),
 (∃ (I24 : Bool → Heap → Prop),
 Br (i17 == (0 : Int)) (I24 (Decidable.decide ((↑(Slc.len s21) : Int) > (0 : Int))) h22)
 (Br c18 (I24 (Decidable.decide ((↑(Slc.len s21) : Int) > (0 : Int))) h22) (I24 Bool.false h22)) ∧
 ∀ (c25 : Bool) (h26 : Heap),
 I24 c25 h26 →
 Br c25
 (Call Proofs.Tryz.prog 47 [VV.lf (Lf.slc s21)] h26 [VT.one LT.slc] fun (s27 : Slc) (h28 : Heap) =>
 New 139 [Lf.int IntKind.i64 (0 : Int), Lf.slc (Slc.mk Option.none 0 0)] h28
 fun (b29 : Nat) (h30 : Heap) =>
 Set b29 139 [Lf.int IntKind.i64 a2, Lf.slc s27] h30 fun (h31 : Heap) =>
 NilC a1 fun (b32 b33 : Nat) =>
 ∃ (s34 : Slc),
 cellsAt h31 b32 (b33 + 1) [Lf.slc s34] ∧
 New 139 [Lf.int IntKind.i64 a2, Lf.slc s27] h31 fun (b35 : Nat) (h36 : Heap) =>
 cellsAt h36 b32 (b33 + 1) [Lf.slc s34] ∧
 AppC 139 [Lf.int IntKind.i64 (0 : Int), Lf.slc (Slc.mk Option.none 0 0)] 2
 32 s34 (Slc.mk (Option.some (b35, 0)) 1 1) h36 fun (s37 : Slc) (h38 : Heap) =>
 keepB h36 h38 [b29] ∧
 NilC a1 fun (b39 b40 : Nat) =>
 StC h38 b39 (b40 + 1) [Lf.slc s37] fun (h41 : Heap) =>
 keepB h38 h41 [b29] ∧
 NilC a1 fun (b42 b43 : Nat) =>
 ∃ (s44 : Slc),
 cellsAt h41 b42 (b43 + 2) [Lf.slc s44] ∧
 Call Proofs.Tryz.prog 111
 [VV.agg [Lf.int IntKind.i64 a2, Lf.slc s27], VV.lf (Lf.slc s44)] h41
 [VT.one LT.slc] fun (s45 : Slc) (h46 : Heap) =>
 keepB h41 h46 [b29] ∧
 NilC a1 fun (b47 b48 : Nat) =>
 StC h46 b47 (b48 + 2) [Lf.slc s45] fun (h49 : Heap) =>
 keepB h46 h49 [b29] ∧ I23 h49)
 (I23 h26)) ∧
 ∀ (h50 : Heap), I23 h50 → R i17 h50))
theorem ok54 {a0 : Option (Nat × Nat)} {a1 : Option (Nat × Nat)} {a2 : Int} {a3 : Slc} {h : Heap} {R : Int → Heap → Prop} (hv : vc54 a0 a1 a2 a3 h R) : Call Proofs.Tryz.prog 54 [.lf (.ptr a0), .lf (.ptr a1), .lf (.int .i64 a2), .lf (.slc a3)] h [.one (.int .i64)] R := call_eq (pl := pl54) hng hmix Proofs.Tryz.func54 (by kernel_rfl) hv
def pl48 : Plan := {
  blk := fun _ => none
  seq := fun _ => none
  loop := fun | 3 => some ⟨[(3, .one (.int .i64)), (11, .one (.int .i64))], [], []⟩ | _ => none
  live := fun | 0 => some [0] | 1 => some [0,3] | 2 => some [3,9,10,11] | 3 => some [3,9,10,11,12] | 4 => some [3,5,9,10,11] | 5 => some [3,9,10,11] | 6 => some [3,9,10,11] | 7 => some [2] | _ => none
  track := fun | 5 => true | _ => false
  draw := fun | _ => .done
  iter := fun | _ => none }
def vc48 (a0 : Option (Nat × Nat)) (h : Heap) (R : Int → Heap → Prop) : Prop :=
 NilC a0 fun b0 b1 => ∃ s2, cellsAt h b0 (b1 + 1) [.slc s2] ∧ ∃ (I3 : Int → Int → Heap → Nat → Prop), (∃ b4, I3 0 0 h b4) ∧ ∀ i5 i6 h7 b8, I3 i5 i6 h7 b8 → Br (decide (i6 < (↑(Slc.len s2) : Int))) (IxC
 s2 i6 2 fun b9 b10 => ∃ i11, ∃ s12, cellsAt h7 b9 b10 [.int .i64 i11, .slc s12] ∧ New 139 [.int .i64 0, .slc (Slc.mk none 0 0)] h7 fun b13 h14 => Set b13 139 [.int .i64 i11, .slc s12] h14 fun h15 => ∃
 b16, b16 < b8 ∧ I3 (IntKind.wrap .i64 (i5 + (↑(Slc.len s12) : Int))) (IntKind.wrap .i64 (i6 + 1)) h15 b16) (R i5 h7)
theorem ok48 {a0 : Option (Nat × Nat)} {h : Heap} {R : Int → Heap → Prop} (hv : vc48 a0 h R) : Call Proofs.Tryz.prog 48 [.lf (.ptr a0)] h [.one (.int .i64)] R := call_eq (pl := pl48) hng hmix Proofs.Tryz.func48 (by kernel_rfl) hv
def pl52 : Plan := {
  blk := fun | 1 => some ⟨[(1, .one (.int .i64)), (4, .one .slc)], [], []⟩ | _ => none
  seq := fun _ => none
  loop := fun | 2 => some ⟨[(1, .one (.int .i64)), (4, .one .slc), (17, .one (.int .i64))], [], []⟩ | _ => none
  live := fun | 0 => some [0,1,4] | 1 => some [0,1,4,15,16,17] | 2 => some [0,1,4,15,16,17,18] | 3 => some [0,1,4,6,15,16,17] | 4 => some [0,1,4,6,7,15,16,17] | 5 => some [0,1,4,6,7,15,16,17,27] | 6 => some [0,1,4,7,15,16,17] | 7 => some [0,1,4,15,16,17] | 8 => some [0,1,4,15,16,17] | 9 => some [] | _ => none
  track := fun | 6 => true | _ => false
  draw := fun | 6 => .still 0 (.still 1 (.still 2 (.still 3 (.still 4 (.still 5 (.still 6 (.still 7 (.mem 8 (.still 9 (.done)))))))))) | _ => .done
  iter := fun | _ => none }
def vc52 (a0 : Option (Nat × Nat)) (a1 : Int) (h : Heap) (R : Heap → Prop) : Prop :=
 NilC a0 fun b0 b1 => ∃ s2, cellsAt h b0 (b1 + 0) [.slc s2] ∧ NilC a0 fun b3 b4 => ∃ s5, cellsAt h b3 (b4 + 1) [.slc s5] ∧ ∃ (I6 : Int → Slc → Int → Heap → Nat → Prop), (∃ b7, I6 a1 s2 0 h b7) ∧ ∀ i8 s9
 i10 h11 b12, I6 i8 s9 i10 h11 b12 → Br (decide (i10 < (↑(Slc.len s5) : Int))) (∃ (I13 : Int → Slc → Heap → Prop), (IxC s5 i10 2 fun b14 b15 => ∃ i16, ∃ s17, cellsAt h11 b14 b15 [.int .i64 i16, .slc
 s17] ∧ New 139 [.int .i64 0, .slc (Slc.mk none 0 0)] h11 fun b18 h19 => Set b18 139 [.int .i64 i16, .slc s17] h19 fun h20 => Br (decide ((if (↑(Slc.len s17) : Int) < i8 then (↑(Slc.len s17) : Int) else
 i8) > 0)) ((0 ≤ if (↑(Slc.len s17) : Int) < i8 then (↑(Slc.len s17) : Int) else i8) ∧ (if (↑(Slc.len s17) : Int) < i8 then (↑(Slc.len s17) : Int) else i8) ≤ (↑(Slc.cap s17) : Int) ∧ Call
 Proofs.Tryz.prog 111 [.agg [.int .i64 i16, .slc (Slc.sub s17 1 0 (Int.toNat (if (↑(Slc.len s17) : Int) < i8 then (↑(Slc.len s17) : Int) else i8)) (Slc.cap s17))], .lf (.slc s9)] h20 [.one .slc] fun
 (s21 : Slc) h22 => keepB h20 h22 [b18] ∧ I13 (IntKind.wrap .i64 (i8 - if (↑(Slc.len s17) : Int) < i8 then (↑(Slc.len s17) : Int) else i8)) s21 h22) (I13 (IntKind.wrap .i64 (i8 - if (↑(Slc.len s17) :
 Int) < i8 then (↑(Slc.len s17) : Int) else i8)) s9 h20)) ∧ ∀ i23 s24 h25, I13 i23 s24 h25 → ∃ b26, b26 < b12 ∧ I6 i23 s24 (IntKind.wrap .i64 (i10 + 1)) h25 b26) (NilC a0 fun b27 b28 => StC h11 b27 (b28
 + 0) [.slc s9] fun h29 => NilC a0 fun b30 b31 => StC h29 b30 (b31 + 1) [.slc (Slc.mk none 0 0)] fun h32 => NilC a0 fun b33 b34 => StC h32 b33 (b34 + 2) [.slc s9] fun h35 => R h35)
theorem ok52 {a0 : Option (Nat × Nat)} {a1 : Int} {h : Heap} {R : Heap → Prop} (hv : vc52 a0 a1 h R) : Call Proofs.Tryz.prog 52 [.lf (.ptr a0), .lf (.int .i64 a1)] h [] R := call_eq (pl := pl52) hng hmix Proofs.Tryz.func52 (by kernel_rfl) hv
def pl47 : Plan := {
  blk := fun _ => none
  seq := fun _ => none
  loop := fun _ => none
  live := fun | 0 => some [0] | 1 => some [0,4] | 2 => some [2] | 3 => some [2] | _ => none
  track := fun | _ => false
  draw := fun | _ => .done
  iter := fun | _ => none }
def vc47 (a0 : Slc) (h : Heap) (R : Slc → Heap → Prop) : Prop :=
 Br (Option.isNone (Slc.a a0)) (R (Slc.mk none 0 0) h) (New 5 [] h fun b0 h1 => AppC 5 [.int .u8 0] 1 1 (Slc.mk (some (b0, 0)) 0 0) a0 h1 fun (s2 : Slc) h3 => R s2 h3)
theorem ok47 {a0 : Slc} {h : Heap} {R : Slc → Heap → Prop} (hv : vc47 a0 h R) : Call Proofs.Tryz.prog 47 [.lf (.slc a0)] h [.one .slc] R := call_eq (pl := pl47) hng hmix Proofs.Tryz.func47 (by kernel_rfl) hv
def pl111 : Plan := {
  blk := fun _ => none
  seq := fun _ => none
  loop := fun _ => none
  live := fun | 0 => some [1,2] | 1 => some [1,2,5] | 2 => some [1,2,5,15] | 3 => some [1,2] | 4 => some [1,2] | 5 => some [1] | 6 => some [4] | _ => none
  track := fun | 2 => true | _ => false
  draw := fun | 5 => .still 0 (.still 1 (.still 2 (.still 3 (.still 4 (.still 5 (.mem 6 (.done))))))) | _ => .done
  iter := fun | _ => none }
def vc111 (a0 : Int) (a1 : Slc) (a2 : Slc) (h : Heap) (R : Slc → Heap → Prop) : Prop :=
 New 139 [.int .i64 a0, .slc a1] h fun b0 h1 => Br (decide (IntKind.wrap .i64 (a0 + (↑(Slc.len a1) : Int)) > (↑(Slc.len a2) : Int))) (Call Proofs.Tryz.prog 47 [.lf (.slc a2)] h1 [.one .slc] fun (s2 :
 Slc) h3 => keepB h1 h3 [b0] ∧ AppZ 5 [.int .u8 0] 1 1 s2 (IntKind.wrap .i64 (IntKind.wrap .i64 (a0 + (↑(Slc.len a1) : Int)) - (↑(Slc.len a2) : Int))) h3 fun (s4 : Slc) h5 => keepB h3 h5 [b0] ∧ 0 ≤ a0 ∧
 a0 ≤ (↑(Slc.len s4) : Int) ∧ CpyC 1 (Slc.sub s4 1 (Int.toNat a0) (Slc.len s4) (Slc.cap s4)) a1 h5 fun (i6 : Int) h7 => keepB h5 h7 [b0] ∧ R s4 h7) (Call Proofs.Tryz.prog 47 [.lf (.slc a2)] h1 [.one
 .slc] fun (s8 : Slc) h9 => keepB h1 h9 [b0] ∧ 0 ≤ a0 ∧ a0 ≤ (↑(Slc.len s8) : Int) ∧ CpyC 1 (Slc.sub s8 1 (Int.toNat a0) (Slc.len s8) (Slc.cap s8)) a1 h9 fun (i10 : Int) h11 => keepB h9 h11 [b0] ∧ R s8
 h11)
theorem ok111 {a0 : Int} {a1 : Slc} {a2 : Slc} {h : Heap} {R : Slc → Heap → Prop} (hv : vc111 a0 a1 a2 h R) : Call Proofs.Tryz.prog 111 [.agg [.int .i64 a0, .slc a1], .lf (.slc a2)] h [.one .slc] R := call_eq (pl := pl111) hng hmix Proofs.Tryz.func111 (by kernel_rfl) hv
end Go.V.YtdeihieblljfcaaGreat
