/- This text proves a part of the laws of seat YtdeihieblljfcaaGreat, under no condition: F1c F1d. -/
import Derived.Test.YtdeihieblljfcaaGreatKC
import Derived.Eval
import Derived.Test.YtdeihieblljfcaaGreatChecked
import Derived.Test.YtdeihieblljfcaaGreatKE
set_option linter.unusedVariables false
set_option maxRecDepth 100000
namespace Go.V.YtdeihieblljfcaaGreat
open Go Go.V
/- 50: (*sediment.vfs.FS).all (f) -/
def pl50 : Plan := {
  blk := fun _ => none
  seq := fun _ => none
  loop := fun _ => none
  live := fun | 0 => some [0] | 1 => some [2] | _ => none
  track := fun | _ => false
  draw := fun | _ => .done
  iter := fun | _ => none }
def vc50 (a0 : Option (Nat × Nat)) (h : Heap) (R : Slc → Heap → Prop) : Prop :=
 NilC a0 fun (b0 b1 : Nat) =>
 ∃ (p2 : Option Nat),
 cellsAt h b0 (b1 + 1) [Lf.map p2] ∧
 Call Go.Proofs.Tryz.prog 110 [VV.lf (Lf.map p2)] h [VT.one LT.raw] fun (x3 : Value) (h4 : Heap) =>
 Call Go.Proofs.Tryz.prog 107 [VV.lf (Lf.raw x3)] h4 [VT.one LT.slc] fun (s5 : Slc) (h6 : Heap) => R s5 h6
theorem eq50 (a0 : Option (Nat × Nat)) (h : Heap) (R : Slc → Heap → Prop) : vc50 a0 h R = vcFn Go.Proofs.Tryz.prog pl50 Go.Proofs.Tryz.f50 [.lf (.ptr a0)] h [.one .slc] R := by kernel_rfl
theorem ok50 {a0 : Option (Nat × Nat)} {h : Heap} {R : Slc → Heap → Prop} (hv : vc50 a0 h R) : Call Go.Proofs.Tryz.prog 50 [.lf (.ptr a0)] h [.one .slc] R := call_eq hng hmix Go.Proofs.Tryz.func50 (eq50 a0 h R) hv
/- 45: (*sediment.vfs.FS).each (f, does) · loop 2: #15 · loop 6: #32 -/
def pl45 : Plan := {
  blk := fun _ => none
  seq := fun _ => none
  loop := fun | 2 => some ⟨[(15, .one (.int .i64))], [], []⟩ | 6 => some ⟨[(32, .one (.int .i64))], [], []⟩ | _ => none
  live := fun | 0 => some [0, 1, 4] | 1 => some [0, 1, 4, 13, 14, 15] | 2 => some [0, 1, 4, 13, 14, 15, 16] | 3 => some [0, 1, 4, 6, 13, 14, 15] | 4 => some [0, 1, 4, 6, 7, 13, 14, 15] | 5 => some [0, 1, 4, 6, 7, 13, 14, 15, 30, 31, 32] | 6 => some [0, 1, 4, 6, 7, 13, 14, 15, 30, 31, 32, 33] | 7 => some [0, 1, 4, 6, 7, 9, 13, 14, 15, 30, 31, 32] | 8 => some [0, 1, 4, 6, 7, 9, 10, 13, 14, 15, 30, 31, 32] | 9 => some [0, 1, 4, 6, 7, 10, 13, 14, 15, 30, 31, 32] | 10 => some [0, 1, 4, 6, 7, 13, 14, 15, 30, 31, 32] | 11 => some [0, 1, 4, 6, 7, 13, 14, 15, 30, 31, 32] | 12 => some [0, 1, 4, 13, 14, 15] | _ => none
  track := fun | _ => false
  draw := fun | _ => .done
  iter := fun | _ => none }
def vc45 (a0 : Option (Nat × Nat)) (a1 : Value) (h : Heap) (R : Heap → Prop) : Prop :=
 NewM h fun (b0 : Nat) (h1 : Heap) =>
 Call Go.Proofs.Tryz.prog 50 [VV.lf (Lf.ptr a0)] h1 [VT.one LT.slc] fun (s2 : Slc) (h3 : Heap) =>
 ∃ (I4 : Int → Heap → Nat → Prop),
 (∃ (b5 : Nat), I4 (0 : Int) h3 b5) ∧
 ∀ (i6 : Int) (h7 : Heap) (b8 : Nat),
 I4 i6 h7 b8 →
 Br (Decidable.decide (i6 < (↑(Slc.len s2) : Int)))
 (IxC s2 i6 1 fun (b9 b10 : Nat) =>
 ∃ (t11 : ByteArray),
 cellsAt h7 b9 b10 [Lf.str t11] ∧
 NilC a0 fun (b12 b13 : Nat) =>
 ∃ (p14 : Option Nat),
 cellsAt h7 b12 (b13 + 1) [Lf.map p14] ∧
 ∃ (p15 : Option (Nat × Nat)),
 ∃ (c16 : Bool),
 LookR h7 LT.str (VT.one LT.ptr) [Lf.ptr Option.none] p14 t11 [Lf.ptr p15] c16 ∧
 NilC p15 fun (b17 b18 : Nat) =>
 ∃ (p19 : Option Nat),
 cellsAt h7 b17 (b18 + 0) [Lf.map p19] ∧
 Call Go.Proofs.Tryz.prog 108 [VV.lf (Lf.map p19)] h7 [VT.one LT.raw] fun (x20 : Value) (h21 : Heap) =>
 Call Go.Proofs.Tryz.prog 107 [VV.lf (Lf.raw x20)] h21 [VT.one LT.slc] fun (s22 : Slc) (h23 : Heap) =>
 ∃ (I24 : Int → Heap → Nat → Prop),
 (∃ (b25 : Nat), I24 (0 : Int) h23 b25) ∧
 ∀ (i26 : Int) (h27 : Heap) (b28 : Nat),
 I24 i26 h27 b28 →
 Br (Decidable.decide (i26 < (↑(Slc.len s22) : Int)))
 (IxC s22 i26 1 fun (b29 b30 : Nat) =>
 ∃ (t31 : ByteArray),
 cellsAt h27 b29 b30 [Lf.str t31] ∧
 ∃ (p32 : Option (Nat × Nat)),
 ∃ (c33 : Bool),
 LookR h27 LT.str (VT.one LT.ptr) [Lf.ptr Option.none] p19 t31 [Lf.ptr p32] c33 ∧
 (↑(ByteArray.size t11 + 1) : Int) ≤ (9223372036854775807 : Int) ∧
 (↑(ByteArray.size (t11 ++ ByteArray.mk #[(47 : UInt8)]) + ByteArray.size t31) : Int) ≤ (9223372036854775807 : Int) ∧
 ∃ (c34 : Bool),
 ∃ (c35 : Bool),
 LookR h27 LT.ptr (VT.one LT.bool) [Lf.bool Bool.false] (Option.some b0) p32 [Lf.bool c34] c35 ∧
 CallV Go.Proofs.Tryz.prog a1
 [VV.lf (Lf.str (t11 ++ ByteArray.mk #[(47 : UInt8)] ++ t31)), VV.lf (Lf.ptr p32),
 VV.lf (Lf.bool !c34)]
 h27 [] fun (h36 : Heap) =>
 UpdC LT.ptr (VT.one LT.bool) h36 (Option.some b0) p32 [Lf.bool Bool.true]
 fun (h37 : Heap) => ∃ (b38 : Nat), b38 < b28 ∧ I24 (IntKind.wrap IntKind.i64 (i26 + (1 : Int))) h37 b38)
 (∃ (b39 : Nat), b39 < b8 ∧ I4 (IntKind.wrap IntKind.i64 (i6 + (1 : Int))) h27 b39))
 (R h7)
theorem eq45 (a0 : Option (Nat × Nat)) (a1 : Value) (h : Heap) (R : Heap → Prop) : vc45 a0 a1 h R = vcFn Go.Proofs.Tryz.prog pl45 Go.Proofs.Tryz.f45 [.lf (.ptr a0), .lf (.raw a1)] h [] R := by kernel_rfl
theorem ok45 {a0 : Option (Nat × Nat)} {a1 : Value} {h : Heap} {R : Heap → Prop} (hv : vc45 a0 a1 h R) : Call Go.Proofs.Tryz.prog 45 [.lf (.ptr a0), .lf (.raw a1)] h [] R := call_eq hng hmix Go.Proofs.Tryz.func45 (eq45 a0 a1 h R) hv
/- 51: (*sediment.vfs.FS).Crash$1 (_, x, first) -/
def pl51 : Plan := {
  blk := fun _ => none
  seq := fun _ => none
  loop := fun _ => none
  live := fun | 0 => some [1, 2, 3, 7] | 1 => some [1, 3, 7, 14] | 2 => some [] | _ => none
  track := fun | _ => false
  draw := fun | _ => .done
  iter := fun | _ => none }
def vc51 (a0 : ByteArray) (a1 : Option (Nat × Nat)) (a2 : Bool) (f0 : Nat) (o0 : Nat) (h : Heap) (R : Heap → Prop) : Prop :=
 Call Go.Proofs.Tryz.prog 48 [VV.lf (Lf.ptr a1)] h [VT.one (LT.int IntKind.i64)] fun (i0 : Int) (h1 : Heap) =>
 Br a2
 (Br (Decidable.decide (i0 > (0 : Int)))
 (∃ (x2 : Value),
 cellsAt h1 f0 o0 [Lf.raw x2] ∧
 CallV Go.Proofs.Tryz.prog x2 [] h1 [VT.one (LT.int IntKind.i64)] fun (i3 : Int) (h4 : Heap) =>
 (IntKind.wrap IntKind.i64 (i0 + (1 : Int)) = (0 : Int) → False) ∧
 Call Go.Proofs.Tryz.prog 52 [VV.lf (Lf.ptr a1), VV.lf (Lf.int IntKind.i64 (Int.tmod i3 (IntKind.wrap IntKind.i64 (i0 + (1 : Int)))))] h4 []
 fun (h5 : Heap) => R h5)
 (R h1))
 (R h1)
theorem eq51 (a0 : ByteArray) (a1 : Option (Nat × Nat)) (a2 : Bool) (f0 : Nat) (o0 : Nat) (h : Heap) (R : Heap → Prop) : vc51 a0 a1 a2 f0 o0 h R = vcFn Go.Proofs.Tryz.prog pl51 Go.Proofs.Tryz.f51 [.lf (.str a0), .lf (.ptr a1), .lf (.bool a2), .lf (.ptr (some (f0, o0)))] h [] R := by kernel_rfl
theorem ok51 {a0 : ByteArray} {a1 : Option (Nat × Nat)} {a2 : Bool} {f0 : Nat} {o0 : Nat} {h : Heap} {R : Heap → Prop} (hv : vc51 a0 a1 a2 f0 o0 h R) : Call Go.Proofs.Tryz.prog 51 [.lf (.str a0), .lf (.ptr a1), .lf (.bool a2), .lf (.ptr (some (f0, o0)))] h [] R := call_eq hng hmix Go.Proofs.Tryz.func51 (eq51 a0 a1 a2 f0 o0 h R) hv
/- 112: (*sediment.vfs.FS).used (f) -/
def pl112 : Plan := {
  blk := fun _ => none
  seq := fun _ => none
  loop := fun _ => none
  live := fun | 0 => some [0] | 1 => some [0, 3] | 2 => some [3] | 3 => some [2] | _ => none
  track := fun | _ => false
  draw := fun | _ => .done
  iter := fun | _ => none }
def vc112 (a0 : Option (Nat × Nat)) (h : Heap) (R : Int → Heap → Prop) : Prop :=
 New 3 [Lf.int IntKind.i64 (0 : Int)] h fun (b0 : Nat) (h1 : Heap) =>
 StC h1 b0 0 [Lf.int IntKind.i64 (0 : Int)] fun (h2 : Heap) =>
 Call Go.Proofs.Tryz.prog 45
 [VV.lf (Lf.ptr a0), VV.lf (Lf.raw (Value.func (Fn.func 187) #[] #[Value.pointer (Option.some (Addr.mk b0 0 Option.none))]))] h2 []
 fun (h3 : Heap) => ∃ (i4 : Int), cellsAt h3 b0 0 [Lf.int IntKind.i64 i4] ∧ R i4 h3
theorem eq112 (a0 : Option (Nat × Nat)) (h : Heap) (R : Int → Heap → Prop) : vc112 a0 h R = vcFn Go.Proofs.Tryz.prog pl112 Go.Proofs.Tryz.f112 [.lf (.ptr a0)] h [.one (.int .i64)] R := by kernel_rfl
theorem ok112 {a0 : Option (Nat × Nat)} {h : Heap} {R : Int → Heap → Prop} (hv : vc112 a0 h R) : Call Go.Proofs.Tryz.prog 112 [.lf (.ptr a0)] h [.one (.int .i64)] R := call_eq hng hmix Go.Proofs.Tryz.func112 (eq112 a0 h R) hv
/- 187: (*sediment.vfs.FS).used$1 (_, x, first) -/
def pl187 : Plan := {
  blk := fun _ => none
  seq := fun _ => none
  loop := fun _ => none
  live := fun | 0 => some [1, 3, 7] | 1 => some [] | _ => none
  track := fun | _ => false
  draw := fun | 1 => .still 0 (.still 1 (.still 2 (.still 3 (.still 4 (.still 5 (.still 6 (.mem 7 (.done)))))))) | _ => .done
  iter := fun | _ => none }
def vc187 (a0 : ByteArray) (a1 : Option (Nat × Nat)) (a2 : Bool) (f0 : Nat) (o0 : Nat) (h : Heap) (R : Heap → Prop) : Prop :=
 Br a2
 (∃ (i0 : Int),
 cellsAt h f0 o0 [Lf.int IntKind.i64 i0] ∧
 NilC a1 fun (b1 b2 : Nat) =>
 ∃ (s3 : Slc),
 cellsAt h b1 (b2 + 2) [Lf.slc s3] ∧
 StC h f0 o0 [Lf.int IntKind.i64 (IntKind.wrap IntKind.i64 (i0 + (↑(Slc.len s3) : Int)))] fun (h4 : Heap) => R h4)
 (R h)
theorem eq187 (a0 : ByteArray) (a1 : Option (Nat × Nat)) (a2 : Bool) (f0 : Nat) (o0 : Nat) (h : Heap) (R : Heap → Prop) : vc187 a0 a1 a2 f0 o0 h R = vcFn Go.Proofs.Tryz.prog pl187 Go.Proofs.Tryz.f187 [.lf (.str a0), .lf (.ptr a1), .lf (.bool a2), .lf (.ptr (some (f0, o0)))] h [] R := by kernel_rfl
theorem ok187 {a0 : ByteArray} {a1 : Option (Nat × Nat)} {a2 : Bool} {f0 : Nat} {o0 : Nat} {h : Heap} {R : Heap → Prop} (hv : vc187 a0 a1 a2 f0 o0 h R) : Call Go.Proofs.Tryz.prog 187 [.lf (.str a0), .lf (.ptr a1), .lf (.bool a2), .lf (.ptr (some (f0, o0)))] h [] R := call_eq hng hmix Go.Proofs.Tryz.func187 (eq187 a0 a1 a2 f0 o0 h R) hv
/- 107: slices.Sorted[string] (seq) -/
def pl107 : Plan := {
  blk := fun _ => none
  seq := fun _ => none
  loop := fun _ => none
  live := fun | 0 => some [0] | 1 => some [3] | 2 => some [3] | 3 => some [2] | _ => none
  track := fun | _ => false
  draw := fun | _ => .done
  iter := fun | _ => none }
def vc107 (a0 : Value) (h : Heap) (R : Slc → Heap → Prop) : Prop :=
 Call Go.Proofs.Tryz.prog 183 [VV.lf (Lf.raw a0)] h [VT.one LT.slc] fun (s0 : Slc) (h1 : Heap) =>
 Call Go.Proofs.Tryz.prog 184 [VV.lf (Lf.slc s0)] h1 [] fun (h2 : Heap) => R s0 h2
theorem eq107 (a0 : Value) (h : Heap) (R : Slc → Heap → Prop) : vc107 a0 h R = vcFn Go.Proofs.Tryz.prog pl107 Go.Proofs.Tryz.f107 [.lf (.raw a0)] h [.one .slc] R := by kernel_rfl
theorem ok107 {a0 : Value} {h : Heap} {R : Slc → Heap → Prop} (hv : vc107 a0 h R) : Call Go.Proofs.Tryz.prog 107 [.lf (.raw a0)] h [.one .slc] R := call_eq hng hmix Go.Proofs.Tryz.func107 (eq107 a0 h R) hv
/- 110: maps.Keys[map[string]*sediment.vfs.dir,string,*sediment.vfs.dir] (m) -/
def pl110 : Plan := {
  blk := fun _ => none
  seq := fun _ => none
  loop := fun _ => none
  live := fun | 0 => some [1] | 1 => some [2] | _ => none
  track := fun | _ => false
  draw := fun | _ => .done
  iter := fun | _ => none }
def vc110 (a0 : Option Nat) (h : Heap) (R : Value → Heap → Prop) : Prop :=
 New 107 [Lf.map a0] h fun (b0 : Nat) (h1 : Heap) => R (Value.func (Fn.func 186) #[] #[Value.pointer (Option.some (Addr.mk b0 0 Option.none))]) h1
theorem eq110 (a0 : Option Nat) (h : Heap) (R : Value → Heap → Prop) : vc110 a0 h R = vcFn Go.Proofs.Tryz.prog pl110 Go.Proofs.Tryz.f110 [.lf (.map a0)] h [.one .raw] R := by kernel_rfl
theorem ok110 {a0 : Option Nat} {h : Heap} {R : Value → Heap → Prop} (hv : vc110 a0 h R) : Call Go.Proofs.Tryz.prog 110 [.lf (.map a0)] h [.one .raw] R := call_eq hng hmix Go.Proofs.Tryz.func110 (eq110 a0 h R) hv
/- 108: maps.Keys[sediment.vfs.names,string,*sediment.vfs.file] (m) -/
def pl108 : Plan := {
  blk := fun _ => none
  seq := fun _ => none
  loop := fun _ => none
  live := fun | 0 => some [1] | 1 => some [2] | _ => none
  track := fun | _ => false
  draw := fun | _ => .done
  iter := fun | _ => none }
def vc108 (a0 : Option Nat) (h : Heap) (R : Value → Heap → Prop) : Prop :=
 New 113 [Lf.map a0] h fun (b0 : Nat) (h1 : Heap) => R (Value.func (Fn.func 185) #[] #[Value.pointer (Option.some (Addr.mk b0 0 Option.none))]) h1
theorem eq108 (a0 : Option Nat) (h : Heap) (R : Value → Heap → Prop) : vc108 a0 h R = vcFn Go.Proofs.Tryz.prog pl108 Go.Proofs.Tryz.f108 [.lf (.map a0)] h [.one .raw] R := by kernel_rfl
theorem ok108 {a0 : Option Nat} {h : Heap} {R : Value → Heap → Prop} (hv : vc108 a0 h R) : Call Go.Proofs.Tryz.prog 108 [.lf (.map a0)] h [.one .raw] R := call_eq hng hmix Go.Proofs.Tryz.func108 (eq108 a0 h R) hv
/- 183: slices.Collect[string] (seq) -/
def pl183 : Plan := {
  blk := fun _ => none
  seq := fun _ => none
  loop := fun _ => none
  live := fun | 0 => some [0] | 1 => some [2] | _ => none
  track := fun | _ => false
  draw := fun | _ => .done
  iter := fun | _ => none }
def vc183 (a0 : Value) (h : Heap) (R : Slc → Heap → Prop) : Prop :=
 Call Go.Proofs.Tryz.prog 215 [VV.lf (Lf.slc (Slc.mk Option.none 0 0)), VV.lf (Lf.raw a0)] h [VT.one LT.slc]
 fun (s0 : Slc) (h1 : Heap) => R s0 h1
theorem eq183 (a0 : Value) (h : Heap) (R : Slc → Heap → Prop) : vc183 a0 h R = vcFn Go.Proofs.Tryz.prog pl183 Go.Proofs.Tryz.f183 [.lf (.raw a0)] h [.one .slc] R := by kernel_rfl
theorem ok183 {a0 : Value} {h : Heap} {R : Slc → Heap → Prop} (hv : vc183 a0 h R) : Call Go.Proofs.Tryz.prog 183 [.lf (.raw a0)] h [.one .slc] R := call_eq hng hmix Go.Proofs.Tryz.func183 (eq183 a0 h R) hv
/- 185: maps.Keys[sediment.vfs.names,string,*sediment.vfs.file]$1 (yield) · loop 1:  -/
def pl185 : Plan := {
  blk := fun _ => none
  seq := fun _ => none
  loop := fun | 1 => some ⟨[], [], []⟩ | _ => none
  live := fun | 0 => some [0, 5] | 1 => some [0, 5, 7] | 2 => some [0, 3, 5] | 3 => some [0, 5, 13] | _ => none
  track := fun | _ => false
  draw := fun | _ => .done
  iter := fun | 5 => some 113 | _ => none }
def vc185 (a0 : Value) (f0 : Nat) (o0 : Nat) (h : Heap) (R : Heap → Prop) : Prop :=
 ∃ (p0 : Option Nat),
 cellsAt h f0 o0 [Lf.map p0] ∧
 RngC h p0 fun (b1 : Nat) (h2 : Heap) =>
 ∃ (I3 : Heap → Nat → Prop),
 (∃ (b4 : Nat), I3 h2 b4) ∧
 ∀ (h5 : Heap) (b6 : Nat),
 I3 h5 b6 →
 NextC LT.str (VT.one LT.ptr) h5 b1 (fun (h7 : Heap) => R h7) fun (t8 : ByteArray) (x9 : List Lf) (h10 : Heap) =>
 ∃ (t11 : ByteArray),
 ∃ (p12 : Option (Nat × Nat)),
 EntryR h10 b1 LT.str (VT.one LT.ptr) t11 [Lf.ptr p12] ∧
 CallV Go.Proofs.Tryz.prog a0 [VV.lf (Lf.str t11)] h10 [VT.one LT.bool] fun (c13 : Bool) (h14 : Heap) =>
 Br (!c13) (R h14) (∃ (b15 : Nat), b15 < b6 ∧ I3 h14 b15)
theorem eq185 (a0 : Value) (f0 : Nat) (o0 : Nat) (h : Heap) (R : Heap → Prop) : vc185 a0 f0 o0 h R = vcFn Go.Proofs.Tryz.prog pl185 Go.Proofs.Tryz.f185 [.lf (.raw a0), .lf (.ptr (some (f0, o0)))] h [] R := by kernel_rfl
theorem ok185 {a0 : Value} {f0 : Nat} {o0 : Nat} {h : Heap} {R : Heap → Prop} (hv : vc185 a0 f0 o0 h R) : Call Go.Proofs.Tryz.prog 185 [.lf (.raw a0), .lf (.ptr (some (f0, o0)))] h [] R := call_eq hng hmix Go.Proofs.Tryz.func185 (eq185 a0 f0 o0 h R) hv
/- 186: maps.Keys[map[string]*sediment.vfs.dir,string,*sediment.vfs.dir]$1 (yield) · loop 1:  -/
def pl186 : Plan := {
  blk := fun _ => none
  seq := fun _ => none
  loop := fun | 1 => some ⟨[], [], []⟩ | _ => none
  live := fun | 0 => some [0, 5] | 1 => some [0, 5, 7] | 2 => some [0, 3, 5] | 3 => some [0, 5, 13] | _ => none
  track := fun | _ => false
  draw := fun | _ => .done
  iter := fun | 5 => some 107 | _ => none }
def vc186 (a0 : Value) (f0 : Nat) (o0 : Nat) (h : Heap) (R : Heap → Prop) : Prop :=
 ∃ (p0 : Option Nat),
 cellsAt h f0 o0 [Lf.map p0] ∧
 RngC h p0 fun (b1 : Nat) (h2 : Heap) =>
 ∃ (I3 : Heap → Nat → Prop),
 (∃ (b4 : Nat), I3 h2 b4) ∧
 ∀ (h5 : Heap) (b6 : Nat),
 I3 h5 b6 →
 NextC LT.str (VT.one LT.ptr) h5 b1 (fun (h7 : Heap) => R h7) fun (t8 : ByteArray) (x9 : List Lf) (h10 : Heap) =>
 ∃ (t11 : ByteArray),
 ∃ (p12 : Option (Nat × Nat)),
 EntryR h10 b1 LT.str (VT.one LT.ptr) t11 [Lf.ptr p12] ∧
 CallV Go.Proofs.Tryz.prog a0 [VV.lf (Lf.str t11)] h10 [VT.one LT.bool] fun (c13 : Bool) (h14 : Heap) =>
 Br (!c13) (R h14) (∃ (b15 : Nat), b15 < b6 ∧ I3 h14 b15)
theorem eq186 (a0 : Value) (f0 : Nat) (o0 : Nat) (h : Heap) (R : Heap → Prop) : vc186 a0 f0 o0 h R = vcFn Go.Proofs.Tryz.prog pl186 Go.Proofs.Tryz.f186 [.lf (.raw a0), .lf (.ptr (some (f0, o0)))] h [] R := by kernel_rfl
theorem ok186 {a0 : Value} {f0 : Nat} {o0 : Nat} {h : Heap} {R : Heap → Prop} (hv : vc186 a0 f0 o0 h R) : Call Go.Proofs.Tryz.prog 186 [.lf (.raw a0), .lf (.ptr (some (f0, o0)))] h [] R := call_eq hng hmix Go.Proofs.Tryz.func186 (eq186 a0 f0 o0 h R) hv
/- 215: slices.AppendSeq[[]string,string] (s, seq) -/
def pl215 : Plan := {
  blk := fun _ => none
  seq := fun _ => none
  loop := fun _ => none
  live := fun | 0 => some [1, 2] | 1 => some [2, 6] | 2 => some [2, 5] | 3 => some [] | 4 => some [4] | _ => none
  track := fun | _ => false
  draw := fun | _ => .done
  iter := fun | _ => none
  yt := fun | 2 => some [.one .str] | _ => none }
def vc215 (a0 : Slc) (a1 : Value) (h : Heap) (R : Slc → Heap → Prop) : Prop :=
 New 66 [Lf.slc a0] h fun (b0 : Nat) (h1 : Heap) =>
 ∀ (lp2 : Loop),
 LoopC lp2 h1 fun (b3 b4 : Nat) (h5 : Heap) =>
 (∀ (h6 : Heap) (I7 : Bool → Heap → Prop),
 LAt h6 b4 lp2 →
 ∀ (t8 : ByteArray),
 (LBusy h6 b4 lp2 fun (h9 : Heap) =>
 ∃ (s10 : Slc),
 cellsAt h9 b0 0 [Lf.slc s10] ∧
 New 9 [Lf.str t8] h9 fun (b11 : Nat) (h12 : Heap) =>
 AppC 9 [Lf.str (ByteArray.mk #[])] 1 16 s10 (Slc.mk (Option.some (b11, 0)) 1 1) h12
 fun (s13 : Slc) (h14 : Heap) =>
 StC h14 b0 0 [Lf.slc s13] fun (h15 : Heap) => LReady h15 b4 lp2 fun (h16 : Heap) => I7 Bool.true h16) →
 CallV Go.Proofs.Tryz.prog (yv b4) [VV.lf (Lf.str t8)] h6 [VT.one LT.bool] fun (c17 : Bool) (h18 : Heap) => I7 c17 h18) →
 CallF Go.Proofs.Tryz.prog a1 [VV.lf (Lf.raw (yv b4))] h5 [] fun (h19 : Heap) =>
 LEnd h19 b4 lp2 fun (h20 : Heap) => ∃ (s21 : Slc), cellsAt h20 b0 0 [Lf.slc s21] ∧ CollC h20 b3 fun (h22 : Heap) => R s21 h22
theorem eq215 (a0 : Slc) (a1 : Value) (h : Heap) (R : Slc → Heap → Prop) : vc215 a0 a1 h R = vcFn Go.Proofs.Tryz.prog pl215 Go.Proofs.Tryz.f215 [.lf (.slc a0), .lf (.raw a1)] h [.one .slc] R := by kernel_rfl
theorem ok215 {a0 : Slc} {a1 : Value} {h : Heap} {R : Slc → Heap → Prop} (hv : vc215 a0 a1 h R) : Call Go.Proofs.Tryz.prog 215 [.lf (.slc a0), .lf (.raw a1)] h [.one .slc] R := call_eq hng hmix Go.Proofs.Tryz.func215 (eq215 a0 a1 h R) hv
end Go.V.YtdeihieblljfcaaGreat
set_option linter.unusedVariables false
set_option maxRecDepth 100000
namespace Go.V.YtdeihieblljfcaaGreat
open Go Go.V
/- 16: (*sediment.vfs.FS).Sync (f, path) -/
def pl16 : Plan := {
  blk := fun _ => none
  seq := fun _ => none
  loop := fun _ => none
  live := fun | 0 => some [0, 1] | 1 => some [0, 5, 6] | 2 => some [0, 5, 6, 16] | 3 => some [4] | 4 => some [5, 7] | 5 => some [5, 7, 24] | 6 => some [4] | 7 => some [] | 8 => some [4] | _ => none
  track := fun | _ => false
  draw := fun | _ => .done
  iter := fun | _ => none }
def vc16 (a0 : Option (Nat × Nat)) (a1 : ByteArray) (h : Heap) (R : Int → Heap → Prop) : Prop :=
 Call Go.Proofs.Tryz.prog 53 [VV.lf (Lf.ptr a0), VV.lf (Lf.str a1)] h [VT.one LT.ptr, VT.one (LT.int IntKind.i64)]
 fun (p0 : Option (Nat × Nat)) (i1 : Int) (h2 : Heap) =>
 Br (i1 != (0 : Int)) (R i1 h2)
 (Call Go.Proofs.Tryz.prog 55 [VV.lf (Lf.ptr a0)] h2 [VT.one (LT.int IntKind.i64), VT.one LT.bool] fun (i3 : Int) (c4 : Bool) (h5 : Heap) =>
 Br (i3 != (0 : Int)) (R i3 h5)
 (NilC p0 fun (b6 b7 : Nat) =>
 ∃ (s8 : Slc),
 cellsAt h5 b6 (b7 + 2) [Lf.slc s8] ∧
 NilC p0 fun (b9 b10 : Nat) =>
 StC h5 b9 (b10 + 0) [Lf.slc s8] fun (h11 : Heap) =>
 NilC p0 fun (b12 b13 : Nat) => StC h11 b12 (b13 + 1) [Lf.slc (Slc.mk Option.none 0 0)] fun (h14 : Heap) => R (0 : Int) h14))
theorem eq16 (a0 : Option (Nat × Nat)) (a1 : ByteArray) (h : Heap) (R : Int → Heap → Prop) : vc16 a0 a1 h R = vcFn Go.Proofs.Tryz.prog pl16 Go.Proofs.Tryz.f16 [.lf (.ptr a0), .lf (.str a1)] h [.one (.int .i64)] R := by kernel_rfl
theorem ok16 {a0 : Option (Nat × Nat)} {a1 : ByteArray} {h : Heap} {R : Int → Heap → Prop} (hv : vc16 a0 a1 h R) : Call Go.Proofs.Tryz.prog 16 [.lf (.ptr a0), .lf (.str a1)] h [.one (.int .i64)] R := call_eq hng hmix Go.Proofs.Tryz.func16 (eq16 a0 a1 h R) hv
/- 40: (*sediment.vfs.FS).SyncDir (f, name) -/
def pl40 : Plan := {
  blk := fun _ => none
  seq := fun _ => none
  loop := fun _ => none
  live := fun | 0 => some [0, 1] | 1 => some [0, 5, 6] | 2 => some [0, 5, 6, 16] | 3 => some [4] | 4 => some [5, 7] | 5 => some [5, 7, 24] | 6 => some [4] | 7 => some [] | 8 => some [4] | _ => none
  track := fun | _ => false
  draw := fun | _ => .done
  iter := fun | _ => none }
def vc40 (a0 : Option (Nat × Nat)) (a1 : ByteArray) (h : Heap) (R : Int → Heap → Prop) : Prop :=
 Call Go.Proofs.Tryz.prog 106 [VV.lf (Lf.ptr a0), VV.lf (Lf.str a1)] h [VT.one LT.ptr, VT.one (LT.int IntKind.i64)]
 fun (p0 : Option (Nat × Nat)) (i1 : Int) (h2 : Heap) =>
 Br (i1 != (0 : Int)) (R i1 h2)
 (Call Go.Proofs.Tryz.prog 55 [VV.lf (Lf.ptr a0)] h2 [VT.one (LT.int IntKind.i64), VT.one LT.bool] fun (i3 : Int) (c4 : Bool) (h5 : Heap) =>
 Br (i3 != (0 : Int)) (R i3 h5)
 (NilC p0 fun (b6 b7 : Nat) => StC h5 b6 (b7 + 1) [Lf.slc (Slc.mk Option.none 0 0)] fun (h8 : Heap) => R (0 : Int) h8))
theorem eq40 (a0 : Option (Nat × Nat)) (a1 : ByteArray) (h : Heap) (R : Int → Heap → Prop) : vc40 a0 a1 h R = vcFn Go.Proofs.Tryz.prog pl40 Go.Proofs.Tryz.f40 [.lf (.ptr a0), .lf (.str a1)] h [.one (.int .i64)] R := by kernel_rfl
theorem ok40 {a0 : Option (Nat × Nat)} {a1 : ByteArray} {h : Heap} {R : Int → Heap → Prop} (hv : vc40 a0 a1 h R) : Call Go.Proofs.Tryz.prog 40 [.lf (.ptr a0), .lf (.str a1)] h [.one (.int .i64)] R := call_eq hng hmix Go.Proofs.Tryz.func40 (eq40 a0 a1 h R) hv
/- 73: (*sediment.vfs.FS).Rename () · seq 6: #54 · seq 9: #66 -/
def pl73 : Plan := {
  blk := fun _ => none
  seq := fun | 6 => some ⟨[(54, .one .bool)], [], []⟩ | 9 => some ⟨[(66, .one .bool)], [], []⟩ | _ => none
  loop := fun _ => none
  live := fun | 0 => some [0, 1, 2] | 1 => some [0, 1, 2, 7, 8, 9, 10, 11, 12] | 2 => some [0, 1, 2, 7, 8, 9, 10, 11, 12, 29] | 3 => some [6] | 4 => some [0, 1, 2, 7, 8, 9, 10, 11, 14] | 5 => some [0, 1, 2, 7, 8, 9, 10, 11, 54] | 6 => some [6] | 7 => some [1, 2, 7, 8, 9, 10, 11, 15] | 8 => some [7, 8, 9, 10, 11, 15, 66] | 9 => some [6] | 10 => some [7, 8, 9, 10, 11, 70] | 11 => some [] | 12 => some [6] | 13 => some [7, 9] | 14 => some [] | 15 => some [6] | _ => none
  track := fun | _ => false
  draw := fun | 4 => .still 0 (.still 1 (.still 2 (.still 3 (.still 4 (.still 5 (.still 6 (.still 7 (.still 8 (.still 9 (.still 10 (.done))))))))))) | _ => .done
  iter := fun | _ => none }
def vc73 (a0 : Option (Nat × Nat)) (a1 : ByteArray) (a2 : ByteArray) (h : Heap) (R : Int → Heap → Prop) : Prop :=
 Call Go.Proofs.Tryz.prog 141 [VV.lf (Lf.ptr a0), VV.lf (Lf.str a1), VV.lf (Lf.str a2)] h
 [VT.one LT.ptr, VT.one LT.ptr, VT.one LT.str, VT.one LT.str, VT.one LT.ptr, VT.one (LT.int IntKind.i64)]
 fun (p0 p1 : Option (Nat × Nat)) (t2 t3 : ByteArray) (p4 : Option (Nat × Nat)) (i5 : Int) (h6 : Heap) =>
 New 9 [Lf.str (ByteArray.mk #[])] h6 fun (b7 : Nat) (h8 : Heap) =>
 New 9 [Lf.str (ByteArray.mk #[])] h8 fun (b9 : Nat) (h10 : Heap) =>
 New 98 [Lf.ptr Option.none] h10 fun (b11 : Nat) (h12 : Heap) =>
 StC h12 b7 0 [Lf.str t2] fun (h13 : Heap) =>
 StC h13 b9 0 [Lf.str t3] fun (h14 : Heap) =>
 StC h14 b11 0 [Lf.ptr p4] fun (h15 : Heap) =>
 Br (i5 != (0 : Int)) (R i5 h15)
 (NilC p1 fun (b16 b17 : Nat) =>
 ∃ (p18 : Option Nat),
 cellsAt h15 b16 (b17 + 0) [Lf.map p18] ∧
 ∃ (t19 : ByteArray),
 cellsAt h15 b9 0 [Lf.str t19] ∧
 ∃ (p20 : Option (Nat × Nat)),
 ∃ (c21 : Bool),
 LookR h15 LT.str (VT.one LT.ptr) [Lf.ptr Option.none] p18 t19 [Lf.ptr p20] c21 ∧
 ∃ (I22 : Bool → Heap → Prop),
 Br (!c21)
 (PEq h15 p0 p1 ∧
 Br (!ptrEq p0 p1)
 (NilC p1 fun (b23 b24 : Nat) =>
 ∃ (p25 : Option Nat),
 cellsAt h15 b23 (b24 + 0) [Lf.map p25] ∧ ∃ (i26 : Int), LenR h15 p25 i26 ∧ I22 (Decidable.decide (i26 ≥ (1024 : Int))) h15)
 (I22 Bool.false h15))
 (I22 Bool.false h15) ∧
 ∀ (c27 : Bool) (h28 : Heap),
 I22 c27 h28 →
 Br c27 (R (2 : Int) h28)
 (Call Go.Proofs.Tryz.prog 55 [VV.lf (Lf.ptr a0)] h28 [VT.one (LT.int IntKind.i64), VT.one LT.bool]
 fun (i29 : Int) (c30 : Bool) (h31 : Heap) =>
 ∃ (I32 : Bool → Heap → Prop),
 Br (i29 != (0 : Int)) (I32 Bool.true h31) (I32 (strEq a1 a2) h31) ∧
 ∀ (c33 : Bool) (h34 : Heap),
 I32 c33 h34 →
 Br c33 (R i29 h34)
 (PEq h34 p0 p1 ∧
 Br (ptrEq p0 p1)
 (Call Go.Proofs.Tryz.prog 104
 [VV.lf (Lf.ptr p0),
 VV.lf
 (Lf.raw
 (Value.func (Fn.func 142) #[]
 #[Value.pointer (Option.some (Addr.mk b7 0 Option.none)),
 Value.pointer (Option.some (Addr.mk b11 0 Option.none)),
 Value.pointer (Option.some (Addr.mk b9 0 Option.none))]))]
 h34 [] fun (h35 : Heap) => R (0 : Int) h35)
 (Call Go.Proofs.Tryz.prog 104
 [VV.lf (Lf.ptr p1),
 VV.lf
 (Lf.raw
 (Value.func (Fn.func 143) #[]
 #[Value.pointer (Option.some (Addr.mk b11 0 Option.none)),
 Value.pointer (Option.some (Addr.mk b9 0 Option.none))]))]
 h34 [] fun (h36 : Heap) =>
 Call Go.Proofs.Tryz.prog 104
 [VV.lf (Lf.ptr p0),
 VV.lf
 (Lf.raw (Value.func (Fn.func 144) #[] #[Value.pointer (Option.some (Addr.mk b7 0 Option.none))]))]
 h36 [] fun (h37 : Heap) => R (0 : Int) h37))))
theorem eq73 (a0 : Option (Nat × Nat)) (a1 : ByteArray) (a2 : ByteArray) (h : Heap) (R : Int → Heap → Prop) : vc73 a0 a1 a2 h R = vcFn Go.Proofs.Tryz.prog pl73 Go.Proofs.Tryz.f73 [.lf (.ptr a0), .lf (.str a1), .lf (.str a2)] h [.one (.int .i64)] R := by kernel_rfl
theorem ok73 {a0 : Option (Nat × Nat)} {a1 : ByteArray} {a2 : ByteArray} {h : Heap} {R : Int → Heap → Prop} (hv : vc73 a0 a1 a2 h R) : Call Go.Proofs.Tryz.prog 73 [.lf (.ptr a0), .lf (.str a1), .lf (.str a2)] h [.one (.int .i64)] R := call_eq hng hmix Go.Proofs.Tryz.func73 (eq73 a0 a1 a2 h R) hv
/- 141: (*sediment.vfs.FS).two (f, from, to) -/
def pl141 : Plan := {
  blk := fun _ => none
  seq := fun _ => none
  loop := fun _ => none
  live := fun | 0 => some [0, 1, 2, 7, 9, 10] | 1 => some [0, 2, 6, 7, 8, 9, 10, 11] | 2 => some [0, 2, 6, 7, 8, 9, 10, 11, 20] | 3 => some [6, 7, 8, 9, 10, 11] | 4 => some [6, 7, 8, 9, 10, 11, 29] | 5 => some [6, 7, 8, 9, 10, 11] | 6 => some [6, 7, 8, 9, 10, 11, 37] | 7 => some [6, 7, 8, 9, 10, 11] | _ => none
  track := fun | _ => false
  draw := fun | _ => .done
  iter := fun | _ => none }
def vc141 (a0 : Option (Nat × Nat)) (a1 : ByteArray) (a2 : ByteArray) (h : Heap) (R : Option (Nat × Nat) → Option (Nat × Nat) → ByteArray → ByteArray → Option (Nat × Nat) → Int → Heap → Prop) : Prop :=
 Call Go.Proofs.Tryz.prog 103 [VV.lf (Lf.ptr a0), VV.lf (Lf.str a1)] h [VT.one LT.ptr, VT.one LT.str, VT.one (LT.int IntKind.i64)]
 fun (p0 : Option (Nat × Nat)) (t1 : ByteArray) (i2 : Int) (h3 : Heap) =>
 Br (i2 != (0 : Int)) (R p0 Option.none t1 (ByteArray.mk #[]) Option.none i2 h3)
 (Call Go.Proofs.Tryz.prog 103 [VV.lf (Lf.ptr a0), VV.lf (Lf.str a2)] h3
 [VT.one LT.ptr, VT.one LT.str, VT.one (LT.int IntKind.i64)] fun (p4 : Option (Nat × Nat)) (t5 : ByteArray) (i6 : Int) (h7 : Heap) =>
 Br (i6 != (0 : Int)) (R p0 p4 t1 t5 Option.none i6 h7)
 (NilC p0 fun (b8 b9 : Nat) =>
 ∃ (p10 : Option Nat),
 cellsAt h7 b8 (b9 + 0) [Lf.map p10] ∧
 ∃ (p11 : Option (Nat × Nat)),
 ∃ (c12 : Bool),
 LookR h7 LT.str (VT.one LT.ptr) [Lf.ptr Option.none] p10 t1 [Lf.ptr p11] c12 ∧
 Br (Option.isNone p11) (R p0 p4 t1 t5 p11 (6 : Int) h7) (R p0 p4 t1 t5 p11 i6 h7)))
theorem eq141 (a0 : Option (Nat × Nat)) (a1 : ByteArray) (a2 : ByteArray) (h : Heap) (R : Option (Nat × Nat) → Option (Nat × Nat) → ByteArray → ByteArray → Option (Nat × Nat) → Int → Heap → Prop) : vc141 a0 a1 a2 h R = vcFn Go.Proofs.Tryz.prog pl141 Go.Proofs.Tryz.f141 [.lf (.ptr a0), .lf (.str a1), .lf (.str a2)] h [.one .ptr, .one .ptr, .one .str, .one .str, .one .ptr, .one (.int .i64)] R := by kernel_rfl
theorem ok141 {a0 : Option (Nat × Nat)} {a1 : ByteArray} {a2 : ByteArray} {h : Heap} {R : Option (Nat × Nat) → Option (Nat × Nat) → ByteArray → ByteArray → Option (Nat × Nat) → Int → Heap → Prop} (hv : vc141 a0 a1 a2 h R) : Call Go.Proofs.Tryz.prog 141 [.lf (.ptr a0), .lf (.str a1), .lf (.str a2)] h [.one .ptr, .one .ptr, .one .str, .one .str, .one .ptr, .one (.int .i64)] R := call_eq hng hmix Go.Proofs.Tryz.func141 (eq141 a0 a1 a2 h R) hv
/- 142: (*sediment.vfs.FS).Rename$1 (n) -/
def pl142 : Plan := {
  blk := fun _ => none
  seq := fun _ => none
  loop := fun _ => none
  live := fun | 0 => some [0, 2, 3] | 1 => some [] | _ => none
  track := fun | _ => false
  draw := fun | _ => .done
  iter := fun | _ => none }
def vc142 (a0 : Option Nat) (f0 : Nat) (o0 : Nat) (f1 : Nat) (o1 : Nat) (f2 : Nat) (o2 : Nat) (h : Heap) (R : Heap → Prop) : Prop :=
 ∃ (t0 : ByteArray),
 cellsAt h f0 o0 [Lf.str t0] ∧
 DelC LT.str (VT.one LT.ptr) h a0 t0 fun (h1 : Heap) =>
 ∃ (t2 : ByteArray),
 cellsAt h1 f2 o2 [Lf.str t2] ∧
 ∃ (p3 : Option (Nat × Nat)), cellsAt h1 f1 o1 [Lf.ptr p3] ∧ UpdC LT.str (VT.one LT.ptr) h1 a0 t2 [Lf.ptr p3] fun (h4 : Heap) => R h4
theorem eq142 (a0 : Option Nat) (f0 : Nat) (o0 : Nat) (f1 : Nat) (o1 : Nat) (f2 : Nat) (o2 : Nat) (h : Heap) (R : Heap → Prop) : vc142 a0 f0 o0 f1 o1 f2 o2 h R = vcFn Go.Proofs.Tryz.prog pl142 Go.Proofs.Tryz.f142 [.lf (.map a0), .lf (.ptr (some (f0, o0))), .lf (.ptr (some (f1, o1))), .lf (.ptr (some (f2, o2)))] h [] R := by kernel_rfl
theorem ok142 {a0 : Option Nat} {f0 : Nat} {o0 : Nat} {f1 : Nat} {o1 : Nat} {f2 : Nat} {o2 : Nat} {h : Heap} {R : Heap → Prop} (hv : vc142 a0 f0 o0 f1 o1 f2 o2 h R) : Call Go.Proofs.Tryz.prog 142 [.lf (.map a0), .lf (.ptr (some (f0, o0))), .lf (.ptr (some (f1, o1))), .lf (.ptr (some (f2, o2)))] h [] R := call_eq hng hmix Go.Proofs.Tryz.func142 (eq142 a0 f0 o0 f1 o1 f2 o2 h R) hv
/- 143: (*sediment.vfs.FS).Rename$2 (n) -/
def pl143 : Plan := {
  blk := fun _ => none
  seq := fun _ => none
  loop := fun _ => none
  live := fun | 0 => some [] | _ => none
  track := fun | _ => false
  draw := fun | _ => .done
  iter := fun | _ => none }
def vc143 (a0 : Option Nat) (f0 : Nat) (o0 : Nat) (f1 : Nat) (o1 : Nat) (h : Heap) (R : Heap → Prop) : Prop :=
 ∃ (t0 : ByteArray),
 cellsAt h f1 o1 [Lf.str t0] ∧
 ∃ (p1 : Option (Nat × Nat)), cellsAt h f0 o0 [Lf.ptr p1] ∧ UpdC LT.str (VT.one LT.ptr) h a0 t0 [Lf.ptr p1] fun (h2 : Heap) => R h2
theorem eq143 (a0 : Option Nat) (f0 : Nat) (o0 : Nat) (f1 : Nat) (o1 : Nat) (h : Heap) (R : Heap → Prop) : vc143 a0 f0 o0 f1 o1 h R = vcFn Go.Proofs.Tryz.prog pl143 Go.Proofs.Tryz.f143 [.lf (.map a0), .lf (.ptr (some (f0, o0))), .lf (.ptr (some (f1, o1)))] h [] R := by kernel_rfl
theorem ok143 {a0 : Option Nat} {f0 : Nat} {o0 : Nat} {f1 : Nat} {o1 : Nat} {h : Heap} {R : Heap → Prop} (hv : vc143 a0 f0 o0 f1 o1 h R) : Call Go.Proofs.Tryz.prog 143 [.lf (.map a0), .lf (.ptr (some (f0, o0))), .lf (.ptr (some (f1, o1)))] h [] R := call_eq hng hmix Go.Proofs.Tryz.func143 (eq143 a0 f0 o0 f1 o1 h R) hv
/- 144: (*sediment.vfs.FS).Rename$3 (n) -/
def pl144 : Plan := {
  blk := fun _ => none
  seq := fun _ => none
  loop := fun _ => none
  live := fun | 0 => some [] | _ => none
  track := fun | _ => false
  draw := fun | _ => .done
  iter := fun | _ => none }
def vc144 (a0 : Option Nat) (f0 : Nat) (o0 : Nat) (h : Heap) (R : Heap → Prop) : Prop :=
 ∃ (t0 : ByteArray), cellsAt h f0 o0 [Lf.str t0] ∧ DelC LT.str (VT.one LT.ptr) h a0 t0 fun (h1 : Heap) => R h1
theorem eq144 (a0 : Option Nat) (f0 : Nat) (o0 : Nat) (h : Heap) (R : Heap → Prop) : vc144 a0 f0 o0 h R = vcFn Go.Proofs.Tryz.prog pl144 Go.Proofs.Tryz.f144 [.lf (.map a0), .lf (.ptr (some (f0, o0)))] h [] R := by kernel_rfl
theorem ok144 {a0 : Option Nat} {f0 : Nat} {o0 : Nat} {h : Heap} {R : Heap → Prop} (hv : vc144 a0 f0 o0 h R) : Call Go.Proofs.Tryz.prog 144 [.lf (.map a0), .lf (.ptr (some (f0, o0)))] h [] R := call_eq hng hmix Go.Proofs.Tryz.func144 (eq144 a0 f0 o0 h R) hv
/- 13: (*sediment.vfs.FS).Crash () · loop 2: #19 -/
def pl13 : Plan := {
  blk := fun _ => none
  seq := fun _ => none
  loop := fun | 2 => some ⟨[(19, .one (.int .i64))], [], []⟩ | _ => none
  live := fun | 0 => some [0, 6, 7] | 1 => some [0, 6, 7, 17, 18, 19] | 2 => some [0, 6, 7, 17, 18, 19, 20] | 3 => some [0, 6, 7, 9, 17, 18, 19] | 4 => some [0, 6, 7, 10, 17, 18, 19] | 5 => some [0, 6, 7, 10, 17, 18, 19, 34] | 6 => some [0, 6, 7, 10, 11, 17, 18, 19] | 7 => some [0, 6, 7, 10, 11, 17, 18, 19, 50] | 8 => some [0, 6, 7, 10, 17, 18, 19] | 9 => some [0, 6, 7, 17, 18, 19] | 10 => some [0, 6, 7, 17, 18, 19] | 11 => some [0] | 12 => some [] | _ => none
  track := fun | _ => false
  draw := fun | 6 => .still 0 (.still 2 (.still 3 (.still 4 (.still 5 (.still 6 (.still 7 (.mem 1 (.still 8 (.still 9 (.done)))))))))) | _ => .done
  iter := fun | _ => none }
def vc13 (a0 : Option (Nat × Nat)) (a1 : Slc) (a2 : Slc) (h : Heap) (R : Heap → Prop) : Prop :=
 Call Go.Proofs.Tryz.prog 49 [VV.lf (Lf.slc a1)] h [VT.one LT.raw] fun (x0 : Value) (h1 : Heap) =>
 Call Go.Proofs.Tryz.prog 49 [VV.lf (Lf.slc a2)] h1 [VT.one LT.raw] fun (x2 : Value) (h3 : Heap) =>
 New 103 [Lf.raw Value.nilFunc] h3 fun (b4 : Nat) (h5 : Heap) =>
 StC h5 b4 0 [Lf.raw x0] fun (h6 : Heap) =>
 Call Go.Proofs.Tryz.prog 50 [VV.lf (Lf.ptr a0)] h6 [VT.one LT.slc] fun (s7 : Slc) (h8 : Heap) =>
 ∃ (I9 : Int → Heap → Nat → Prop),
 (∃ (b10 : Nat), I9 (0 : Int) h8 b10) ∧
 ∀ (i11 : Int) (h12 : Heap) (b13 : Nat),
 I9 i11 h12 b13 →
 Br (Decidable.decide (i11 < (↑(Slc.len s7) : Int)))
 (IxC s7 i11 1 fun (b14 b15 : Nat) =>
 ∃ (t16 : ByteArray),
 cellsAt h12 b14 b15 [Lf.str t16] ∧
 NilC a0 fun (b17 b18 : Nat) =>
 ∃ (p19 : Option Nat),
 cellsAt h12 b17 (b18 + 1) [Lf.map p19] ∧
 ∃ (p20 : Option (Nat × Nat)),
 ∃ (c21 : Bool),
 LookR h12 LT.str (VT.one LT.ptr) [Lf.ptr Option.none] p19 t16 [Lf.ptr p20] c21 ∧
 NilC p20 fun (b22 b23 : Nat) =>
 ∃ (s24 : Slc),
 cellsAt h12 b22 (b23 + 1) [Lf.slc s24] ∧
 Br ((↑(Slc.len s24) : Int) == (0 : Int)) (∃ (b25 : Nat), b25 < b13 ∧ I9 (IntKind.wrap IntKind.i64 (i11 + (1 : Int))) h12 b25)
 (NilC p20 fun (b26 b27 : Nat) =>
 ∃ (s28 : Slc),
 cellsAt h12 b26 (b27 + 1) [Lf.slc s28] ∧
 CallV Go.Proofs.Tryz.prog x2 [] h12 [VT.one (LT.int IntKind.i64)] fun (i29 : Int) (h30 : Heap) =>
 cellsAt h30 b26 (b27 + 1) [Lf.slc s28] ∧
 (IntKind.wrap IntKind.i64 ((↑(Slc.len s28) : Int) + (1 : Int)) = (0 : Int) → False) ∧
 NilC p20 fun (b31 b32 : Nat) =>
 ∃ (s33 : Slc),
 cellsAt h30 b31 (b32 + 1) [Lf.slc s33] ∧
 Br
 (Decidable.decide
 (Int.tmod i29 (IntKind.wrap IntKind.i64 ((↑(Slc.len s28) : Int) + (1 : Int))) < (↑(Slc.len s33) : Int)))
 (NilC p20 fun (b34 b35 : Nat) =>
 ∃ (s36 : Slc),
 cellsAt h30 b34 (b35 + 1) [Lf.slc s36] ∧
 IxC s36 (Int.tmod i29 (IntKind.wrap IntKind.i64 ((↑(Slc.len s28) : Int) + (1 : Int)))) 1
 fun (b37 b38 : Nat) =>
 ∃ (p39 : Option Nat),
 cellsAt h30 b37 b38 [Lf.map p39] ∧
 NilC p20 fun (b40 b41 : Nat) =>
 StC h30 b40 (b41 + 0) [Lf.map p39] fun (h42 : Heap) =>
 NilC p20 fun (b43 b44 : Nat) =>
 StC h42 b43 (b44 + 1) [Lf.slc (Slc.mk Option.none 0 0)]
 fun (h45 : Heap) =>
 ∃ (b46 : Nat), b46 < b13 ∧ I9 (IntKind.wrap IntKind.i64 (i11 + (1 : Int))) h45 b46)
 (NilC p20 fun (b47 b48 : Nat) =>
 StC h30 b47 (b48 + 1) [Lf.slc (Slc.mk Option.none 0 0)] fun (h49 : Heap) =>
 ∃ (b50 : Nat), b50 < b13 ∧ I9 (IntKind.wrap IntKind.i64 (i11 + (1 : Int))) h49 b50)))
 (Call Go.Proofs.Tryz.prog 45
 [VV.lf (Lf.ptr a0), VV.lf (Lf.raw (Value.func (Fn.func 51) #[] #[Value.pointer (Option.some (Addr.mk b4 0 Option.none))]))] h12 []
 fun (h51 : Heap) =>
 NilC a0 fun (b52 b53 : Nat) =>
 StC h51 b52 (b53 + 2) [Lf.int IntKind.i64 (0 : Int), Lf.int IntKind.i64 (0 : Int), Lf.int IntKind.i64 (0 : Int)]
 fun (h54 : Heap) =>
 NilC a0 fun (b55 b56 : Nat) =>
 StC h54 b55 (b56 + 5) [Lf.int IntKind.i64 (0 : Int), Lf.int IntKind.i64 (0 : Int), Lf.int IntKind.i64 (0 : Int)]
 fun (h57 : Heap) => R h57)
theorem eq13 (a0 : Option (Nat × Nat)) (a1 : Slc) (a2 : Slc) (h : Heap) (R : Heap → Prop) : vc13 a0 a1 a2 h R = vcFn Go.Proofs.Tryz.prog pl13 Go.Proofs.Tryz.f13 [.lf (.ptr a0), .lf (.slc a1), .lf (.slc a2)] h [] R := by kernel_rfl
theorem ok13 {a0 : Option (Nat × Nat)} {a1 : Slc} {a2 : Slc} {h : Heap} {R : Heap → Prop} (hv : vc13 a0 a1 a2 h R) : Call Go.Proofs.Tryz.prog 13 [.lf (.ptr a0), .lf (.slc a1), .lf (.slc a2)] h [] R := call_eq hng hmix Go.Proofs.Tryz.func13 (eq13 a0 a1 a2 h R) hv
/- 49: sediment.vfs.turns (l) -/
def pl49 : Plan := {
  blk := fun _ => none
  seq := fun _ => none
  loop := fun _ => none
  live := fun | 0 => some [1] | 1 => some [1, 3] | 2 => some [2] | _ => none
  track := fun | _ => false
  draw := fun | _ => .done
  iter := fun | _ => none }
def vc49 (a0 : Slc) (h : Heap) (R : Value → Heap → Prop) : Prop :=
 New 23 [Lf.slc a0] h fun (b0 : Nat) (h1 : Heap) =>
 New 3 [Lf.int IntKind.i64 (0 : Int)] h1 fun (b2 : Nat) (h3 : Heap) =>
 StC h3 b2 0 [Lf.int IntKind.i64 (0 : Int)] fun (h4 : Heap) =>
 R (Value.func (Fn.func 109) #[] #[Value.pointer (Option.some (Addr.mk b0 0 Option.none)), Value.pointer (Option.some (Addr.mk b2 0 Option.none))]) h4
theorem eq49 (a0 : Slc) (h : Heap) (R : Value → Heap → Prop) : vc49 a0 h R = vcFn Go.Proofs.Tryz.prog pl49 Go.Proofs.Tryz.f49 [.lf (.slc a0)] h [.one .raw] R := by kernel_rfl
theorem ok49 {a0 : Slc} {h : Heap} {R : Value → Heap → Prop} (hv : vc49 a0 h R) : Call Go.Proofs.Tryz.prog 49 [.lf (.slc a0)] h [.one .raw] R := call_eq hng hmix Go.Proofs.Tryz.func49 (eq49 a0 h R) hv
/- 109: sediment.vfs.turns$1 () -/
def pl109 : Plan := {
  blk := fun _ => none
  seq := fun _ => none
  loop := fun _ => none
  live := fun | 0 => some [0, 1] | 1 => some [0, 1, 5] | 2 => some [2] | 3 => some [0, 1] | 4 => some [2] | _ => none
  track := fun | _ => false
  draw := fun | 4 => .still 0 (.still 1 (.still 2 (.still 3 (.still 4 (.still 5 (.still 6 (.still 7 (.still 8 (.still 9 (.done)))))))))) | _ => .done
  iter := fun | _ => none }
def vc109 (f0 : Nat) (o0 : Nat) (f1 : Nat) (o1 : Nat) (h : Heap) (R : Int → Heap → Prop) : Prop :=
 ∃ (s0 : Slc),
 cellsAt h f0 o0 [Lf.slc s0] ∧
 Br ((↑(Slc.len s0) : Int) == (0 : Int)) (R (0 : Int) h)
 (∃ (i1 : Int),
 cellsAt h f1 o1 [Lf.int IntKind.i64 i1] ∧
 StC h f1 o1 [Lf.int IntKind.i64 (IntKind.wrap IntKind.i64 (i1 + (1 : Int)))] fun (h2 : Heap) =>
 ∃ (s3 : Slc),
 cellsAt h2 f0 o0 [Lf.slc s3] ∧
 ∃ (i4 : Int),
 cellsAt h2 f1 o1 [Lf.int IntKind.i64 i4] ∧
 ∃ (s5 : Slc),
 cellsAt h2 f0 o0 [Lf.slc s5] ∧
 ((↑(Slc.len s5) : Int) = (0 : Int) → False) ∧
 IxC s3 (Int.tmod (IntKind.wrap IntKind.i64 (i4 - (1 : Int))) (↑(Slc.len s5) : Int)) 1 fun (b6 b7 : Nat) =>
 ∃ (i8 : Int), cellsAt h2 b6 b7 [Lf.int IntKind.i64 i8] ∧ R (if (0 : Int) > i8 then (0 : Int) else i8) h2)
theorem eq109 (f0 : Nat) (o0 : Nat) (f1 : Nat) (o1 : Nat) (h : Heap) (R : Int → Heap → Prop) : vc109 f0 o0 f1 o1 h R = vcFn Go.Proofs.Tryz.prog pl109 Go.Proofs.Tryz.f109 [.lf (.ptr (some (f0, o0))), .lf (.ptr (some (f1, o1)))] h [.one (.int .i64)] R := by kernel_rfl
theorem ok109 {f0 : Nat} {o0 : Nat} {f1 : Nat} {o1 : Nat} {h : Heap} {R : Int → Heap → Prop} (hv : vc109 f0 o0 f1 o1 h R) : Call Go.Proofs.Tryz.prog 109 [.lf (.ptr (some (f0, o0))), .lf (.ptr (some (f1, o1)))] h [.one (.int .i64)] R := call_eq hng hmix Go.Proofs.Tryz.func109 (eq109 f0 o0 f1 o1 h R) hv
/- 41: (*sediment.vfs.FS).Read (f, path) -/
def pl41 : Plan := {
  blk := fun _ => none
  seq := fun _ => none
  loop := fun _ => none
  live := fun | 0 => some [0, 1] | 1 => some [6, 7] | 2 => some [6, 7, 15] | 3 => some [4, 5] | 4 => some [4, 5] | _ => none
  track := fun | _ => false
  draw := fun | _ => .done
  iter := fun | _ => none }
def vc41 (a0 : Option (Nat × Nat)) (a1 : ByteArray) (h : Heap) (R : Slc → Int → Heap → Prop) : Prop :=
 Call Go.Proofs.Tryz.prog 53 [VV.lf (Lf.ptr a0), VV.lf (Lf.str a1)] h [VT.one LT.ptr, VT.one (LT.int IntKind.i64)]
 fun (p0 : Option (Nat × Nat)) (i1 : Int) (h2 : Heap) =>
 Br (i1 != (0 : Int)) (R (Slc.mk Option.none 0 0) i1 h2)
 (NilC p0 fun (b3 b4 : Nat) =>
 ∃ (s5 : Slc),
 cellsAt h2 b3 (b4 + 2) [Lf.slc s5] ∧
 Call Go.Proofs.Tryz.prog 47 [VV.lf (Lf.slc s5)] h2 [VT.one LT.slc] fun (s6 : Slc) (h7 : Heap) => R s6 (0 : Int) h7)
theorem eq41 (a0 : Option (Nat × Nat)) (a1 : ByteArray) (h : Heap) (R : Slc → Int → Heap → Prop) : vc41 a0 a1 h R = vcFn Go.Proofs.Tryz.prog pl41 Go.Proofs.Tryz.f41 [.lf (.ptr a0), .lf (.str a1)] h [.one .slc, .one (.int .i64)] R := by kernel_rfl
theorem ok41 {a0 : Option (Nat × Nat)} {a1 : ByteArray} {h : Heap} {R : Slc → Int → Heap → Prop} (hv : vc41 a0 a1 h R) : Call Go.Proofs.Tryz.prog 41 [.lf (.ptr a0), .lf (.str a1)] h [.one .slc, .one (.int .i64)] R := call_eq hng hmix Go.Proofs.Tryz.func41 (eq41 a0 a1 h R) hv
/- 75: (*sediment.vfs.FS).Link (f, from, to) -/
def pl75 : Plan := {
  blk := fun _ => none
  seq := fun _ => none
  loop := fun _ => none
  live := fun | 0 => some [0, 1, 2] | 1 => some [0, 8, 10, 11, 12] | 2 => some [0, 8, 10, 11, 12, 29] | 3 => some [6] | 4 => some [0, 8, 10, 11, 14] | 5 => some [0, 8, 10, 11, 40] | 6 => some [6] | 7 => some [0, 8, 10, 11, 46] | 8 => some [6] | 9 => some [8, 10, 11, 15] | 10 => some [8, 10, 11, 15, 53] | 11 => some [6] | 12 => some [] | 13 => some [6] | _ => none
  track := fun | _ => false
  draw := fun | 4 => .still 0 (.still 1 (.still 2 (.still 3 (.still 4 (.still 5 (.still 6 (.still 7 (.still 8 (.still 9 (.still 10 (.done))))))))))) | _ => .done
  iter := fun | _ => none }
def vc75 (a0 : Option (Nat × Nat)) (a1 : ByteArray) (a2 : ByteArray) (h : Heap) (R : Int → Heap → Prop) : Prop :=
 Call Go.Proofs.Tryz.prog 141 [VV.lf (Lf.ptr a0), VV.lf (Lf.str a1), VV.lf (Lf.str a2)] h
 [VT.one LT.ptr, VT.one LT.ptr, VT.one LT.str, VT.one LT.str, VT.one LT.ptr, VT.one (LT.int IntKind.i64)]
 fun (p0 p1 : Option (Nat × Nat)) (t2 t3 : ByteArray) (p4 : Option (Nat × Nat)) (i5 : Int) (h6 : Heap) =>
 New 9 [Lf.str (ByteArray.mk #[])] h6 fun (b7 : Nat) (h8 : Heap) =>
 New 98 [Lf.ptr Option.none] h8 fun (b9 : Nat) (h10 : Heap) =>
 StC h10 b7 0 [Lf.str t3] fun (h11 : Heap) =>
 StC h11 b9 0 [Lf.ptr p4] fun (h12 : Heap) =>
 Br (i5 != (0 : Int)) (R i5 h12)
 (NilC p1 fun (b13 b14 : Nat) =>
 ∃ (p15 : Option Nat),
 cellsAt h12 b13 (b14 + 0) [Lf.map p15] ∧
 ∃ (t16 : ByteArray),
 cellsAt h12 b7 0 [Lf.str t16] ∧
 ∃ (p17 : Option (Nat × Nat)),
 ∃ (c18 : Bool),
 LookR h12 LT.str (VT.one LT.ptr) [Lf.ptr Option.none] p15 t16 [Lf.ptr p17] c18 ∧
 Br c18 (R (7 : Int) h12)
 (NilC p1 fun (b19 b20 : Nat) =>
 ∃ (p21 : Option Nat),
 cellsAt h12 b19 (b20 + 0) [Lf.map p21] ∧
 ∃ (i22 : Int),
 LenR h12 p21 i22 ∧
 Br (Decidable.decide (i22 ≥ (1024 : Int))) (R (2 : Int) h12)
 (Call Go.Proofs.Tryz.prog 55 [VV.lf (Lf.ptr a0)] h12 [VT.one (LT.int IntKind.i64), VT.one LT.bool]
 fun (i23 : Int) (c24 : Bool) (h25 : Heap) =>
 Br (i23 != (0 : Int)) (R i23 h25)
 (Call Go.Proofs.Tryz.prog 104
 [VV.lf (Lf.ptr p1),
 VV.lf
 (Lf.raw
 (Value.func (Fn.func 146) #[]
 #[Value.pointer (Option.some (Addr.mk b9 0 Option.none)), Value.pointer (Option.some (Addr.mk b7 0 Option.none))]))]
 h25 [] fun (h26 : Heap) => R (0 : Int) h26))))
theorem eq75 (a0 : Option (Nat × Nat)) (a1 : ByteArray) (a2 : ByteArray) (h : Heap) (R : Int → Heap → Prop) : vc75 a0 a1 a2 h R = vcFn Go.Proofs.Tryz.prog pl75 Go.Proofs.Tryz.f75 [.lf (.ptr a0), .lf (.str a1), .lf (.str a2)] h [.one (.int .i64)] R := by kernel_rfl
theorem ok75 {a0 : Option (Nat × Nat)} {a1 : ByteArray} {a2 : ByteArray} {h : Heap} {R : Int → Heap → Prop} (hv : vc75 a0 a1 a2 h R) : Call Go.Proofs.Tryz.prog 75 [.lf (.ptr a0), .lf (.str a1), .lf (.str a2)] h [.one (.int .i64)] R := call_eq hng hmix Go.Proofs.Tryz.func75 (eq75 a0 a1 a2 h R) hv
/- 146: (*sediment.vfs.FS).Link$1 (n) -/
def pl146 : Plan := {
  blk := fun _ => none
  seq := fun _ => none
  loop := fun _ => none
  live := fun | 0 => some [] | _ => none
  track := fun | _ => false
  draw := fun | _ => .done
  iter := fun | _ => none }
def vc146 (a0 : Option Nat) (f0 : Nat) (o0 : Nat) (f1 : Nat) (o1 : Nat) (h : Heap) (R : Heap → Prop) : Prop :=
 ∃ (t0 : ByteArray),
 cellsAt h f1 o1 [Lf.str t0] ∧
 ∃ (p1 : Option (Nat × Nat)), cellsAt h f0 o0 [Lf.ptr p1] ∧ UpdC LT.str (VT.one LT.ptr) h a0 t0 [Lf.ptr p1] fun (h2 : Heap) => R h2
theorem eq146 (a0 : Option Nat) (f0 : Nat) (o0 : Nat) (f1 : Nat) (o1 : Nat) (h : Heap) (R : Heap → Prop) : vc146 a0 f0 o0 f1 o1 h R = vcFn Go.Proofs.Tryz.prog pl146 Go.Proofs.Tryz.f146 [.lf (.map a0), .lf (.ptr (some (f0, o0))), .lf (.ptr (some (f1, o1)))] h [] R := by kernel_rfl
theorem ok146 {a0 : Option Nat} {f0 : Nat} {o0 : Nat} {f1 : Nat} {o1 : Nat} {h : Heap} {R : Heap → Prop} (hv : vc146 a0 f0 o0 f1 o1 h R) : Call Go.Proofs.Tryz.prog 146 [.lf (.map a0), .lf (.ptr (some (f0, o0))), .lf (.ptr (some (f1, o1)))] h [] R := call_eq hng hmix Go.Proofs.Tryz.func146 (eq146 a0 f0 o0 f1 o1 h R) hv
/- 39: (*sediment.vfs.FS).Write (f, path, at, b) -/
def pl39 : Plan := {
  blk := fun _ => none
  seq := fun _ => none
  loop := fun _ => none
  live := fun | 0 => some [0, 1, 2, 3] | 1 => some [0, 2, 3, 9, 10] | 2 => some [0, 2, 3, 9, 10, 18] | 3 => some [8] | 4 => some [8] | _ => none
  track := fun | _ => false
  draw := fun | _ => .done
  iter := fun | _ => none }
def vc39 (a0 : Option (Nat × Nat)) (a1 : ByteArray) (a2 : Int) (a3 : Slc) (h : Heap) (R : Int → Heap → Prop) : Prop :=
 Call Go.Proofs.Tryz.prog 53 [VV.lf (Lf.ptr a0), VV.lf (Lf.str a1)] h [VT.one LT.ptr, VT.one (LT.int IntKind.i64)]
 fun (p0 : Option (Nat × Nat)) (i1 : Int) (h2 : Heap) =>
 Br (i1 != (0 : Int)) (R i1 h2)
 (Call Go.Proofs.Tryz.prog 54 [VV.lf (Lf.ptr a0), VV.lf (Lf.ptr p0), VV.lf (Lf.int IntKind.i64 a2), VV.lf (Lf.slc a3)] h2
 [VT.one (LT.int IntKind.i64)] fun (i3 : Int) (h4 : Heap) => R i3 h4)
theorem eq39 (a0 : Option (Nat × Nat)) (a1 : ByteArray) (a2 : Int) (a3 : Slc) (h : Heap) (R : Int → Heap → Prop) : vc39 a0 a1 a2 a3 h R = vcFn Go.Proofs.Tryz.prog pl39 Go.Proofs.Tryz.f39 [.lf (.ptr a0), .lf (.str a1), .lf (.int .i64 a2), .lf (.slc a3)] h [.one (.int .i64)] R := by kernel_rfl
theorem ok39 {a0 : Option (Nat × Nat)} {a1 : ByteArray} {a2 : Int} {a3 : Slc} {h : Heap} {R : Int → Heap → Prop} (hv : vc39 a0 a1 a2 a3 h R) : Call Go.Proofs.Tryz.prog 39 [.lf (.ptr a0), .lf (.str a1), .lf (.int .i64 a2), .lf (.slc a3)] h [.one (.int .i64)] R := call_eq hng hmix Go.Proofs.Tryz.func39 (eq39 a0 a1 a2 a3 h R) hv
/- 162: (*sediment.vfs.FS).Same (f, a, b) -/
def pl162 : Plan := {
  blk := fun _ => none
  seq := fun _ => none
  loop := fun _ => none
  live := fun | 0 => some [0, 1, 2] | 1 => some [0, 2, 7, 8] | 2 => some [7, 8, 9, 10] | 3 => some [6] | _ => none
  track := fun | _ => false
  draw := fun | _ => .done
  iter := fun | _ => none }
def vc162 (a0 : Option (Nat × Nat)) (a1 : ByteArray) (a2 : ByteArray) (h : Heap) (R : Bool → Heap → Prop) : Prop :=
 Call Go.Proofs.Tryz.prog 53 [VV.lf (Lf.ptr a0), VV.lf (Lf.str a1)] h [VT.one LT.ptr, VT.one (LT.int IntKind.i64)]
 fun (p0 : Option (Nat × Nat)) (i1 : Int) (h2 : Heap) =>
 Call Go.Proofs.Tryz.prog 53 [VV.lf (Lf.ptr a0), VV.lf (Lf.str a2)] h2 [VT.one LT.ptr, VT.one (LT.int IntKind.i64)]
 fun (p3 : Option (Nat × Nat)) (i4 : Int) (h5 : Heap) =>
 Br (i1 == (0 : Int)) (Br (i4 == (0 : Int)) (PEq h5 p0 p3 ∧ R (ptrEq p0 p3) h5) (R Bool.false h5)) (R Bool.false h5)
theorem eq162 (a0 : Option (Nat × Nat)) (a1 : ByteArray) (a2 : ByteArray) (h : Heap) (R : Bool → Heap → Prop) : vc162 a0 a1 a2 h R = vcFn Go.Proofs.Tryz.prog pl162 Go.Proofs.Tryz.f162 [.lf (.ptr a0), .lf (.str a1), .lf (.str a2)] h [.one .bool] R := by kernel_rfl
theorem ok162 {a0 : Option (Nat × Nat)} {a1 : ByteArray} {a2 : ByteArray} {h : Heap} {R : Bool → Heap → Prop} (hv : vc162 a0 a1 a2 h R) : Call Go.Proofs.Tryz.prog 162 [.lf (.ptr a0), .lf (.str a1), .lf (.str a2)] h [.one .bool] R := call_eq hng hmix Go.Proofs.Tryz.func162 (eq162 a0 a1 a2 h R) hv
/- 77: (*sediment.vfs.FS).Remove (f, path) -/
def pl77 : Plan := {
  blk := fun _ => none
  seq := fun _ => none
  loop := fun _ => none
  live := fun | 0 => some [0, 1] | 1 => some [0, 1, 6] | 2 => some [0, 1, 6, 19] | 3 => some [4] | 4 => some [0, 7, 8] | 5 => some [7, 8, 10] | 6 => some [7, 8, 10, 34] | 7 => some [4] | 8 => some [] | 9 => some [4] | _ => none
  track := fun | _ => false
  draw := fun | _ => .done
  iter := fun | _ => none }
def vc77 (a0 : Option (Nat × Nat)) (a1 : ByteArray) (h : Heap) (R : Int → Heap → Prop) : Prop :=
 Call Go.Proofs.Tryz.prog 53 [VV.lf (Lf.ptr a0), VV.lf (Lf.str a1)] h [VT.one LT.ptr, VT.one (LT.int IntKind.i64)]
 fun (p0 : Option (Nat × Nat)) (i1 : Int) (h2 : Heap) =>
 Br (i1 != (0 : Int)) (R i1 h2)
 (Call Go.Proofs.Tryz.prog 103 [VV.lf (Lf.ptr a0), VV.lf (Lf.str a1)] h2
 [VT.one LT.ptr, VT.one LT.str, VT.one (LT.int IntKind.i64)] fun (p3 : Option (Nat × Nat)) (t4 : ByteArray) (i5 : Int) (h6 : Heap) =>
 New 9 [Lf.str (ByteArray.mk #[])] h6 fun (b7 : Nat) (h8 : Heap) =>
 StC h8 b7 0 [Lf.str t4] fun (h9 : Heap) =>
 Call Go.Proofs.Tryz.prog 55 [VV.lf (Lf.ptr a0)] h9 [VT.one (LT.int IntKind.i64), VT.one LT.bool]
 fun (i10 : Int) (c11 : Bool) (h12 : Heap) =>
 Br (i10 != (0 : Int)) (R i10 h12)
 (Call Go.Proofs.Tryz.prog 104
 [VV.lf (Lf.ptr p3), VV.lf (Lf.raw (Value.func (Fn.func 147) #[] #[Value.pointer (Option.some (Addr.mk b7 0 Option.none))]))] h12 []
 fun (h13 : Heap) => R (0 : Int) h13))
theorem eq77 (a0 : Option (Nat × Nat)) (a1 : ByteArray) (h : Heap) (R : Int → Heap → Prop) : vc77 a0 a1 h R = vcFn Go.Proofs.Tryz.prog pl77 Go.Proofs.Tryz.f77 [.lf (.ptr a0), .lf (.str a1)] h [.one (.int .i64)] R := by kernel_rfl
theorem ok77 {a0 : Option (Nat × Nat)} {a1 : ByteArray} {h : Heap} {R : Int → Heap → Prop} (hv : vc77 a0 a1 h R) : Call Go.Proofs.Tryz.prog 77 [.lf (.ptr a0), .lf (.str a1)] h [.one (.int .i64)] R := call_eq hng hmix Go.Proofs.Tryz.func77 (eq77 a0 a1 h R) hv
/- 147: (*sediment.vfs.FS).Remove$1 (n) -/
def pl147 : Plan := {
  blk := fun _ => none
  seq := fun _ => none
  loop := fun _ => none
  live := fun | 0 => some [] | _ => none
  track := fun | _ => false
  draw := fun | _ => .done
  iter := fun | _ => none }
def vc147 (a0 : Option Nat) (f0 : Nat) (o0 : Nat) (h : Heap) (R : Heap → Prop) : Prop :=
 ∃ (t0 : ByteArray), cellsAt h f0 o0 [Lf.str t0] ∧ DelC LT.str (VT.one LT.ptr) h a0 t0 fun (h1 : Heap) => R h1
theorem eq147 (a0 : Option Nat) (f0 : Nat) (o0 : Nat) (h : Heap) (R : Heap → Prop) : vc147 a0 f0 o0 h R = vcFn Go.Proofs.Tryz.prog pl147 Go.Proofs.Tryz.f147 [.lf (.map a0), .lf (.ptr (some (f0, o0)))] h [] R := by kernel_rfl
theorem ok147 {a0 : Option Nat} {f0 : Nat} {o0 : Nat} {h : Heap} {R : Heap → Prop} (hv : vc147 a0 f0 o0 h R) : Call Go.Proofs.Tryz.prog 147 [.lf (.map a0), .lf (.ptr (some (f0, o0)))] h [] R := call_eq hng hmix Go.Proofs.Tryz.func147 (eq147 a0 f0 o0 h R) hv
end Go.V.YtdeihieblljfcaaGreat
