/- This text proves a part of the laws of seat Yteojmnnobmpdiaa, under no condition: H11 W7a. -/
import Derived.Test.YteojmnnobmpdiaaWC
import Derived.Eval
import Derived.Test.YteojmnnobmpdiaaChecked
set_option linter.unusedVariables false
set_option maxRecDepth 100000
namespace Go.V.Yteojmnnobmpdiaa
open Go Go.V
theorem hng : ∀ (f : Nat) (fn : Func), Go.Proofs.Try.prog.funcs[f]? = some fn → (fn.name == "runtime.NumGoroutine") = false := by
  have h : (Go.Proofs.Try.prog.funcs.toList.all fun fn => !(fn.name == "runtime.NumGoroutine")) = true := by kernel_rfl
  intro f fn hf
  have hm : fn ∈ Go.Proofs.Try.prog.funcs.toList := by simpa using Array.mem_of_getElem? hf
  have := List.all_eq_true.1 h fn hm
  simpa using this
theorem hmix : Go.Proofs.Try.prog.follows .mixedOrders = true := Checked.mixed Go.Proofs.Try.checked
end Go.V.Yteojmnnobmpdiaa
set_option linter.unusedVariables false
set_option maxRecDepth 100000
namespace Go.V.Yteojmnnobmpdiaa
open Go Go.V
/- 33: (*sediment.wal.Writer).At (w) -/
def pl33 : Plan := {
  blk := fun _ => none
  seq := fun _ => none
  loop := fun _ => none
  live := fun | 0 => some [0] | 1 => some [2] | _ => none
  track := fun | _ => false
  draw := fun | _ => .done
  iter := fun | _ => none }
def vc33 (a0 : Option (Nat × Nat)) (h : Heap) (R : Int → Heap → Prop) : Prop :=
  NilC a0 fun (b0 b1 : Nat) => ∃ (i2 : Int), cellsAt h b0 (b1 + 2) [Lf.int IntKind.i64 i2] ∧ R i2 h
theorem eq33 (a0 : Option (Nat × Nat)) (h : Heap) (R : Int → Heap → Prop) : vc33 a0 h R = vcFn Go.Proofs.Try.prog pl33 Go.Proofs.Try.f33 [.lf (.ptr a0)] h [.one (.int .i64)] R := by kernel_rfl
theorem ok33 {a0 : Option (Nat × Nat)} {h : Heap} {R : Int → Heap → Prop} (hv : vc33 a0 h R) : Call Go.Proofs.Try.prog 33 [.lf (.ptr a0)] h [.one (.int .i64)] R := call_eq hng hmix Go.Proofs.Try.func33 (eq33 a0 h R) hv
/- 85: sediment.sedimentref05.Recycled (b) -/
def pl85 : Plan := {
  blk := fun _ => none
  seq := fun _ => none
  loop := fun _ => none
  live := fun | 0 => some [0] | 1 => some [2] | _ => none
  track := fun | _ => false
  draw := fun | _ => .done
  iter := fun | _ => none }
def vc85 (a0 : Slc) (h : Heap) (R : Bool → Heap → Prop) : Prop :=
  Br (Decidable.decide ((↑(Slc.len a0) : Int) ≥ (7 : Int)))
    (IxC a0 (6 : Int) 1 fun (b0 b1 : Nat) =>
      ∃ (i2 : Int),
        cellsAt h b0 b1 [Lf.int IntKind.u8 i2] ∧
          Br (Decidable.decide (i2 ≥ (5 : Int)))
            (IxC a0 (6 : Int) 1 fun (b3 b4 : Nat) => ∃ (i5 : Int), cellsAt h b3 b4 [Lf.int IntKind.u8 i5] ∧ R (Decidable.decide (i5 ≤ (8 : Int))) h) (R Bool.false h))
    (R Bool.false h)
theorem eq85 (a0 : Slc) (h : Heap) (R : Bool → Heap → Prop) : vc85 a0 h R = vcFn Go.Proofs.Try.prog pl85 Go.Proofs.Try.f85 [.lf (.slc a0)] h [.one .bool] R := by kernel_rfl
theorem ok85 {a0 : Slc} {h : Heap} {R : Bool → Heap → Prop} (hv : vc85 a0 h R) : Call Go.Proofs.Try.prog 85 [.lf (.slc a0)] h [.one .bool] R := call_eq hng hmix Go.Proofs.Try.func85 (eq85 a0 h R) hv
/- 86: sediment.sedimentref05.head (recycled) -/
def pl86 : Plan := {
  blk := fun _ => none
  seq := fun _ => none
  loop := fun _ => none
  live := fun | 0 => some [0] | 1 => some [3] | 2 => some [2] | 3 => some [2] | _ => none
  track := fun | _ => false
  draw := fun | _ => .done
  iter := fun | _ => none }
def vc86 (a0 : Bool) (h : Heap) (R : Int → Heap → Prop) : Prop :=
  Br a0 (R (11 : Int) h) (R (7 : Int) h)
theorem eq86 (a0 : Bool) (h : Heap) (R : Int → Heap → Prop) : vc86 a0 h R = vcFn Go.Proofs.Try.prog pl86 Go.Proofs.Try.f86 [.lf (.bool a0)] h [.one (.int .i64)] R := by kernel_rfl
theorem ok86 {a0 : Bool} {h : Heap} {R : Int → Heap → Prop} (hv : vc86 a0 h R) : Call Go.Proofs.Try.prog 86 [.lf (.bool a0)] h [.one (.int .i64)] R := call_eq hng hmix Go.Proofs.Try.func86 (eq86 a0 h R) hv
/- 87: sediment.sedimentref05.noughts (b) · loop 2: i -/
def pl87 : Plan := {
  blk := fun _ => none
  seq := fun _ => none
  loop := fun | 2 => some ⟨[(3, .one (.int .i64))], [], []⟩ | _ => none
  live := fun | 0 => some [0] | 1 => some [0, 3] | 2 => some [0, 3, 7] | 3 => some [0, 3] | 4 => some [0, 3, 14] | 5 => some [2] | 6 => some [2] | _ => none
  track := fun | _ => false
  draw := fun | _ => .done
  iter := fun | _ => none }
def vc87 (a0 : Slc) (h : Heap) (R : Bool → Heap → Prop) : Prop :=
  ∃ (I0 : Int → Heap → Nat → Prop),
    (∃ (b1 : Nat), I0 (0 : Int) h b1) ∧
      ∀ (i2 : Int) (h3 : Heap) (b4 : Nat),
        I0 i2 h3 b4 →
          Br (Decidable.decide (i2 < (↑(Slc.len a0) : Int)))
            (IxC a0 i2 1 fun (b5 b6 : Nat) =>
              ∃ (i7 : Int),
                cellsAt h3 b5 b6 [Lf.int IntKind.u8 i7] ∧ Br (i7 != (0 : Int)) (R Bool.false h3) (∃ (b8 : Nat), b8 < b4 ∧ I0 (IntKind.wrap IntKind.i64 (i2 + (1 : Int))) h3 b8))
            (R Bool.true h3)
theorem eq87 (a0 : Slc) (h : Heap) (R : Bool → Heap → Prop) : vc87 a0 h R = vcFn Go.Proofs.Try.prog pl87 Go.Proofs.Try.f87 [.lf (.slc a0)] h [.one .bool] R := by kernel_rfl
theorem ok87 {a0 : Slc} {h : Heap} {R : Bool → Heap → Prop} (hv : vc87 a0 h R) : Call Go.Proofs.Try.prog 87 [.lf (.slc a0)] h [.one .bool] R := call_eq hng hmix Go.Proofs.Try.func87 (eq87 a0 h R) hv
/- 88: sediment.sedimentref05.end (within) -/
def pl88 : Plan := {
  blk := fun _ => none
  seq := fun _ => none
  loop := fun _ => none
  live := fun | 0 => some [0] | 1 => some [3] | 2 => some [2] | 3 => some [2] | _ => none
  track := fun | _ => false
  draw := fun | _ => .done
  iter := fun | _ => none }
def vc88 (a0 : Bool) (h : Heap) (R : Int → Heap → Prop) : Prop :=
  Br a0 (R (1 : Int) h) (R (0 : Int) h)
theorem eq88 (a0 : Bool) (h : Heap) (R : Int → Heap → Prop) : vc88 a0 h R = vcFn Go.Proofs.Try.prog pl88 Go.Proofs.Try.f88 [.lf (.bool a0)] h [.one (.int .i64)] R := by kernel_rfl
theorem ok88 {a0 : Bool} {h : Heap} {R : Int → Heap → Prop} (hv : vc88 a0 h R) : Call Go.Proofs.Try.prog 88 [.lf (.bool a0)] h [.one (.int .i64)] R := call_eq hng hmix Go.Proofs.Try.func88 (eq88 a0 h R) hv
/- 118: sediment.wal.noughts (b) -/
def pl118 : Plan := {
  blk := fun _ => none
  seq := fun _ => none
  loop := fun _ => none
  live := fun | 0 => some [0] | 1 => some [2] | _ => none
  track := fun | _ => false
  draw := fun | _ => .done
  iter := fun | _ => none }
def vc118 (a0 : Slc) (h : Heap) (R : Bool → Heap → Prop) : Prop :=
  Call Go.Proofs.Try.prog 138 [VV.lf (Lf.slc a0), VV.lf (Lf.raw (Value.func (Fn.func 139) #[] #[]))] h [VT.one LT.bool]
    fun (c0 : Bool) (h1 : Heap) => R (!c0) h1
theorem eq118 (a0 : Slc) (h : Heap) (R : Bool → Heap → Prop) : vc118 a0 h R = vcFn Go.Proofs.Try.prog pl118 Go.Proofs.Try.f118 [.lf (.slc a0)] h [.one .bool] R := by kernel_rfl
theorem ok118 {a0 : Slc} {h : Heap} {R : Bool → Heap → Prop} (hv : vc118 a0 h R) : Call Go.Proofs.Try.prog 118 [.lf (.slc a0)] h [.one .bool] R := call_eq hng hmix Go.Proofs.Try.func118 (eq118 a0 h R) hv
/- 119: (*sediment.wal.reader).end (r) -/
def pl119 : Plan := {
  blk := fun _ => none
  seq := fun _ => none
  loop := fun _ => none
  live := fun | 0 => some [0] | 1 => some [6] | 2 => some [2] | 3 => some [2] | _ => none
  track := fun | _ => false
  draw := fun | _ => .done
  iter := fun | _ => none }
def vc119 (a0 : Option (Nat × Nat)) (h : Heap) (R : Int → Heap → Prop) : Prop :=
  NilC a0 fun (b0 b1 : Nat) => ∃ (c2 : Bool), cellsAt h b0 (b1 + 5) [Lf.bool c2] ∧ Br c2 (R (1 : Int) h) (R (0 : Int) h)
theorem eq119 (a0 : Option (Nat × Nat)) (h : Heap) (R : Int → Heap → Prop) : vc119 a0 h R = vcFn Go.Proofs.Try.prog pl119 Go.Proofs.Try.f119 [.lf (.ptr a0)] h [.one (.int .i64)] R := by kernel_rfl
theorem ok119 {a0 : Option (Nat × Nat)} {h : Heap} {R : Int → Heap → Prop} (hv : vc119 a0 h R) : Call Go.Proofs.Try.prog 119 [.lf (.ptr a0)] h [.one (.int .i64)] R := call_eq hng hmix Go.Proofs.Try.func119 (eq119 a0 h R) hv
/- 120: (*sediment.wal.reader).bad (r) -/
def pl120 : Plan := {
  blk := fun _ => none
  seq := fun _ => none
  loop := fun _ => none
  live := fun | 0 => some [0] | 1 => some [6] | 2 => some [2] | 3 => some [2] | _ => none
  track := fun | _ => false
  draw := fun | _ => .done
  iter := fun | _ => none }
def vc120 (a0 : Option (Nat × Nat)) (h : Heap) (R : Int → Heap → Prop) : Prop :=
  NilC a0 fun (b0 b1 : Nat) => ∃ (c2 : Bool), cellsAt h b0 (b1 + 2) [Lf.bool c2] ∧ Br c2 (R (1 : Int) h) (R (3 : Int) h)
theorem eq120 (a0 : Option (Nat × Nat)) (h : Heap) (R : Int → Heap → Prop) : vc120 a0 h R = vcFn Go.Proofs.Try.prog pl120 Go.Proofs.Try.f120 [.lf (.ptr a0)] h [.one (.int .i64)] R := by kernel_rfl
theorem ok120 {a0 : Option (Nat × Nat)} {h : Heap} {R : Int → Heap → Prop} (hv : vc120 a0 h R) : Call Go.Proofs.Try.prog 120 [.lf (.ptr a0)] h [.one (.int .i64)] R := call_eq hng hmix Go.Proofs.Try.func120 (eq120 a0 h R) hv
/- 123: sediment.sedimentref01.Mask (s) -/
def pl123 : Plan := {
  blk := fun _ => none
  seq := fun _ => none
  loop := fun _ => none
  live := fun | 0 => some [0] | 1 => some [2] | _ => none
  track := fun | _ => false
  draw := fun | _ => .done
  iter := fun | _ => none }
def vc123 (a0 : Int) (h : Heap) (R : Int → Heap → Prop) : Prop :=
  (0 : Int) ≤ (15 : Int) ∧
    (0 : Int) ≤ (17 : Int) ∧
      R (IntKind.wrap IntKind.u32 (bitop IntKind.u32 BinOp.or (shiftR IntKind.u32 a0 (15 : Int)) (shiftL IntKind.u32 a0 (17 : Int)) + (2726488792 : Int))) h
theorem eq123 (a0 : Int) (h : Heap) (R : Int → Heap → Prop) : vc123 a0 h R = vcFn Go.Proofs.Try.prog pl123 Go.Proofs.Try.f123 [.lf (.int .u32 a0)] h [.one (.int .u32)] R := by kernel_rfl
theorem ok123 {a0 : Int} {h : Heap} {R : Int → Heap → Prop} (hv : vc123 a0 h R) : Call Go.Proofs.Try.prog 123 [.lf (.int .u32 a0)] h [.one (.int .u32)] R := call_eq hng hmix Go.Proofs.Try.func123 (eq123 a0 h R) hv
/- 138: slices.ContainsFunc[[]byte,byte] (s, f) -/
def pl138 : Plan := {
  blk := fun _ => none
  seq := fun _ => none
  loop := fun _ => none
  live := fun | 0 => some [0, 1] | 1 => some [4] | _ => none
  track := fun | _ => false
  draw := fun | _ => .done
  iter := fun | _ => none }
def vc138 (a0 : Slc) (a1 : Value) (h : Heap) (R : Bool → Heap → Prop) : Prop :=
  Call Go.Proofs.Try.prog 159 [VV.lf (Lf.slc a0), VV.lf (Lf.raw a1)] h [VT.one (LT.int IntKind.i64)] fun (i0 : Int) (h1 : Heap) =>
    R (Decidable.decide (i0 ≥ (0 : Int))) h1
theorem eq138 (a0 : Slc) (a1 : Value) (h : Heap) (R : Bool → Heap → Prop) : vc138 a0 a1 h R = vcFn Go.Proofs.Try.prog pl138 Go.Proofs.Try.f138 [.lf (.slc a0), .lf (.raw a1)] h [.one .bool] R := by kernel_rfl
theorem ok138 {a0 : Slc} {a1 : Value} {h : Heap} {R : Bool → Heap → Prop} (hv : vc138 a0 a1 h R) : Call Go.Proofs.Try.prog 138 [.lf (.slc a0), .lf (.raw a1)] h [.one .bool] R := call_eq hng hmix Go.Proofs.Try.func138 (eq138 a0 a1 h R) hv
/- 139: sediment.wal.noughts$1 (x) -/
def pl139 : Plan := {
  blk := fun _ => none
  seq := fun _ => none
  loop := fun _ => none
  live := fun | 0 => some [0] | 1 => some [2] | _ => none
  track := fun | _ => false
  draw := fun | _ => .done
  iter := fun | _ => none }
def vc139 (a0 : Int) (h : Heap) (R : Bool → Heap → Prop) : Prop :=
  R (a0 != (0 : Int)) h
theorem eq139 (a0 : Int) (h : Heap) (R : Bool → Heap → Prop) : vc139 a0 h R = vcFn Go.Proofs.Try.prog pl139 Go.Proofs.Try.f139 [.lf (.int .u8 a0)] h [.one .bool] R := by kernel_rfl
theorem ok139 {a0 : Int} {h : Heap} {R : Bool → Heap → Prop} (hv : vc139 a0 h R) : Call Go.Proofs.Try.prog 139 [.lf (.int .u8 a0)] h [.one .bool] R := call_eq hng hmix Go.Proofs.Try.func139 (eq139 a0 h R) hv
/- 141: sediment.codec.Mask (s) -/
def pl141 : Plan := {
  blk := fun _ => none
  seq := fun _ => none
  loop := fun _ => none
  live := fun | 0 => some [0] | 1 => some [2] | _ => none
  track := fun | _ => false
  draw := fun | _ => .done
  iter := fun | _ => none }
def vc141 (a0 : Int) (h : Heap) (R : Int → Heap → Prop) : Prop :=
  Call Go.Proofs.Try.prog 161 [VV.lf (Lf.int IntKind.u32 a0), VV.lf (Lf.int IntKind.i64 (-15 : Int))] h [VT.one (LT.int IntKind.u32)]
    fun (i0 : Int) (h1 : Heap) => R (IntKind.wrap IntKind.u32 (i0 + (2726488792 : Int))) h1
theorem eq141 (a0 : Int) (h : Heap) (R : Int → Heap → Prop) : vc141 a0 h R = vcFn Go.Proofs.Try.prog pl141 Go.Proofs.Try.f141 [.lf (.int .u32 a0)] h [.one (.int .u32)] R := by kernel_rfl
theorem ok141 {a0 : Int} {h : Heap} {R : Int → Heap → Prop} (hv : vc141 a0 h R) : Call Go.Proofs.Try.prog 141 [.lf (.int .u32 a0)] h [.one (.int .u32)] R := call_eq hng hmix Go.Proofs.Try.func141 (eq141 a0 h R) hv
/- 159: slices.IndexFunc[[]byte,byte] (s, f) · loop 2: #8 -/
def pl159 : Plan := {
  blk := fun _ => none
  seq := fun _ => none
  loop := fun | 2 => some ⟨[(8, .one (.int .i64))], [], []⟩ | _ => none
  live := fun | 0 => some [0, 1] | 1 => some [0, 1, 7, 8] | 2 => some [0, 1, 7, 8, 9] | 3 => some [0, 1, 5, 7, 8] | 4 => some [0, 1, 5, 7, 8, 16] | 5 => some [4] | 6 => some [0, 1, 7, 8] | 7 => some [4] | _ => none
  track := fun | _ => false
  draw := fun | _ => .done
  iter := fun | _ => none }
def vc159 (a0 : Slc) (a1 : Value) (h : Heap) (R : Int → Heap → Prop) : Prop :=
  ∃ (I0 : Int → Heap → Nat → Prop),
    (∃ (b1 : Nat), I0 (0 : Int) h b1) ∧
      ∀ (i2 : Int) (h3 : Heap) (b4 : Nat),
        I0 i2 h3 b4 →
          Br (Decidable.decide (i2 < (↑(Slc.len a0) : Int)))
            (IxC a0 i2 1 fun (b5 b6 : Nat) =>
              ∃ (i7 : Int),
                cellsAt h3 b5 b6 [Lf.int IntKind.u8 i7] ∧
                  CallV Go.Proofs.Try.prog a1 [VV.lf (Lf.int IntKind.u8 i7)] h3 [VT.one LT.bool] fun (c8 : Bool) (h9 : Heap) =>
                    Br c8 (R i2 h9) (∃ (b10 : Nat), b10 < b4 ∧ I0 (IntKind.wrap IntKind.i64 (i2 + (1 : Int))) h9 b10))
            (R (-1 : Int) h3)
theorem eq159 (a0 : Slc) (a1 : Value) (h : Heap) (R : Int → Heap → Prop) : vc159 a0 a1 h R = vcFn Go.Proofs.Try.prog pl159 Go.Proofs.Try.f159 [.lf (.slc a0), .lf (.raw a1)] h [.one (.int .i64)] R := by kernel_rfl
theorem ok159 {a0 : Slc} {a1 : Value} {h : Heap} {R : Int → Heap → Prop} (hv : vc159 a0 a1 h R) : Call Go.Proofs.Try.prog 159 [.lf (.slc a0), .lf (.raw a1)] h [.one (.int .i64)] R := call_eq hng hmix Go.Proofs.Try.func159 (eq159 a0 a1 h R) hv
/- 161: math.bits.RotateLeft32 (x, k) -/
def pl161 : Plan := {
  blk := fun _ => none
  seq := fun _ => none
  loop := fun _ => none
  live := fun | 0 => some [0, 1] | 1 => some [0, 5] | 2 => some [4] | _ => none
  track := fun | _ => false
  draw := fun | _ => .done
  iter := fun | _ => none }
def vc161 (a0 : Int) (a1 : Int) (h : Heap) (R : Int → Heap → Prop) : Prop :=
  (0 : Int) ≤ bitop IntKind.u64 BinOp.and (IntKind.wrap IntKind.u64 a1) (31 : Int) ∧
    (0 : Int) ≤ IntKind.wrap IntKind.u64 ((32 : Int) - bitop IntKind.u64 BinOp.and (IntKind.wrap IntKind.u64 a1) (31 : Int)) ∧
      R
        (bitop IntKind.u32 BinOp.or (shiftL IntKind.u32 a0 (bitop IntKind.u64 BinOp.and (IntKind.wrap IntKind.u64 a1) (31 : Int)))
          (shiftR IntKind.u32 a0 (IntKind.wrap IntKind.u64 ((32 : Int) - bitop IntKind.u64 BinOp.and (IntKind.wrap IntKind.u64 a1) (31 : Int)))))
        h
theorem eq161 (a0 : Int) (a1 : Int) (h : Heap) (R : Int → Heap → Prop) : vc161 a0 a1 h R = vcFn Go.Proofs.Try.prog pl161 Go.Proofs.Try.f161 [.lf (.int .u32 a0), .lf (.int .i64 a1)] h [.one (.int .u32)] R := by kernel_rfl
theorem ok161 {a0 : Int} {a1 : Int} {h : Heap} {R : Int → Heap → Prop} (hv : vc161 a0 a1 h R) : Call Go.Proofs.Try.prog 161 [.lf (.int .u32 a0), .lf (.int .i64 a1)] h [.one (.int .u32)] R := call_eq hng hmix Go.Proofs.Try.func161 (eq161 a0 a1 h R) hv
/- 170: slices.Backward[[]byte,byte] (s) -/
def pl170 : Plan := {
  blk := fun _ => none
  seq := fun _ => none
  loop := fun _ => none
  live := fun | 0 => some [1] | 1 => some [2] | _ => none
  track := fun | _ => false
  draw := fun | _ => .done
  iter := fun | _ => none }
def vc170 (a0 : Slc) (h : Heap) (R : Value → Heap → Prop) : Prop :=
  New 55 [Lf.slc a0] h fun (b0 : Nat) (h1 : Heap) => R (Value.func (Fn.func 172) #[] #[Value.pointer (Option.some (Addr.mk b0 0 Option.none))]) h1
theorem eq170 (a0 : Slc) (h : Heap) (R : Value → Heap → Prop) : vc170 a0 h R = vcFn Go.Proofs.Try.prog pl170 Go.Proofs.Try.f170 [.lf (.slc a0)] h [.one .raw] R := by kernel_rfl
theorem ok170 {a0 : Slc} {h : Heap} {R : Value → Heap → Prop} (hv : vc170 a0 h R) : Call Go.Proofs.Try.prog 170 [.lf (.slc a0)] h [.one .raw] R := call_eq hng hmix Go.Proofs.Try.func170 (eq170 a0 h R) hv
/- 172: slices.Backward[[]byte,byte]$1 (yield) · loop 1: i -/
def pl172 : Plan := {
  blk := fun _ => none
  seq := fun _ => none
  loop := fun | 1 => some ⟨[(3, .one (.int .i64))], [], []⟩ | _ => none
  live := fun | 0 => some [0, 1, 3] | 1 => some [0, 1, 3, 8] | 2 => some [0, 1, 3] | 3 => some [0, 1, 3, 18] | _ => none
  track := fun | _ => false
  draw := fun | _ => .done
  iter := fun | _ => none }
def vc172 (a0 : Value) (f0 : Nat) (o0 : Nat) (h : Heap) (R : Heap → Prop) : Prop :=
  ∃ (s0 : Slc),
    cellsAt h f0 o0 [Lf.slc s0] ∧
      ∃ (I1 : Int → Heap → Nat → Prop),
        (∃ (b2 : Nat), I1 (IntKind.wrap IntKind.i64 ((↑(Slc.len s0) : Int) - (1 : Int))) h b2) ∧
          ∀ (i3 : Int) (h4 : Heap) (b5 : Nat),
            I1 i3 h4 b5 →
              Br (Decidable.decide (i3 ≥ (0 : Int)))
                (∃ (s6 : Slc),
                  cellsAt h4 f0 o0 [Lf.slc s6] ∧
                    IxC s6 i3 1 fun (b7 b8 : Nat) =>
                      ∃ (i9 : Int),
                        cellsAt h4 b7 b8 [Lf.int IntKind.u8 i9] ∧
                          CallV Go.Proofs.Try.prog a0 [VV.lf (Lf.int IntKind.i64 i3), VV.lf (Lf.int IntKind.u8 i9)] h4 [VT.one LT.bool]
                            fun (c10 : Bool) (h11 : Heap) => Br (!c10) (R h11) (∃ (b12 : Nat), b12 < b5 ∧ I1 (IntKind.wrap IntKind.i64 (i3 - (1 : Int))) h11 b12))
                (R h4)
theorem eq172 (a0 : Value) (f0 : Nat) (o0 : Nat) (h : Heap) (R : Heap → Prop) : vc172 a0 f0 o0 h R = vcFn Go.Proofs.Try.prog pl172 Go.Proofs.Try.f172 [.lf (.raw a0), .lf (.ptr (some (f0, o0)))] h [] R := by kernel_rfl
theorem ok172 {a0 : Value} {f0 : Nat} {o0 : Nat} {h : Heap} {R : Heap → Prop} (hv : vc172 a0 f0 o0 h R) : Call Go.Proofs.Try.prog 172 [.lf (.raw a0), .lf (.ptr (some (f0, o0)))] h [] R := call_eq hng hmix Go.Proofs.Try.func172 (eq172 a0 f0 o0 h R) hv
/- 122: sediment.sedimentref01.ReadFixed (b, many) · loop 5: n, i -/
def pl122 : Plan := {
  blk := fun _ => none
  seq := fun _ => none
  loop := fun | 5 => some ⟨[(6, .one (.int .u64)), (7, .one (.int .i64))], [], []⟩ | _ => none
  live := fun | 0 => some [0, 1] | 1 => some [0, 1, 11] | 2 => some [4, 5] | 3 => some [0, 1, 6] | 4 => some [0, 6, 7] | 5 => some [0, 6, 7, 15] | 6 => some [0, 6, 7] | 7 => some [0, 6, 7] | 8 => some [4, 5] | _ => none
  track := fun | _ => false
  draw := fun | _ => .done
  iter := fun | _ => none }
def vc122 (a0 : Slc) (a1 : Int) (h : Heap) (R : Int → Int → Heap → Prop) : Prop :=
  Br (Decidable.decide ((↑(Slc.len a0) : Int) < a1)) (R (0 : Int) (4 : Int) h)
    (∃ (I0 : Int → Int → Heap → Nat → Prop),
      (∃ (b1 : Nat), I0 (0 : Int) (IntKind.wrap IntKind.i64 (a1 - (1 : Int))) h b1) ∧
        ∀ (i2 i3 : Int) (h4 : Heap) (b5 : Nat),
          I0 i2 i3 h4 b5 →
            Br (Decidable.decide (i3 ≥ (0 : Int)))
              ((0 : Int) ≤ (8 : Int) ∧
                IxC a0 i3 1 fun (b6 b7 : Nat) =>
                  ∃ (i8 : Int),
                    cellsAt h4 b6 b7 [Lf.int IntKind.u8 i8] ∧
                      ∃ (b9 : Nat),
                        b9 < b5 ∧
                          I0 (bitop IntKind.u64 BinOp.or (shiftL IntKind.u64 i2 (8 : Int)) (IntKind.wrap IntKind.u64 i8)) (IntKind.wrap IntKind.i64 (i3 - (1 : Int))) h4
                            b9)
              (R i2 (0 : Int) h4))
theorem eq122 (a0 : Slc) (a1 : Int) (h : Heap) (R : Int → Int → Heap → Prop) : vc122 a0 a1 h R = vcFn Go.Proofs.Try.prog pl122 Go.Proofs.Try.f122 [.lf (.slc a0), .lf (.int .i64 a1)] h [.one (.int .u64), .one (.int .i64)] R := by kernel_rfl
theorem ok122 {a0 : Slc} {a1 : Int} {h : Heap} {R : Int → Int → Heap → Prop} (hv : vc122 a0 a1 h R) : Call Go.Proofs.Try.prog 122 [.lf (.slc a0), .lf (.int .i64 a1)] h [.one (.int .u64), .one (.int .i64)] R := call_eq hng hmix Go.Proofs.Try.func122 (eq122 a0 a1 h R) hv
/- 124: sediment.sedimentref01.Sum (b) · loop 3: s, i · loop 7: s, k -/
def pl124 : Plan := {
  blk := fun _ => none
  seq := fun _ => none
  loop := fun | 3 => some ⟨[(3, .one (.int .u32)), (4, .one (.int .i64))], [], []⟩ | 7 => some ⟨[(3, .one (.int .u32)), (5, .one (.int .i64))], [], []⟩ | _ => none
  live := fun | 0 => some [0] | 1 => some [0, 3] | 2 => some [0, 3, 4] | 3 => some [0, 3, 4, 10] | 4 => some [0, 3, 4] | 5 => some [0, 3, 4] | 6 => some [0, 3, 4, 5] | 7 => some [0, 3, 4, 5, 21] | 8 => some [0, 3, 4, 5] | 9 => some [0, 3, 4, 5, 6] | 10 => some [0, 3, 4, 5, 6] | 11 => some [0, 3, 4, 5, 29] | 12 => some [0, 3, 4, 5] | 13 => some [2] | _ => none
  track := fun | _ => false
  draw := fun | _ => .done
  iter := fun | _ => none }
def vc124 (a0 : Slc) (h : Heap) (R : Int → Heap → Prop) : Prop :=
  ∃ (I0 : Int → Int → Heap → Nat → Prop),
    (∃ (b1 : Nat), I0 (4294967295 : Int) (0 : Int) h b1) ∧
      ∀ (i2 i3 : Int) (h4 : Heap) (b5 : Nat),
        I0 i2 i3 h4 b5 →
          Br (Decidable.decide (i3 < (↑(Slc.len a0) : Int)))
            (IxC a0 i3 1 fun (b6 b7 : Nat) =>
              ∃ (i8 : Int),
                cellsAt h4 b6 b7 [Lf.int IntKind.u8 i8] ∧
                  ∃ (I9 : Int → Int → Heap → Nat → Prop),
                    (∃ (b10 : Nat), I9 (bitop IntKind.u32 BinOp.xor i2 (IntKind.wrap IntKind.u32 i8)) (0 : Int) h4 b10) ∧
                      ∀ (i11 i12 : Int) (h13 : Heap) (b14 : Nat),
                        I9 i11 i12 h13 b14 →
                          Br (Decidable.decide (i12 < (8 : Int)))
                            ((0 : Int) ≤ (1 : Int) ∧
                              Br (bitop IntKind.u32 BinOp.and i11 (1 : Int) == (1 : Int))
                                (∃ (b15 : Nat),
                                  b15 < b14 ∧
                                    I9 (bitop IntKind.u32 BinOp.xor (shiftR IntKind.u32 i11 (1 : Int)) (2197175160 : Int)) (IntKind.wrap IntKind.i64 (i12 + (1 : Int))) h13 b15)
                                (∃ (b16 : Nat), b16 < b14 ∧ I9 (shiftR IntKind.u32 i11 (1 : Int)) (IntKind.wrap IntKind.i64 (i12 + (1 : Int))) h13 b16))
                            (∃ (b17 : Nat), b17 < b5 ∧ I0 i11 (IntKind.wrap IntKind.i64 (i3 + (1 : Int))) h13 b17))
            (R (bitop IntKind.u32 BinOp.xor (if Bool.false = Bool.true then (-1 : Int) else IntKind.max IntKind.u32) i2) h4)
theorem eq124 (a0 : Slc) (h : Heap) (R : Int → Heap → Prop) : vc124 a0 h R = vcFn Go.Proofs.Try.prog pl124 Go.Proofs.Try.f124 [.lf (.slc a0)] h [.one (.int .u32)] R := by kernel_rfl
theorem ok124 {a0 : Slc} {h : Heap} {R : Int → Heap → Prop} (hv : vc124 a0 h R) : Call Go.Proofs.Try.prog 124 [.lf (.slc a0)] h [.one (.int .u32)] R := call_eq hng hmix Go.Proofs.Try.func124 (eq124 a0 h R) hv
/- 140: sediment.codec.ReadFixed32 (b) -/
def pl140 : Plan := {
  blk := fun _ => none
  seq := fun _ => none
  loop := fun _ => none
  live := fun | 0 => some [0] | 1 => some [4, 5] | 2 => some [2, 3] | _ => none
  track := fun | _ => false
  draw := fun | _ => .done
  iter := fun | _ => none }
def vc140 (a0 : Slc) (h : Heap) (R : Int → Int → Heap → Prop) : Prop :=
  Call Go.Proofs.Try.prog 160 [VV.lf (Lf.slc a0), VV.lf (Lf.int IntKind.i64 (4 : Int))] h
    [VT.one (LT.int IntKind.u64), VT.one (LT.int IntKind.i64)] fun (i0 i1 : Int) (h2 : Heap) => R (IntKind.wrap IntKind.u32 i0) i1 h2
theorem eq140 (a0 : Slc) (h : Heap) (R : Int → Int → Heap → Prop) : vc140 a0 h R = vcFn Go.Proofs.Try.prog pl140 Go.Proofs.Try.f140 [.lf (.slc a0)] h [.one (.int .u32), .one (.int .i64)] R := by kernel_rfl
theorem ok140 {a0 : Slc} {h : Heap} {R : Int → Int → Heap → Prop} (hv : vc140 a0 h R) : Call Go.Proofs.Try.prog 140 [.lf (.slc a0)] h [.one (.int .u32), .one (.int .i64)] R := call_eq hng hmix Go.Proofs.Try.func140 (eq140 a0 h R) hv
/- 143: sediment.codec.Fixed32 (n) -/
def pl143 : Plan := {
  blk := fun _ => none
  seq := fun _ => none
  loop := fun _ => none
  live := fun | 0 => some [0] | 1 => some [2] | _ => none
  track := fun | _ => false
  draw := fun | _ => .done
  iter := fun | _ => none }
def vc143 (a0 : Int) (h : Heap) (R : Slc → Heap → Prop) : Prop :=
  Call Go.Proofs.Try.prog 163 [VV.lf (Lf.int IntKind.u64 (IntKind.wrap IntKind.u64 a0)), VV.lf (Lf.int IntKind.i64 (4 : Int))] h [VT.one LT.slc]
    fun (s0 : Slc) (h1 : Heap) => R s0 h1
theorem eq143 (a0 : Int) (h : Heap) (R : Slc → Heap → Prop) : vc143 a0 h R = vcFn Go.Proofs.Try.prog pl143 Go.Proofs.Try.f143 [.lf (.int .u32 a0)] h [.one .slc] R := by kernel_rfl
theorem ok143 {a0 : Int} {h : Heap} {R : Slc → Heap → Prop} (hv : vc143 a0 h R) : Call Go.Proofs.Try.prog 143 [.lf (.int .u32 a0)] h [.one .slc] R := call_eq hng hmix Go.Proofs.Try.func143 (eq143 a0 h R) hv
/- 160: sediment.codec.read (b, size) -/
def pl160 : Plan := {
  blk := fun _ => none
  seq := fun _ => none
  loop := fun _ => none
  live := fun | 0 => some [0, 1] | 1 => some [0, 1, 12] | 2 => some [4, 5] | 3 => some [0, 1, 6] | 4 => some [6, 16] | 5 => some [6, 8] | 6 => some [] | 7 => some [4, 5] | _ => none
  track := fun | _ => false
  draw := fun | _ => .done
  iter := fun | _ => none
  yt := fun | 5 => some [.one (.int .i64), .one (.int .u8)] | _ => none }
def vc160 (a0 : Slc) (a1 : Int) (h : Heap) (R : Int → Int → Heap → Prop) : Prop :=
  Br (Decidable.decide ((↑(Slc.len a0) : Int) < a1)) (R (0 : Int) (4 : Int) h)
    (New 22 [Lf.int IntKind.u64 (0 : Int)] h fun (b0 : Nat) (h1 : Heap) =>
      StC h1 b0 0 [Lf.int IntKind.u64 (0 : Int)] fun (h2 : Heap) =>
        (0 : Int) ≤ a1 ∧
          a1 ≤ (↑(Slc.cap a0) : Int) ∧
            Call Go.Proofs.Try.prog 170 [VV.lf (Lf.slc (Slc.sub a0 1 0 (Int.toNat a1) (Slc.cap a0)))] h2 [VT.one LT.raw]
              fun (x3 : Value) (h4 : Heap) =>
              ∀ (lp5 : Loop),
                LoopC lp5 h4 fun (b6 b7 : Nat) (h8 : Heap) =>
                  (∀ (h9 : Heap) (I10 : Bool → Heap → Prop),
                      LAt h9 b7 lp5 →
                        ∀ (i11 i12 : Int),
                          (LBusy h9 b7 lp5 fun (h13 : Heap) =>
                              ∃ (i14 : Int),
                                cellsAt h13 b0 0 [Lf.int IntKind.u64 i14] ∧
                                  (0 : Int) ≤ (8 : Int) ∧
                                    StC h13 b0 0
                                      [Lf.int IntKind.u64 (bitop IntKind.u64 BinOp.or (shiftL IntKind.u64 i14 (8 : Int)) (IntKind.wrap IntKind.u64 i12))]
                                      fun (h15 : Heap) => LReady h15 b7 lp5 fun (h16 : Heap) => I10 Bool.true h16) →
                            CallV Go.Proofs.Try.prog (yv b7) [VV.lf (Lf.int IntKind.i64 i11), VV.lf (Lf.int IntKind.u8 i12)] h9 [VT.one LT.bool]
                              fun (c17 : Bool) (h18 : Heap) => I10 c17 h18) →
                    CallF Go.Proofs.Try.prog x3 [VV.lf (Lf.raw (yv b7))] h8 [] fun (h19 : Heap) =>
                      LEnd h19 b7 lp5 fun (h20 : Heap) =>
                        ∃ (i21 : Int), cellsAt h20 b0 0 [Lf.int IntKind.u64 i21] ∧ CollC h20 b6 fun (h22 : Heap) => R i21 (0 : Int) h22)
theorem eq160 (a0 : Slc) (a1 : Int) (h : Heap) (R : Int → Int → Heap → Prop) : vc160 a0 a1 h R = vcFn Go.Proofs.Try.prog pl160 Go.Proofs.Try.f160 [.lf (.slc a0), .lf (.int .i64 a1)] h [.one (.int .u64), .one (.int .i64)] R := by kernel_rfl
theorem ok160 {a0 : Slc} {a1 : Int} {h : Heap} {R : Int → Int → Heap → Prop} (hv : vc160 a0 a1 h R) : Call Go.Proofs.Try.prog 160 [.lf (.slc a0), .lf (.int .i64 a1)] h [.one (.int .u64), .one (.int .i64)] R := call_eq hng hmix Go.Proofs.Try.func160 (eq160 a0 a1 h R) hv
/- 163: sediment.codec.fixed (n, size) · loop 3: #11 -/
def pl163 : Plan := {
  blk := fun _ => none
  seq := fun _ => none
  loop := fun | 3 => some ⟨[(11, .one (.int .i64))], [], []⟩ | _ => none
  live := fun | 0 => some [0, 1] | 1 => some [0, 5] | 2 => some [0, 5, 10, 11] | 3 => some [0, 5, 10, 11, 12] | 4 => some [0, 5, 6, 10, 11] | 5 => some [0, 5, 10, 11] | 6 => some [0, 5, 10, 11] | 7 => some [4] | _ => none
  track := fun | _ => false
  draw := fun | _ => .done
  iter := fun | _ => none }
def vc163 (a0 : Int) (a1 : Int) (h : Heap) (R : Slc → Heap → Prop) : Prop :=
  MkC 5 [Lf.int IntKind.u8 (0 : Int)] 1 1 a1 a1 h fun (s0 : Slc) (h1 : Heap) =>
    ∃ (I2 : Int → Heap → Nat → Prop),
      (∃ (b3 : Nat), I2 (0 : Int) h1 b3) ∧
        ∀ (i4 : Int) (h5 : Heap) (b6 : Nat),
          I2 i4 h5 b6 →
            Br (Decidable.decide (i4 < (↑(Slc.len s0) : Int)))
              ((0 : Int) ≤ IntKind.wrap IntKind.i64 ((8 : Int) * i4) ∧
                IxC s0 i4 1 fun (b7 b8 : Nat) =>
                  StC h5 b7 b8 [Lf.int IntKind.u8 (IntKind.wrap IntKind.u8 (shiftR IntKind.u64 a0 (IntKind.wrap IntKind.i64 ((8 : Int) * i4))))]
                    fun (h9 : Heap) => ∃ (b10 : Nat), b10 < b6 ∧ I2 (IntKind.wrap IntKind.i64 (i4 + (1 : Int))) h9 b10)
              (R s0 h5)
theorem eq163 (a0 : Int) (a1 : Int) (h : Heap) (R : Slc → Heap → Prop) : vc163 a0 a1 h R = vcFn Go.Proofs.Try.prog pl163 Go.Proofs.Try.f163 [.lf (.int .u64 a0), .lf (.int .i64 a1)] h [.one .slc] R := by kernel_rfl
theorem ok163 {a0 : Int} {a1 : Int} {h : Heap} {R : Slc → Heap → Prop} (hv : vc163 a0 a1 h R) : Call Go.Proofs.Try.prog 163 [.lf (.int .u64 a0), .lf (.int .i64 a1)] h [.one .slc] R := call_eq hng hmix Go.Proofs.Try.func163 (eq163 a0 a1 h R) hv
/- 142: sediment.codec.Sum (b) · loop 4: r, #14 · loop 8: r, #22 · loop 15: r, #38 -/
def pl142 : Plan := {
  blk := fun _ => none
  seq := fun _ => none
  loop := fun | 4 => some ⟨[(3, .one (.int .u32)), (14, .one (.int .i64))], [], []⟩ | 8 => some ⟨[(3, .one (.int .u32)), (22, .one (.int .i64))], [], []⟩ | 15 => some ⟨[(3, .one (.int .u32)), (38, .one (.int .i64))], [], []⟩ | _ => none
  live := fun | 0 => some [0] | 1 => some [0, 3] | 2 => some [0, 3, 11] | 3 => some [3, 12, 13, 14] | 4 => some [3, 12, 13, 14, 15] | 5 => some [3, 5, 12, 13, 14] | 6 => some [3, 12, 13, 14] | 7 => some [3, 12, 13, 14, 22] | 8 => some [3, 12, 13, 14, 22, 23] | 9 => some [3, 12, 13, 14, 22] | 10 => some [3, 12, 13, 14, 22] | 11 => some [3, 12, 13, 14] | 12 => some [2] | 13 => some [0, 3, 6] | 14 => some [3, 6, 36, 37, 38] | 15 => some [3, 6, 36, 37, 38, 39] | 16 => some [3, 6, 8, 36, 37, 38] | 17 => some [3, 6, 36, 37, 38] | 18 => some [3, 6, 36, 37, 38] | 19 => some [2] | _ => none
  track := fun | _ => false
  draw := fun | _ => .done
  iter := fun | _ => none }
def vc142 (a0 : Slc) (h : Heap) (R : Int → Heap → Prop) : Prop :=
  Br (Decidable.decide ((↑(Slc.len a0) : Int) < (64 : Int)))
    (∃ (I0 : Int → Int → Heap → Nat → Prop),
      (∃ (b1 : Nat), I0 (4294967295 : Int) (0 : Int) h b1) ∧
        ∀ (i2 i3 : Int) (h4 : Heap) (b5 : Nat),
          I0 i2 i3 h4 b5 →
            Br (Decidable.decide (i3 < (↑(Slc.len a0) : Int)))
              (IxC a0 i3 1 fun (b6 b7 : Nat) =>
                ∃ (i8 : Int),
                  cellsAt h4 b6 b7 [Lf.int IntKind.u8 i8] ∧
                    ∃ (I9 : Int → Int → Heap → Nat → Prop),
                      (∃ (b10 : Nat), I9 (bitop IntKind.u32 BinOp.xor i2 (IntKind.wrap IntKind.u32 i8)) (0 : Int) h4 b10) ∧
                        ∀ (i11 i12 : Int) (h13 : Heap) (b14 : Nat),
                          I9 i11 i12 h13 b14 →
                            Br (Decidable.decide (i12 < (8 : Int)))
                              ((0 : Int) ≤ (1 : Int) ∧
                                ∃ (b15 : Nat),
                                  b15 < b14 ∧
                                    I9
                                      (bitop IntKind.u32 BinOp.xor (shiftR IntKind.u32 i11 (1 : Int))
                                        (bitop IntKind.u32 BinOp.and (2197175160 : Int) (IntKind.wrap IntKind.u32 ((0 : Int) - bitop IntKind.u32 BinOp.and i11 (1 : Int)))))
                                      (IntKind.wrap IntKind.i64 (i12 + (1 : Int))) h13 b15)
                              (∃ (b16 : Nat), b16 < b5 ∧ I0 i11 (IntKind.wrap IntKind.i64 (i3 + (1 : Int))) h13 b16))
              (R (bitop IntKind.u32 BinOp.xor (if Bool.false = Bool.true then (-1 : Int) else IntKind.max IntKind.u32) i2) h4))
    (Call Go.Proofs.Try.prog 162 [] h [VT.one LT.ptr] fun (p17 : Option (Nat × Nat)) (h18 : Heap) =>
      ∃ (I19 : Int → Int → Heap → Nat → Prop),
        (∃ (b20 : Nat), I19 (4294967295 : Int) (0 : Int) h18 b20) ∧
          ∀ (i21 i22 : Int) (h23 : Heap) (b24 : Nat),
            I19 i21 i22 h23 b24 →
              Br (Decidable.decide (i22 < (↑(Slc.len a0) : Int)))
                (IxC a0 i22 1 fun (b25 b26 : Nat) =>
                  ∃ (i27 : Int),
                    cellsAt h23 b25 b26 [Lf.int IntKind.u8 i27] ∧
                      (0 : Int) ≤ (8 : Int) ∧
                        NilC p17 fun (b28 b29 : Nat) =>
                          (0 : Int) ≤ bitop IntKind.u8 BinOp.xor (IntKind.wrap IntKind.u8 i21) i27 ∧
                            bitop IntKind.u8 BinOp.xor (IntKind.wrap IntKind.u8 i21) i27 < (↑256 : Int) ∧
                              ∃ (i30 : Int),
                                cellsAt h23 b28 (b29 + Int.toNat (bitop IntKind.u8 BinOp.xor (IntKind.wrap IntKind.u8 i21) i27) * 1) [Lf.int IntKind.u32 i30] ∧
                                  ∃ (b31 : Nat),
                                    b31 < b24 ∧ I19 (bitop IntKind.u32 BinOp.xor (shiftR IntKind.u32 i21 (8 : Int)) i30) (IntKind.wrap IntKind.i64 (i22 + (1 : Int))) h23 b31)
                (R (bitop IntKind.u32 BinOp.xor (if Bool.false = Bool.true then (-1 : Int) else IntKind.max IntKind.u32) i21) h23))
theorem eq142 (a0 : Slc) (h : Heap) (R : Int → Heap → Prop) : vc142 a0 h R = vcFn Go.Proofs.Try.prog pl142 Go.Proofs.Try.f142 [.lf (.slc a0)] h [.one (.int .u32)] R := by kernel_rfl
theorem ok142 {a0 : Slc} {h : Heap} {R : Int → Heap → Prop} (hv : vc142 a0 h R) : Call Go.Proofs.Try.prog 142 [.lf (.slc a0)] h [.one (.int .u32)] R := call_eq hng hmix Go.Proofs.Try.func142 (eq142 a0 h R) hv
/- 162: sediment.codec.table () · loop 3: #4 · loop 7: r, #9 -/
def pl162 : Plan := {
  blk := fun _ => none
  seq := fun _ => none
  loop := fun | 3 => some ⟨[(4, .one (.int .i64))], [], []⟩ | 7 => some ⟨[(3, .one (.int .u32)), (9, .one (.int .i64))], [], []⟩ | _ => none
  live := fun | 0 => some [] | 1 => some [1] | 2 => some [1, 4] | 3 => some [1, 4, 5] | 4 => some [1, 2, 4] | 5 => some [1, 2, 3, 4] | 6 => some [1, 2, 3, 4, 9] | 7 => some [1, 2, 3, 4, 9, 10] | 8 => some [1, 2, 3, 4, 9] | 9 => some [1, 2, 3, 4, 9] | 10 => some [1, 4] | 11 => some [1, 4] | 12 => some [0] | _ => none
  track := fun | _ => false
  draw := fun | _ => .done
  iter := fun | _ => none }
def vc162  (h : Heap) (R : Option (Nat × Nat) → Heap → Prop) : Prop :=
  New 232
    [Lf.int IntKind.u32 (0 : Int), Lf.int IntKind.u32 (0 : Int), Lf.int IntKind.u32 (0 : Int), Lf.int IntKind.u32 (0 : Int), Lf.int IntKind.u32 (0 : Int),
      Lf.int IntKind.u32 (0 : Int), Lf.int IntKind.u32 (0 : Int), Lf.int IntKind.u32 (0 : Int), Lf.int IntKind.u32 (0 : Int), Lf.int IntKind.u32 (0 : Int),
      Lf.int IntKind.u32 (0 : Int), Lf.int IntKind.u32 (0 : Int), Lf.int IntKind.u32 (0 : Int), Lf.int IntKind.u32 (0 : Int), Lf.int IntKind.u32 (0 : Int),
      Lf.int IntKind.u32 (0 : Int), Lf.int IntKind.u32 (0 : Int), Lf.int IntKind.u32 (0 : Int), Lf.int IntKind.u32 (0 : Int), Lf.int IntKind.u32 (0 : Int),
      Lf.int IntKind.u32 (0 : Int), Lf.int IntKind.u32 (0 : Int), Lf.int IntKind.u32 (0 : Int), Lf.int IntKind.u32 (0 : Int), Lf.int IntKind.u32 (0 : Int),
      Lf.int IntKind.u32 (0 : Int), Lf.int IntKind.u32 (0 : Int), Lf.int IntKind.u32 (0 : Int), Lf.int IntKind.u32 (0 : Int), Lf.int IntKind.u32 (0 : Int),
      Lf.int IntKind.u32 (0 : Int), Lf.int IntKind.u32 (0 : Int), Lf.int IntKind.u32 (0 : Int), Lf.int IntKind.u32 (0 : Int), Lf.int IntKind.u32 (0 : Int),
      Lf.int IntKind.u32 (0 : Int), Lf.int IntKind.u32 (0 : Int), Lf.int IntKind.u32 (0 : Int), Lf.int IntKind.u32 (0 : Int), Lf.int IntKind.u32 (0 : Int),
      Lf.int IntKind.u32 (0 : Int), Lf.int IntKind.u32 (0 : Int), Lf.int IntKind.u32 (0 : Int), Lf.int IntKind.u32 (0 : Int), Lf.int IntKind.u32 (0 : Int),
      Lf.int IntKind.u32 (0 : Int), Lf.int IntKind.u32 (0 : Int), Lf.int IntKind.u32 (0 : Int), Lf.int IntKind.u32 (0 : Int), Lf.int IntKind.u32 (0 : Int),
      Lf.int IntKind.u32 (0 : Int), Lf.int IntKind.u32 (0 : Int), Lf.int IntKind.u32 (0 : Int), Lf.int IntKind.u32 (0 : Int), Lf.int IntKind.u32 (0 : Int),
      Lf.int IntKind.u32 (0 : Int), Lf.int IntKind.u32 (0 : Int), Lf.int IntKind.u32 (0 : Int), Lf.int IntKind.u32 (0 : Int), Lf.int IntKind.u32 (0 : Int),
      Lf.int IntKind.u32 (0 : Int), Lf.int IntKind.u32 (0 : Int), Lf.int IntKind.u32 (0 : Int), Lf.int IntKind.u32 (0 : Int), Lf.int IntKind.u32 (0 : Int),
      Lf.int IntKind.u32 (0 : Int), Lf.int IntKind.u32 (0 : Int), Lf.int IntKind.u32 (0 : Int), Lf.int IntKind.u32 (0 : Int), Lf.int IntKind.u32 (0 : Int),
      Lf.int IntKind.u32 (0 : Int), Lf.int IntKind.u32 (0 : Int), Lf.int IntKind.u32 (0 : Int), Lf.int IntKind.u32 (0 : Int), Lf.int IntKind.u32 (0 : Int),
      Lf.int IntKind.u32 (0 : Int), Lf.int IntKind.u32 (0 : Int), Lf.int IntKind.u32 (0 : Int), Lf.int IntKind.u32 (0 : Int), Lf.int IntKind.u32 (0 : Int),
      Lf.int IntKind.u32 (0 : Int), Lf.int IntKind.u32 (0 : Int), Lf.int IntKind.u32 (0 : Int), Lf.int IntKind.u32 (0 : Int), Lf.int IntKind.u32 (0 : Int),
      Lf.int IntKind.u32 (0 : Int), Lf.int IntKind.u32 (0 : Int), Lf.int IntKind.u32 (0 : Int), Lf.int IntKind.u32 (0 : Int), Lf.int IntKind.u32 (0 : Int),
      Lf.int IntKind.u32 (0 : Int), Lf.int IntKind.u32 (0 : Int), Lf.int IntKind.u32 (0 : Int), Lf.int IntKind.u32 (0 : Int), Lf.int IntKind.u32 (0 : Int),
      Lf.int IntKind.u32 (0 : Int), Lf.int IntKind.u32 (0 : Int), Lf.int IntKind.u32 (0 : Int), Lf.int IntKind.u32 (0 : Int), Lf.int IntKind.u32 (0 : Int),
      Lf.int IntKind.u32 (0 : Int), Lf.int IntKind.u32 (0 : Int), Lf.int IntKind.u32 (0 : Int), Lf.int IntKind.u32 (0 : Int), Lf.int IntKind.u32 (0 : Int),
      Lf.int IntKind.u32 (0 : Int), Lf.int IntKind.u32 (0 : Int), Lf.int IntKind.u32 (0 : Int), Lf.int IntKind.u32 (0 : Int), Lf.int IntKind.u32 (0 : Int),
      Lf.int IntKind.u32 (0 : Int), Lf.int IntKind.u32 (0 : Int), Lf.int IntKind.u32 (0 : Int), Lf.int IntKind.u32 (0 : Int), Lf.int IntKind.u32 (0 : Int),
      Lf.int IntKind.u32 (0 : Int), Lf.int IntKind.u32 (0 : Int), Lf.int IntKind.u32 (0 : Int), Lf.int IntKind.u32 (0 : Int), Lf.int IntKind.u32 (0 : Int),
      Lf.int IntKind.u32 (0 : Int), Lf.int IntKind.u32 (0 : Int), Lf.int IntKind.u32 (0 : Int), Lf.int IntKind.u32 (0 : Int), Lf.int IntKind.u32 (0 : Int),
      Lf.int IntKind.u32 (0 : Int), Lf.int IntKind.u32 (0 : Int), Lf.int IntKind.u32 (0 : Int), Lf.int IntKind.u32 (0 : Int), Lf.int IntKind.u32 (0 : Int),
      Lf.int IntKind.u32 (0 : Int), Lf.int IntKind.u32 (0 : Int), Lf.int IntKind.u32 (0 : Int), Lf.int IntKind.u32 (0 : Int), Lf.int IntKind.u32 (0 : Int),
      Lf.int IntKind.u32 (0 : Int), Lf.int IntKind.u32 (0 : Int), Lf.int IntKind.u32 (0 : Int), Lf.int IntKind.u32 (0 : Int), Lf.int IntKind.u32 (0 : Int),
      Lf.int IntKind.u32 (0 : Int), Lf.int IntKind.u32 (0 : Int), Lf.int IntKind.u32 (0 : Int), Lf.int IntKind.u32 (0 : Int), Lf.int IntKind.u32 (0 : Int),
      Lf.int IntKind.u32 (0 : Int), Lf.int IntKind.u32 (0 : Int), Lf.int IntKind.u32 (0 : Int), Lf.int IntKind.u32 (0 : Int), Lf.int IntKind.u32 (0 : Int),
      Lf.int IntKind.u32 (0 : Int), Lf.int IntKind.u32 (0 : Int), Lf.int IntKind.u32 (0 : Int), Lf.int IntKind.u32 (0 : Int), Lf.int IntKind.u32 (0 : Int),
      Lf.int IntKind.u32 (0 : Int), Lf.int IntKind.u32 (0 : Int), Lf.int IntKind.u32 (0 : Int), Lf.int IntKind.u32 (0 : Int), Lf.int IntKind.u32 (0 : Int),
      Lf.int IntKind.u32 (0 : Int), Lf.int IntKind.u32 (0 : Int), Lf.int IntKind.u32 (0 : Int), Lf.int IntKind.u32 (0 : Int), Lf.int IntKind.u32 (0 : Int),
      Lf.int IntKind.u32 (0 : Int), Lf.int IntKind.u32 (0 : Int), Lf.int IntKind.u32 (0 : Int), Lf.int IntKind.u32 (0 : Int), Lf.int IntKind.u32 (0 : Int),
      Lf.int IntKind.u32 (0 : Int), Lf.int IntKind.u32 (0 : Int), Lf.int IntKind.u32 (0 : Int), Lf.int IntKind.u32 (0 : Int), Lf.int IntKind.u32 (0 : Int),
      Lf.int IntKind.u32 (0 : Int), Lf.int IntKind.u32 (0 : Int), Lf.int IntKind.u32 (0 : Int), Lf.int IntKind.u32 (0 : Int), Lf.int IntKind.u32 (0 : Int),
      Lf.int IntKind.u32 (0 : Int), Lf.int IntKind.u32 (0 : Int), Lf.int IntKind.u32 (0 : Int), Lf.int IntKind.u32 (0 : Int), Lf.int IntKind.u32 (0 : Int),
      Lf.int IntKind.u32 (0 : Int), Lf.int IntKind.u32 (0 : Int), Lf.int IntKind.u32 (0 : Int), Lf.int IntKind.u32 (0 : Int), Lf.int IntKind.u32 (0 : Int),
      Lf.int IntKind.u32 (0 : Int), Lf.int IntKind.u32 (0 : Int), Lf.int IntKind.u32 (0 : Int), Lf.int IntKind.u32 (0 : Int), Lf.int IntKind.u32 (0 : Int),
      Lf.int IntKind.u32 (0 : Int), Lf.int IntKind.u32 (0 : Int), Lf.int IntKind.u32 (0 : Int), Lf.int IntKind.u32 (0 : Int), Lf.int IntKind.u32 (0 : Int),
      Lf.int IntKind.u32 (0 : Int), Lf.int IntKind.u32 (0 : Int), Lf.int IntKind.u32 (0 : Int), Lf.int IntKind.u32 (0 : Int), Lf.int IntKind.u32 (0 : Int),
      Lf.int IntKind.u32 (0 : Int), Lf.int IntKind.u32 (0 : Int), Lf.int IntKind.u32 (0 : Int), Lf.int IntKind.u32 (0 : Int), Lf.int IntKind.u32 (0 : Int),
      Lf.int IntKind.u32 (0 : Int), Lf.int IntKind.u32 (0 : Int), Lf.int IntKind.u32 (0 : Int), Lf.int IntKind.u32 (0 : Int), Lf.int IntKind.u32 (0 : Int),
      Lf.int IntKind.u32 (0 : Int), Lf.int IntKind.u32 (0 : Int), Lf.int IntKind.u32 (0 : Int), Lf.int IntKind.u32 (0 : Int), Lf.int IntKind.u32 (0 : Int),
      Lf.int IntKind.u32 (0 : Int), Lf.int IntKind.u32 (0 : Int), Lf.int IntKind.u32 (0 : Int), Lf.int IntKind.u32 (0 : Int), Lf.int IntKind.u32 (0 : Int),
      Lf.int IntKind.u32 (0 : Int), Lf.int IntKind.u32 (0 : Int), Lf.int IntKind.u32 (0 : Int), Lf.int IntKind.u32 (0 : Int), Lf.int IntKind.u32 (0 : Int),
      Lf.int IntKind.u32 (0 : Int), Lf.int IntKind.u32 (0 : Int), Lf.int IntKind.u32 (0 : Int), Lf.int IntKind.u32 (0 : Int), Lf.int IntKind.u32 (0 : Int),
      Lf.int IntKind.u32 (0 : Int), Lf.int IntKind.u32 (0 : Int), Lf.int IntKind.u32 (0 : Int), Lf.int IntKind.u32 (0 : Int), Lf.int IntKind.u32 (0 : Int),
      Lf.int IntKind.u32 (0 : Int), Lf.int IntKind.u32 (0 : Int), Lf.int IntKind.u32 (0 : Int), Lf.int IntKind.u32 (0 : Int), Lf.int IntKind.u32 (0 : Int),
      Lf.int IntKind.u32 (0 : Int), Lf.int IntKind.u32 (0 : Int), Lf.int IntKind.u32 (0 : Int), Lf.int IntKind.u32 (0 : Int), Lf.int IntKind.u32 (0 : Int),
      Lf.int IntKind.u32 (0 : Int), Lf.int IntKind.u32 (0 : Int), Lf.int IntKind.u32 (0 : Int), Lf.int IntKind.u32 (0 : Int), Lf.int IntKind.u32 (0 : Int),
      Lf.int IntKind.u32 (0 : Int)]
    h fun (b0 : Nat) (h1 : Heap) =>
    ∃ (I2 : Int → Heap → Nat → Prop),
      (∃ (b3 : Nat), I2 (0 : Int) h1 b3) ∧
        ∀ (i4 : Int) (h5 : Heap) (b6 : Nat),
          I2 i4 h5 b6 →
            Br (Decidable.decide (i4 < (256 : Int)))
              (∃ (I7 : Int → Int → Heap → Nat → Prop),
                (∃ (b8 : Nat), I7 (IntKind.wrap IntKind.u32 i4) (0 : Int) h5 b8) ∧
                  ∀ (i9 i10 : Int) (h11 : Heap) (b12 : Nat),
                    I7 i9 i10 h11 b12 →
                      Br (Decidable.decide (i10 < (8 : Int)))
                        ((0 : Int) ≤ (1 : Int) ∧
                          ∃ (b13 : Nat),
                            b13 < b12 ∧
                              I7
                                (bitop IntKind.u32 BinOp.xor (shiftR IntKind.u32 i9 (1 : Int))
                                  (bitop IntKind.u32 BinOp.and (2197175160 : Int) (IntKind.wrap IntKind.u32 ((0 : Int) - bitop IntKind.u32 BinOp.and i9 (1 : Int)))))
                                (IntKind.wrap IntKind.i64 (i10 + (1 : Int))) h11 b13)
                        ((0 : Int) ≤ i4 ∧
                          i4 < (↑256 : Int) ∧
                            StC h11 b0 (0 + Int.toNat i4 * 1) [Lf.int IntKind.u32 i9] fun (h14 : Heap) =>
                              ∃ (b15 : Nat), b15 < b6 ∧ I2 (IntKind.wrap IntKind.i64 (i4 + (1 : Int))) h14 b15))
              (R (Option.some (b0, 0)) h5)
theorem eq162  (h : Heap) (R : Option (Nat × Nat) → Heap → Prop) : vc162  h R = vcFn Go.Proofs.Try.prog pl162 Go.Proofs.Try.f162 [] h [.one .ptr] R := by kernel_rfl
theorem ok162  {h : Heap} {R : Option (Nat × Nat) → Heap → Prop} (hv : vc162  h R) : Call Go.Proofs.Try.prog 162 [] h [.one .ptr] R := call_eq hng hmix Go.Proofs.Try.func162 (eq162  h R) hv
end Go.V.Yteojmnnobmpdiaa
