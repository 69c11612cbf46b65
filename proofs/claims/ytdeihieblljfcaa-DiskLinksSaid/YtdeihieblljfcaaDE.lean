/- This text proves a part of the laws of seat Ytdeihieblljfcaa, under no condition: D1a D1b. -/
import Derived.Test.YtdeihieblljfcaaDC
import Derived.Eval
import Derived.Test.YtdeihieblljfcaaChecked
set_option linter.unusedVariables false
set_option maxRecDepth 100000
namespace Go.V.Ytdeihieblljfcaa
open Go Go.V
theorem hng : ∀ (f : Nat) (fn : Func), Go.Proofs.Try.prog.funcs[f]? = some fn → (fn.name == "runtime.NumGoroutine") = false := by
  have h : (Go.Proofs.Try.prog.funcs.toList.all fun fn => !(fn.name == "runtime.NumGoroutine")) = true := by kernel_rfl
  intro f fn hf
  have hm : fn ∈ Go.Proofs.Try.prog.funcs.toList := by simpa using Array.mem_of_getElem? hf
  have := List.all_eq_true.1 h fn hm
  simpa using this
theorem hmix : Go.Proofs.Try.prog.follows .mixedOrders = true := Checked.mixed Go.Proofs.Try.checked
/- 7: sediment.vfs.New (quota) -/
def pl7 : Plan := {
  blk := fun _ => none
  seq := fun _ => none
  loop := fun _ => none
  live := fun | 0 => some [0] | 1 => some [0, 9] | 2 => some [2, 3] | 3 => some [2, 3] | _ => none
  track := fun | _ => false
  draw := fun | _ => .done
  iter := fun | _ => none }
def vc7 (a0 : Int) (h : Heap) (R : Option (Nat × Nat) → Int → Heap → Prop) : Prop :=
  Br (Decidable.decide (a0 < (0 : Int))) (R Option.none (1 : Int) h)
    (Br (Decidable.decide (a0 > (268435456 : Int))) (R Option.none (1 : Int) h)
      (NewM h fun (b0 : Nat) (h1 : Heap) =>
        New 62
          [Lf.int IntKind.i64 a0, Lf.map (Option.some b0), Lf.int IntKind.i64 (0 : Int), Lf.int IntKind.i64 (0 : Int), Lf.int IntKind.i64 (0 : Int),
            Lf.int IntKind.i64 (0 : Int), Lf.int IntKind.i64 (0 : Int), Lf.int IntKind.i64 (0 : Int)]
          h1 fun (b2 : Nat) (h3 : Heap) => R (Option.some (b2, 0)) (0 : Int) h3))
theorem eq7 (a0 : Int) (h : Heap) (R : Option (Nat × Nat) → Int → Heap → Prop) : vc7 a0 h R = vcFn Go.Proofs.Try.prog pl7 Go.Proofs.Try.f7 [.lf (.int .i64 a0)] h [.one .ptr, .one (.int .i64)] R := by kernel_rfl
theorem ok7 {a0 : Int} {h : Heap} {R : Option (Nat × Nat) → Int → Heap → Prop} (hv : vc7 a0 h R) : Call Go.Proofs.Try.prog 7 [.lf (.int .i64 a0)] h [.one .ptr, .one (.int .i64)] R := call_eq hng hmix Go.Proofs.Try.func7 (eq7 a0 h R) hv
/- 54: (*sediment.vfs.script).counts (s) · seq 2: #16 -/
def pl54 : Plan := {
  blk := fun _ => none
  seq := fun | 2 => some ⟨[(16, .one .bool)], [], []⟩ | _ => none
  loop := fun _ => none
  live := fun | 0 => some [0] | 1 => some [0, 16] | 2 => some [2, 3] | 3 => some [0] | 4 => some [0, 4] | 5 => some [2, 3] | _ => none
  track := fun | _ => false
  draw := fun | 4 => .still 0 (.still 1 (.still 2 (.still 3 (.still 4 (.still 5 (.still 6 (.still 7 (.still 8 (.still 9 (.done)))))))))) | _ => .done
  iter := fun | _ => none }
def vc54 (a0 : Option (Nat × Nat)) (h : Heap) (R : Bool → Bool → Heap → Prop) : Prop :=
  ∃ (I0 : Bool → Heap → Prop),
    (NilC a0 fun (b1 b2 : Nat) =>
        ∃ (i3 : Int),
          cellsAt h b1 (b2 + 0) [Lf.int IntKind.i64 i3] ∧
            Br (Decidable.decide (i3 < (1 : Int))) (I0 Bool.true h)
              (NilC a0 fun (b4 b5 : Nat) => ∃ (i6 : Int), cellsAt h b4 (b5 + 1) [Lf.int IntKind.i64 i6] ∧ I0 (i6 == (0 : Int)) h)) ∧
      ∀ (c7 : Bool) (h8 : Heap),
        I0 c7 h8 →
          Br c7 (R Bool.false Bool.false h8)
            (NilC a0 fun (b9 b10 : Nat) =>
              ∃ (i11 : Int),
                cellsAt h8 b9 (b10 + 2) [Lf.int IntKind.i64 i11] ∧
                  NilC a0 fun (b12 b13 : Nat) =>
                    StC h8 b12 (b13 + 2) [Lf.int IntKind.i64 (IntKind.wrap IntKind.i64 (i11 + (1 : Int)))] fun (h14 : Heap) =>
                      NilC a0 fun (b15 b16 : Nat) =>
                        ∃ (i17 : Int),
                          cellsAt h14 b15 (b16 + 2) [Lf.int IntKind.i64 i17] ∧
                            NilC a0 fun (b18 b19 : Nat) =>
                              ∃ (i20 : Int),
                                cellsAt h14 b18 (b19 + 0) [Lf.int IntKind.i64 i20] ∧
                                  Br (Decidable.decide (IntKind.wrap IntKind.i64 (i17 - i20) ≥ (0 : Int)))
                                    (NilC a0 fun (b21 b22 : Nat) =>
                                      ∃ (i23 : Int),
                                        cellsAt h14 b21 (b22 + 1) [Lf.int IntKind.i64 i23] ∧
                                          Br (Decidable.decide (i23 < (0 : Int))) (R Bool.true (IntKind.wrap IntKind.i64 (i17 - i20) == (0 : Int)) h14)
                                            (NilC a0 fun (b24 b25 : Nat) =>
                                              ∃ (i26 : Int),
                                                cellsAt h14 b24 (b25 + 1) [Lf.int IntKind.i64 i26] ∧
                                                  R (Decidable.decide (IntKind.wrap IntKind.i64 (i17 - i20) < i26)) (IntKind.wrap IntKind.i64 (i17 - i20) == (0 : Int)) h14))
                                    (R Bool.false (IntKind.wrap IntKind.i64 (i17 - i20) == (0 : Int)) h14))
theorem eq54 (a0 : Option (Nat × Nat)) (h : Heap) (R : Bool → Bool → Heap → Prop) : vc54 a0 h R = vcFn Go.Proofs.Try.prog pl54 Go.Proofs.Try.f54 [.lf (.ptr a0)] h [.one .bool, .one .bool] R := by kernel_rfl
theorem ok54 {a0 : Option (Nat × Nat)} {h : Heap} {R : Bool → Bool → Heap → Prop} (hv : vc54 a0 h R) : Call Go.Proofs.Try.prog 54 [.lf (.ptr a0)] h [.one .bool, .one .bool] R := call_eq hng hmix Go.Proofs.Try.func54 (eq54 a0 h R) hv
/- 30: (*sediment.vfs.FS).change (f) -/
def pl30 : Plan := {
  blk := fun _ => none
  seq := fun _ => none
  loop := fun _ => none
  live := fun | 0 => some [0] | 1 => some [0, 4, 5] | 2 => some [4, 5, 6, 7] | 3 => some [4, 5, 7, 22] | 4 => some [2, 3] | 5 => some [5, 25] | 6 => some [2, 3] | 7 => some [2, 3] | _ => none
  track := fun | _ => false
  draw := fun | _ => .done
  iter := fun | _ => none }
def vc30 (a0 : Option (Nat × Nat)) (h : Heap) (R : Int → Bool → Heap → Prop) : Prop :=
  NilC a0 fun (b0 b1 : Nat) =>
    Call Go.Proofs.Try.prog 54 [VV.lf (Lf.ptr (Option.some (b0, b1 + 2)))] h [VT.one LT.bool, VT.one LT.bool] fun (c2 c3 : Bool) (h4 : Heap) =>
      NilC a0 fun (b5 b6 : Nat) =>
        Call Go.Proofs.Try.prog 54 [VV.lf (Lf.ptr (Option.some (b5, b6 + 5)))] h4 [VT.one LT.bool, VT.one LT.bool]
          fun (c7 c8 : Bool) (h9 : Heap) => Br c7 (R (22 : Int) c8 h9) (Br c2 (R (21 : Int) c3 h9) (R (0 : Int) Bool.false h9))
theorem eq30 (a0 : Option (Nat × Nat)) (h : Heap) (R : Int → Bool → Heap → Prop) : vc30 a0 h R = vcFn Go.Proofs.Try.prog pl30 Go.Proofs.Try.f30 [.lf (.ptr a0)] h [.one (.int .i64), .one .bool] R := by kernel_rfl
theorem ok30 {a0 : Option (Nat × Nat)} {h : Heap} {R : Int → Bool → Heap → Prop} (hv : vc30 a0 h R) : Call Go.Proofs.Try.prog 30 [.lf (.ptr a0)] h [.one (.int .i64), .one .bool] R := call_eq hng hmix Go.Proofs.Try.func30 (eq30 a0 h R) hv
/- 53: sediment.vfs.named$1 (r) -/
def pl53 : Plan := {
  blk := fun _ => none
  seq := fun _ => none
  loop := fun _ => none
  live := fun | 0 => some [0] | 1 => some [2] | _ => none
  track := fun | _ => false
  draw := fun | _ => .done
  iter := fun | _ => none }
def vc53 (a0 : Int) (h : Heap) (R : Bool → Heap → Prop) : Prop :=
  Br (Decidable.decide (a0 < (33 : Int))) (R Bool.true h) (Br (Decidable.decide (a0 > (126 : Int))) (R Bool.true h) (R (a0 == (47 : Int)) h))
theorem eq53 (a0 : Int) (h : Heap) (R : Bool → Heap → Prop) : vc53 a0 h R = vcFn Go.Proofs.Try.prog pl53 Go.Proofs.Try.f53 [.lf (.int .i32 a0)] h [.one .bool] R := by kernel_rfl
theorem ok53 {a0 : Int} {h : Heap} {R : Bool → Heap → Prop} (hv : vc53 a0 h R) : Call Go.Proofs.Try.prog 53 [.lf (.int .i32 a0)] h [.one .bool] R := call_eq hng hmix Go.Proofs.Try.func53 (eq53 a0 h R) hv
/- 71: strings.indexFunc (s, f, truth) · loop 2:  -/
def pl71 : Plan := {
  blk := fun _ => none
  seq := fun _ => none
  loop := fun | 2 => some ⟨[], [], []⟩ | _ => none
  live := fun | 0 => some [0, 1, 2] | 1 => some [1, 2, 10] | 2 => some [1, 2, 10, 11, 12] | 3 => some [1, 2, 7, 8, 10] | 4 => some [1, 2, 7, 10, 19] | 5 => some [6] | 6 => some [6] | _ => none
  track := fun | _ => false
  draw := fun | _ => .done
  iter := fun | 10 => some 9 | _ => none }
def vc71 (a0 : ByteArray) (a1 : Value) (a2 : Bool) (h : Heap) (R : Int → Heap → Prop) : Prop :=
  RngS h a0 fun (b0 : Nat) (h1 : Heap) =>
    ∃ (I2 : Heap → Nat → Prop),
      (∃ (b3 : Nat), I2 h1 b3) ∧
        ∀ (h4 : Heap) (b5 : Nat),
          I2 h4 b5 →
            NextS h4 b0 (fun (h6 : Heap) => R (-1 : Int) h6) fun (i7 i8 : Int) (h9 : Heap) =>
              CallV Go.Proofs.Try.prog a1 [VV.lf (Lf.int IntKind.i32 i8)] h9 [VT.one LT.bool] fun (c10 : Bool) (h11 : Heap) =>
                Br (c10 == a2) (R i7 h11) (∃ (b12 : Nat), b12 < b5 ∧ I2 h11 b12)
theorem eq71 (a0 : ByteArray) (a1 : Value) (a2 : Bool) (h : Heap) (R : Int → Heap → Prop) : vc71 a0 a1 a2 h R = vcFn Go.Proofs.Try.prog pl71 Go.Proofs.Try.f71 [.lf (.str a0), .lf (.raw a1), .lf (.bool a2)] h [.one (.int .i64)] R := by kernel_rfl
theorem ok71 {a0 : ByteArray} {a1 : Value} {a2 : Bool} {h : Heap} {R : Int → Heap → Prop} (hv : vc71 a0 a1 a2 h R) : Call Go.Proofs.Try.prog 71 [.lf (.str a0), .lf (.raw a1), .lf (.bool a2)] h [.one (.int .i64)] R := call_eq hng hmix Go.Proofs.Try.func71 (eq71 a0 a1 a2 h R) hv
/- 52: strings.IndexFunc (s, f) -/
def pl52 : Plan := {
  blk := fun _ => none
  seq := fun _ => none
  loop := fun _ => none
  live := fun | 0 => some [0, 1] | 1 => some [4] | _ => none
  track := fun | _ => false
  draw := fun | _ => .done
  iter := fun | _ => none }
def vc52 (a0 : ByteArray) (a1 : Value) (h : Heap) (R : Int → Heap → Prop) : Prop :=
  Call Go.Proofs.Try.prog 71 [VV.lf (Lf.str a0), VV.lf (Lf.raw a1), VV.lf (Lf.bool Bool.true)] h [VT.one (LT.int IntKind.i64)]
    fun (i0 : Int) (h1 : Heap) => R i0 h1
theorem eq52 (a0 : ByteArray) (a1 : Value) (h : Heap) (R : Int → Heap → Prop) : vc52 a0 a1 h R = vcFn Go.Proofs.Try.prog pl52 Go.Proofs.Try.f52 [.lf (.str a0), .lf (.raw a1)] h [.one (.int .i64)] R := by kernel_rfl
theorem ok52 {a0 : ByteArray} {a1 : Value} {h : Heap} {R : Int → Heap → Prop} (hv : vc52 a0 a1 h R) : Call Go.Proofs.Try.prog 52 [.lf (.str a0), .lf (.raw a1)] h [.one (.int .i64)] R := call_eq hng hmix Go.Proofs.Try.func52 (eq52 a0 a1 h R) hv
/- 29: sediment.vfs.named (s) -/
def pl29 : Plan := {
  blk := fun _ => none
  seq := fun _ => none
  loop := fun _ => none
  live := fun | 0 => some [0] | 1 => some [2] | _ => none
  track := fun | _ => false
  draw := fun | _ => .done
  iter := fun | _ => none }
def vc29 (a0 : ByteArray) (h : Heap) (R : Bool → Heap → Prop) : Prop :=
  Br (Decidable.decide ((↑(ByteArray.size a0) : Int) ≥ (1 : Int)))
    (Br (Decidable.decide ((↑(ByteArray.size a0) : Int) ≤ (32 : Int)))
      (Call Go.Proofs.Try.prog 52 [VV.lf (Lf.str a0), VV.lf (Lf.raw (Value.func (Fn.func 53) #[] #[]))] h [VT.one (LT.int IntKind.i64)]
        fun (i0 : Int) (h1 : Heap) => R (Decidable.decide (i0 < (0 : Int))) h1)
      (R Bool.false h))
    (R Bool.false h)
theorem eq29 (a0 : ByteArray) (h : Heap) (R : Bool → Heap → Prop) : vc29 a0 h R = vcFn Go.Proofs.Try.prog pl29 Go.Proofs.Try.f29 [.lf (.str a0)] h [.one .bool] R := by kernel_rfl
theorem ok29 {a0 : ByteArray} {h : Heap} {R : Bool → Heap → Prop} (hv : vc29 a0 h R) : Call Go.Proofs.Try.prog 29 [.lf (.str a0)] h [.one .bool] R := call_eq hng hmix Go.Proofs.Try.func29 (eq29 a0 h R) hv
/- 31: (*sediment.vfs.FS).path (f, path) -/
def pl31 : Plan := {
  blk := fun _ => none
  seq := fun _ => none
  loop := fun _ => none
  live := fun | 0 => some [0, 1] | 1 => some [0, 7, 8, 9] | 2 => some [0, 7, 8, 29] | 3 => some [4, 5, 6] | 4 => some [8, 10, 11] | 5 => some [8, 10, 40] | 6 => some [4, 5, 6] | 7 => some [4, 5, 6] | _ => none
  track := fun | _ => false
  draw := fun | _ => .done
  iter := fun | _ => none }
def vc31 (a0 : Option (Nat × Nat)) (a1 : ByteArray) (h : Heap) (R : Option (Nat × Nat) → ByteArray → Int → Heap → Prop) : Prop :=
  Call Go.Proofs.Try.prog 55 [VV.lf (Lf.str a1), VV.lf (Lf.str (ByteArray.mk #[(47 : UInt8)]))] h
    [VT.one LT.str, VT.one LT.str, VT.one LT.bool] fun (t0 t1 : ByteArray) (c2 : Bool) (h3 : Heap) =>
    Br (!c2) (R Option.none (ByteArray.mk #[]) (1 : Int) h3)
      (Call Go.Proofs.Try.prog 29 [VV.lf (Lf.str t0)] h3 [VT.one LT.bool] fun (c4 : Bool) (h5 : Heap) =>
        Br (!c4) (R Option.none (ByteArray.mk #[]) (1 : Int) h5)
          (Call Go.Proofs.Try.prog 29 [VV.lf (Lf.str t1)] h5 [VT.one LT.bool] fun (c6 : Bool) (h7 : Heap) =>
            Br (!c6) (R Option.none (ByteArray.mk #[]) (1 : Int) h7)
              (NilC a0 fun (b8 b9 : Nat) =>
                ∃ (p10 : Option Nat),
                  cellsAt h7 b8 (b9 + 1) [Lf.map p10] ∧
                    ∃ (p11 : Option (Nat × Nat)),
                      ∃ (c12 : Bool),
                        LookR h7 LT.str (VT.one LT.ptr) [Lf.ptr Option.none] p10 t0 [Lf.ptr p11] c12 ∧
                          Br (!c12) (R Option.none (ByteArray.mk #[]) (6 : Int) h7) (R p11 t1 (0 : Int) h7))))
theorem eq31 (a0 : Option (Nat × Nat)) (a1 : ByteArray) (h : Heap) (R : Option (Nat × Nat) → ByteArray → Int → Heap → Prop) : vc31 a0 a1 h R = vcFn Go.Proofs.Try.prog pl31 Go.Proofs.Try.f31 [.lf (.ptr a0), .lf (.str a1)] h [.one .ptr, .one .str, .one (.int .i64)] R := by kernel_rfl
theorem ok31 {a0 : Option (Nat × Nat)} {a1 : ByteArray} {h : Heap} {R : Option (Nat × Nat) → ByteArray → Int → Heap → Prop} (hv : vc31 a0 a1 h R) : Call Go.Proofs.Try.prog 31 [.lf (.ptr a0), .lf (.str a1)] h [.one .ptr, .one .str, .one (.int .i64)] R := call_eq hng hmix Go.Proofs.Try.func31 (eq31 a0 a1 h R) hv
/- 34: (*sediment.vfs.FS).file (f, path) -/
def pl34 : Plan := {
  blk := fun _ => none
  seq := fun _ => none
  loop := fun _ => none
  live := fun | 0 => some [0, 1] | 1 => some [6, 7, 8] | 2 => some [6, 7, 8, 19] | 3 => some [4, 5] | 4 => some [9, 10] | 5 => some [9, 31] | 6 => some [4, 5] | 7 => some [4, 5] | _ => none
  track := fun | _ => false
  draw := fun | _ => .done
  iter := fun | _ => none }
def vc34 (a0 : Option (Nat × Nat)) (a1 : ByteArray) (h : Heap) (R : Option (Nat × Nat) → Int → Heap → Prop) : Prop :=
  Call Go.Proofs.Try.prog 31 [VV.lf (Lf.ptr a0), VV.lf (Lf.str a1)] h [VT.one LT.ptr, VT.one LT.str, VT.one (LT.int IntKind.i64)]
    fun (p0 : Option (Nat × Nat)) (t1 : ByteArray) (i2 : Int) (h3 : Heap) =>
    Br (i2 != (0 : Int)) (R Option.none i2 h3)
      (NilC p0 fun (b4 b5 : Nat) =>
        ∃ (p6 : Option Nat),
          cellsAt h3 b4 (b5 + 0) [Lf.map p6] ∧
            ∃ (p7 : Option (Nat × Nat)),
              ∃ (c8 : Bool), LookR h3 LT.str (VT.one LT.ptr) [Lf.ptr Option.none] p6 t1 [Lf.ptr p7] c8 ∧ Br (!c8) (R Option.none (6 : Int) h3) (R p7 (0 : Int) h3))
theorem eq34 (a0 : Option (Nat × Nat)) (a1 : ByteArray) (h : Heap) (R : Option (Nat × Nat) → Int → Heap → Prop) : vc34 a0 a1 h R = vcFn Go.Proofs.Try.prog pl34 Go.Proofs.Try.f34 [.lf (.ptr a0), .lf (.str a1)] h [.one .ptr, .one (.int .i64)] R := by kernel_rfl
theorem ok34 {a0 : Option (Nat × Nat)} {a1 : ByteArray} {h : Heap} {R : Option (Nat × Nat) → Int → Heap → Prop} (hv : vc34 a0 a1 h R) : Call Go.Proofs.Try.prog 34 [.lf (.ptr a0), .lf (.str a1)] h [.one .ptr, .one (.int .i64)] R := call_eq hng hmix Go.Proofs.Try.func34 (eq34 a0 a1 h R) hv
/- 36: (*sediment.vfs.FS).find (f, name) -/
def pl36 : Plan := {
  blk := fun _ => none
  seq := fun _ => none
  loop := fun _ => none
  live := fun | 0 => some [0, 1] | 1 => some [0, 1, 10] | 2 => some [4, 5] | 3 => some [6, 7] | 4 => some [6, 21] | 5 => some [4, 5] | 6 => some [4, 5] | _ => none
  track := fun | _ => false
  draw := fun | _ => .done
  iter := fun | _ => none }
def vc36 (a0 : Option (Nat × Nat)) (a1 : ByteArray) (h : Heap) (R : Option (Nat × Nat) → Int → Heap → Prop) : Prop :=
  Call Go.Proofs.Try.prog 29 [VV.lf (Lf.str a1)] h [VT.one LT.bool] fun (c0 : Bool) (h1 : Heap) =>
    Br (!c0) (R Option.none (1 : Int) h1)
      (NilC a0 fun (b2 b3 : Nat) =>
        ∃ (p4 : Option Nat),
          cellsAt h1 b2 (b3 + 1) [Lf.map p4] ∧
            ∃ (p5 : Option (Nat × Nat)),
              ∃ (c6 : Bool), LookR h1 LT.str (VT.one LT.ptr) [Lf.ptr Option.none] p4 a1 [Lf.ptr p5] c6 ∧ Br (!c6) (R Option.none (6 : Int) h1) (R p5 (0 : Int) h1))
theorem eq36 (a0 : Option (Nat × Nat)) (a1 : ByteArray) (h : Heap) (R : Option (Nat × Nat) → Int → Heap → Prop) : vc36 a0 a1 h R = vcFn Go.Proofs.Try.prog pl36 Go.Proofs.Try.f36 [.lf (.ptr a0), .lf (.str a1)] h [.one .ptr, .one (.int .i64)] R := by kernel_rfl
theorem ok36 {a0 : Option (Nat × Nat)} {a1 : ByteArray} {h : Heap} {R : Option (Nat × Nat) → Int → Heap → Prop} (hv : vc36 a0 a1 h R) : Call Go.Proofs.Try.prog 36 [.lf (.ptr a0), .lf (.str a1)] h [.one .ptr, .one (.int .i64)] R := call_eq hng hmix Go.Proofs.Try.func36 (eq36 a0 a1 h R) hv
/- 13: (*sediment.vfs.FS).Stop (f, n) -/
def pl13 : Plan := {
  blk := fun _ => none
  seq := fun _ => none
  loop := fun _ => none
  live := fun | 0 => some [] | _ => none
  track := fun | _ => false
  draw := fun | _ => .done
  iter := fun | _ => none }
def vc13 (a0 : Option (Nat × Nat)) (a1 : Int) (h : Heap) (R : Heap → Prop) : Prop :=
  NilC a0 fun (b0 b1 : Nat) =>
    StC h b0 (b1 + 5) [Lf.int IntKind.i64 a1, Lf.int IntKind.i64 (-1 : Int), Lf.int IntKind.i64 (0 : Int)] fun (h2 : Heap) => R h2
theorem eq13 (a0 : Option (Nat × Nat)) (a1 : Int) (h : Heap) (R : Heap → Prop) : vc13 a0 a1 h R = vcFn Go.Proofs.Try.prog pl13 Go.Proofs.Try.f13 [.lf (.ptr a0), .lf (.int .i64 a1)] h [] R := by kernel_rfl
theorem ok13 {a0 : Option (Nat × Nat)} {a1 : Int} {h : Heap} {R : Heap → Prop} (hv : vc13 a0 a1 h R) : Call Go.Proofs.Try.prog 13 [.lf (.ptr a0), .lf (.int .i64 a1)] h [] R := call_eq hng hmix Go.Proofs.Try.func13 (eq13 a0 a1 h R) hv
end Go.V.Ytdeihieblljfcaa
set_option linter.unusedVariables false
set_option maxRecDepth 100000
namespace Go.V.Ytdeihieblljfcaa
open Go Go.V
/- 32: (*sediment.vfs.dir).changes (d, does) -/
def pl32 : Plan := {
  blk := fun _ => none
  seq := fun _ => none
  loop := fun _ => none
  live := fun | 0 => some [0, 1] | 1 => some [0, 1] | 2 => some [] | _ => none
  track := fun | _ => false
  draw := fun | 0 => .still 0 (.still 1 (.still 2 (.still 3 (.still 4 (.still 5 (.still 6 (.still 7 (.still 8 (.mem 9 (.mem 10 (.still 11 (.still 12 (.mem 13 (.done)))))))))))))) | _ => .done
  iter := fun | _ => none }
def vc32 (a0 : Option (Nat × Nat)) (a1 : Value) (h : Heap) (R : Heap → Prop) : Prop :=
  NilC a0 fun (b0 b1 : Nat) =>
    ∃ (s2 : Slc),
      cellsAt h b0 (b1 + 1) [Lf.slc s2] ∧
        NilC a0 fun (b3 b4 : Nat) =>
          ∃ (p5 : Option Nat),
            cellsAt h b3 (b4 + 0) [Lf.map p5] ∧
              New 69 [Lf.map p5] h fun (b6 : Nat) (h7 : Heap) =>
                cellsAt h7 b0 (b1 + 1) [Lf.slc s2] ∧
                  AppC 69 [Lf.map Option.none] 1 8 s2 (Slc.mk (Option.some (b6, 0)) 1 1) h7 fun (s8 : Slc) (h9 : Heap) =>
                    NilC a0 fun (b10 b11 : Nat) =>
                      StC h9 b10 (b11 + 1) [Lf.slc s8] fun (h12 : Heap) =>
                        NilC a0 fun (b13 b14 : Nat) =>
                          ∃ (p15 : Option Nat),
                            cellsAt h12 b13 (b14 + 0) [Lf.map p15] ∧
                              Call Go.Proofs.Try.prog 56 [VV.lf (Lf.map p15)] h12 [VT.one LT.map] fun (p16 : Option Nat) (h17 : Heap) =>
                                NilC a0 fun (b18 b19 : Nat) =>
                                  StC h17 b18 (b19 + 0) [Lf.map p16] fun (h20 : Heap) =>
                                    NilC a0 fun (b21 b22 : Nat) =>
                                      ∃ (p23 : Option Nat),
                                        cellsAt h20 b21 (b22 + 0) [Lf.map p23] ∧
                                          CallV Go.Proofs.Try.prog a1 [VV.lf (Lf.map p23)] h20 [] fun (h24 : Heap) => R h24
theorem eq32 (a0 : Option (Nat × Nat)) (a1 : Value) (h : Heap) (R : Heap → Prop) : vc32 a0 a1 h R = vcFn Go.Proofs.Try.prog pl32 Go.Proofs.Try.f32 [.lf (.ptr a0), .lf (.raw a1)] h [] R := by kernel_rfl
theorem ok32 {a0 : Option (Nat × Nat)} {a1 : Value} {h : Heap} {R : Heap → Prop} (hv : vc32 a0 a1 h R) : Call Go.Proofs.Try.prog 32 [.lf (.ptr a0), .lf (.raw a1)] h [] R := call_eq hng hmix Go.Proofs.Try.func32 (eq32 a0 a1 h R) hv
/- 33: (*sediment.vfs.FS).Create$1 (n) -/
def pl33 : Plan := {
  blk := fun _ => none
  seq := fun _ => none
  loop := fun _ => none
  live := fun | 0 => some [] | _ => none
  track := fun | _ => false
  draw := fun | _ => .done
  iter := fun | _ => none }
def vc33 (a0 : Option Nat) (f0 : Nat) (o0 : Nat) (h : Heap) (R : Heap → Prop) : Prop :=
  ∃ (t0 : ByteArray),
    cellsAt h f0 o0 [Lf.str t0] ∧
      New 80
        [Lf.slc (Slc.mk Option.none 0 0), Lf.slc (Slc.mk Option.none 0 0), Lf.slc (Slc.mk Option.none 0 0)] h
        fun (b1 : Nat) (h2 : Heap) => UpdC LT.str (VT.one LT.ptr) h2 a0 t0 [Lf.ptr (Option.some (b1, 0))] fun (h3 : Heap) => R h3
theorem eq33 (a0 : Option Nat) (f0 : Nat) (o0 : Nat) (h : Heap) (R : Heap → Prop) : vc33 a0 f0 o0 h R = vcFn Go.Proofs.Try.prog pl33 Go.Proofs.Try.f33 [.lf (.map a0), .lf (.ptr (some (f0, o0)))] h [] R := by kernel_rfl
theorem ok33 {a0 : Option Nat} {f0 : Nat} {o0 : Nat} {h : Heap} {R : Heap → Prop} (hv : vc33 a0 f0 o0 h R) : Call Go.Proofs.Try.prog 33 [.lf (.map a0), .lf (.ptr (some (f0, o0)))] h [] R := call_eq hng hmix Go.Proofs.Try.func33 (eq33 a0 f0 o0 h R) hv
/- 8: (*sediment.vfs.FS).Mkdir (f, name) -/
def pl8 : Plan := {
  blk := fun _ => none
  seq := fun _ => none
  loop := fun _ => none
  live := fun | 0 => some [0, 1] | 1 => some [0, 1, 11] | 2 => some [4] | 3 => some [0, 1, 6] | 4 => some [0, 1, 21] | 5 => some [4] | 6 => some [0, 1, 27] | 7 => some [4] | 8 => some [0, 1, 7] | 9 => some [0, 1, 7, 34] | 10 => some [4] | 11 => some [] | 12 => some [4] | _ => none
  track := fun | _ => false
  draw := fun | _ => .done
  iter := fun | _ => none }
def vc8 (a0 : Option (Nat × Nat)) (a1 : ByteArray) (h : Heap) (R : Int → Heap → Prop) : Prop :=
  Call Go.Proofs.Try.prog 29 [VV.lf (Lf.str a1)] h [VT.one LT.bool] fun (c0 : Bool) (h1 : Heap) =>
    Br (!c0) (R (1 : Int) h1)
      (NilC a0 fun (b2 b3 : Nat) =>
        ∃ (p4 : Option Nat),
          cellsAt h1 b2 (b3 + 1) [Lf.map p4] ∧
            ∃ (p5 : Option (Nat × Nat)),
              ∃ (c6 : Bool),
                LookR h1 LT.str (VT.one LT.ptr) [Lf.ptr Option.none] p4 a1 [Lf.ptr p5] c6 ∧
                  Br c6 (R (7 : Int) h1)
                    (NilC a0 fun (b7 b8 : Nat) =>
                      ∃ (p9 : Option Nat),
                        cellsAt h1 b7 (b8 + 1) [Lf.map p9] ∧
                          ∃ (i10 : Int),
                            LenR h1 p9 i10 ∧
                              Br (Decidable.decide (i10 ≥ (64 : Int))) (R (2 : Int) h1)
                                (Call Go.Proofs.Try.prog 30 [VV.lf (Lf.ptr a0)] h1 [VT.one (LT.int IntKind.i64), VT.one LT.bool]
                                  fun (i11 : Int) (c12 : Bool) (h13 : Heap) =>
                                  Br (i11 != (0 : Int)) (R i11 h13)
                                    (NilC a0 fun (b14 b15 : Nat) =>
                                      ∃ (p16 : Option Nat),
                                        cellsAt h13 b14 (b15 + 1) [Lf.map p16] ∧
                                          NewM h13 fun (b17 : Nat) (h18 : Heap) =>
                                            New 72 [Lf.map (Option.some b17), Lf.slc (Slc.mk Option.none 0 0)] h18 fun (b19 : Nat) (h20 : Heap) =>
                                              UpdC LT.str (VT.one LT.ptr) h20 p16 a1 [Lf.ptr (Option.some (b19, 0))] fun (h21 : Heap) => R (0 : Int) h21))))
theorem eq8 (a0 : Option (Nat × Nat)) (a1 : ByteArray) (h : Heap) (R : Int → Heap → Prop) : vc8 a0 a1 h R = vcFn Go.Proofs.Try.prog pl8 Go.Proofs.Try.f8 [.lf (.ptr a0), .lf (.str a1)] h [.one (.int .i64)] R := by kernel_rfl
theorem ok8 {a0 : Option (Nat × Nat)} {a1 : ByteArray} {h : Heap} {R : Int → Heap → Prop} (hv : vc8 a0 a1 h R) : Call Go.Proofs.Try.prog 8 [.lf (.ptr a0), .lf (.str a1)] h [.one (.int .i64)] R := call_eq hng hmix Go.Proofs.Try.func8 (eq8 a0 a1 h R) hv
/- 9: (*sediment.vfs.FS).Create (f, path) -/
def pl9 : Plan := {
  blk := fun _ => none
  seq := fun _ => none
  loop := fun _ => none
  live := fun | 0 => some [0, 1] | 1 => some [0, 5, 6, 7] | 2 => some [0, 5, 6, 7, 20] | 3 => some [4] | 4 => some [0, 5, 6, 9] | 5 => some [0, 5, 6, 31] | 6 => some [4] | 7 => some [0, 5, 6, 37] | 8 => some [4] | 9 => some [5, 6, 10] | 10 => some [5, 6, 10, 44] | 11 => some [4] | 12 => some [] | 13 => some [4] | _ => none
  track := fun | _ => false
  draw := fun | 4 => .still 0 (.still 1 (.still 2 (.still 3 (.still 4 (.still 5 (.still 6 (.still 7 (.still 8 (.still 9 (.still 10 (.done))))))))))) | _ => .done
  iter := fun | _ => none }
def vc9 (a0 : Option (Nat × Nat)) (a1 : ByteArray) (h : Heap) (R : Int → Heap → Prop) : Prop :=
  Call Go.Proofs.Try.prog 31 [VV.lf (Lf.ptr a0), VV.lf (Lf.str a1)] h [VT.one LT.ptr, VT.one LT.str, VT.one (LT.int IntKind.i64)]
    fun (p0 : Option (Nat × Nat)) (t1 : ByteArray) (i2 : Int) (h3 : Heap) =>
    New 9 [Lf.str (ByteArray.mk #[])] h3 fun (b4 : Nat) (h5 : Heap) =>
      StC h5 b4 0 [Lf.str t1] fun (h6 : Heap) =>
        Br (i2 != (0 : Int)) (R i2 h6)
          (NilC p0 fun (b7 b8 : Nat) =>
            ∃ (p9 : Option Nat),
              cellsAt h6 b7 (b8 + 0) [Lf.map p9] ∧
                ∃ (t10 : ByteArray),
                  cellsAt h6 b4 0 [Lf.str t10] ∧
                    ∃ (p11 : Option (Nat × Nat)),
                      ∃ (c12 : Bool),
                        LookR h6 LT.str (VT.one LT.ptr) [Lf.ptr Option.none] p9 t10 [Lf.ptr p11] c12 ∧
                          Br c12 (R (7 : Int) h6)
                            (NilC p0 fun (b13 b14 : Nat) =>
                              ∃ (p15 : Option Nat),
                                cellsAt h6 b13 (b14 + 0) [Lf.map p15] ∧
                                  ∃ (i16 : Int),
                                    LenR h6 p15 i16 ∧
                                      Br (Decidable.decide (i16 ≥ (1024 : Int))) (R (2 : Int) h6)
                                        (Call Go.Proofs.Try.prog 30 [VV.lf (Lf.ptr a0)] h6 [VT.one (LT.int IntKind.i64), VT.one LT.bool]
                                          fun (i17 : Int) (c18 : Bool) (h19 : Heap) =>
                                          Br (i17 != (0 : Int)) (R i17 h19)
                                            (Call Go.Proofs.Try.prog 32
                                              [VV.lf (Lf.ptr p0),
                                                VV.lf (Lf.raw (Value.func (Fn.func 33) #[] #[Value.pointer (Option.some (Addr.mk b4 0 Option.none))]))]
                                              h19 [] fun (h20 : Heap) => R (0 : Int) h20))))
theorem eq9 (a0 : Option (Nat × Nat)) (a1 : ByteArray) (h : Heap) (R : Int → Heap → Prop) : vc9 a0 a1 h R = vcFn Go.Proofs.Try.prog pl9 Go.Proofs.Try.f9 [.lf (.ptr a0), .lf (.str a1)] h [.one (.int .i64)] R := by kernel_rfl
theorem ok9 {a0 : Option (Nat × Nat)} {a1 : ByteArray} {h : Heap} {R : Int → Heap → Prop} (hv : vc9 a0 a1 h R) : Call Go.Proofs.Try.prog 9 [.lf (.ptr a0), .lf (.str a1)] h [.one (.int .i64)] R := call_eq hng hmix Go.Proofs.Try.func9 (eq9 a0 a1 h R) hv
/- 10: (*sediment.vfs.FS).Append (f, path, b) -/
def pl10 : Plan := {
  blk := fun _ => none
  seq := fun _ => none
  loop := fun _ => none
  live := fun | 0 => some [0, 1, 2] | 1 => some [0, 2, 7, 8] | 2 => some [0, 2, 7, 8, 16] | 3 => some [6] | 4 => some [6] | _ => none
  track := fun | _ => false
  draw := fun | _ => .done
  iter := fun | _ => none }
def vc10 (a0 : Option (Nat × Nat)) (a1 : ByteArray) (a2 : Slc) (h : Heap) (R : Int → Heap → Prop) : Prop :=
  Call Go.Proofs.Try.prog 34 [VV.lf (Lf.ptr a0), VV.lf (Lf.str a1)] h [VT.one LT.ptr, VT.one (LT.int IntKind.i64)]
    fun (p0 : Option (Nat × Nat)) (i1 : Int) (h2 : Heap) =>
    Br (i1 != (0 : Int)) (R i1 h2)
      (NilC p0 fun (b3 b4 : Nat) =>
        ∃ (s5 : Slc),
          cellsAt h2 b3 (b4 + 2) [Lf.slc s5] ∧
            Call Go.Proofs.Try.prog 35
              [VV.lf (Lf.ptr a0), VV.lf (Lf.ptr p0), VV.lf (Lf.int IntKind.i64 (↑(Slc.len s5) : Int)), VV.lf (Lf.slc a2)] h2
              [VT.one (LT.int IntKind.i64)] fun (i6 : Int) (h7 : Heap) => R i6 h7)
theorem eq10 (a0 : Option (Nat × Nat)) (a1 : ByteArray) (a2 : Slc) (h : Heap) (R : Int → Heap → Prop) : vc10 a0 a1 a2 h R = vcFn Go.Proofs.Try.prog pl10 Go.Proofs.Try.f10 [.lf (.ptr a0), .lf (.str a1), .lf (.slc a2)] h [.one (.int .i64)] R := by kernel_rfl
theorem ok10 {a0 : Option (Nat × Nat)} {a1 : ByteArray} {a2 : Slc} {h : Heap} {R : Int → Heap → Prop} (hv : vc10 a0 a1 a2 h R) : Call Go.Proofs.Try.prog 10 [.lf (.ptr a0), .lf (.str a1), .lf (.slc a2)] h [.one (.int .i64)] R := call_eq hng hmix Go.Proofs.Try.func10 (eq10 a0 a1 a2 h R) hv
/- 35: (*sediment.vfs.FS).writes () · seq 2: #23 · seq 5: #46 · seq 9: #3 · seq 10: #67 · seq 13:  -/
def pl35 : Plan := {
  blk := fun _ => none
  seq := fun | 2 => some ⟨[(23, .one .bool)], [], []⟩ | 5 => some ⟨[(46, .one .bool)], [], []⟩ | 9 => some ⟨[(3, .one .slc)], [], []⟩ | 10 => some ⟨[(67, .one .bool)], [], []⟩ | 13 => some ⟨[], [], []⟩ | _ => none
  loop := fun _ => none
  live := fun | 0 => some [0, 1, 2, 3] | 1 => some [0, 1, 2, 3, 23] | 2 => some [8] | 3 => some [0, 1, 2, 3, 9] | 4 => some [0, 1, 2, 3, 46] | 5 => some [8] | 6 => some [1, 2, 3, 10, 11] | 7 => some [1, 2, 3, 10, 11, 52] | 8 => some [1, 2, 3, 10, 11] | 9 => some [1, 2, 3, 10, 67] | 10 => some [1, 10, 12] | 11 => some [1, 10, 12] | 12 => some [10] | 13 => some [8] | _ => none
  track := fun | 12 => true | _ => false
  draw := fun | 4 => .still 0 (.still 1 (.still 2 (.still 3 (.still 5 (.still 7 (.still 8 (.still 9 (.still 10 (.mem 4 (.still 6 (.still 11 (.still 12 (.done))))))))))))) | 11 => .still 0 (.still 1 (.still 2 (.still 3 (.still 4 (.still 5 (.mem 6 (.mem 7 (.still 8 (.still 9 (.mem 10 (.done))))))))))) | 12 => .still 0 (.still 1 (.still 2 (.still 3 (.still 4 (.still 5 (.mem 6 (.still 7 (.still 8 (.mem 9 (.done)))))))))) | _ => .done
  iter := fun | _ => none }
def vc35 (a0 : Option (Nat × Nat)) (a1 : Option (Nat × Nat)) (a2 : Int) (a3 : Slc) (h : Heap) (R : Int → Heap → Prop) : Prop :=
  ∃ (I0 : Bool → Heap → Prop),
    Br (Decidable.decide (a2 < (0 : Int))) (I0 Bool.true h)
        (NilC a1 fun (b1 b2 : Nat) => ∃ (s3 : Slc), cellsAt h b1 (b2 + 2) [Lf.slc s3] ∧ I0 (Decidable.decide (a2 > (↑(Slc.len s3) : Int))) h) ∧
      ∀ (c4 : Bool) (h5 : Heap),
        I0 c4 h5 →
          Br c4 (R (1 : Int) h5)
            (NilC a1 fun (b6 b7 : Nat) =>
              ∃ (s8 : Slc),
                cellsAt h5 b6 (b7 + 2) [Lf.slc s8] ∧
                  ∃ (I9 : Bool → Heap → Prop),
                    Br (Decidable.decide (IntKind.wrap IntKind.i64 (IntKind.wrap IntKind.i64 (a2 + (↑(Slc.len a3) : Int)) - (↑(Slc.len s8) : Int)) > (0 : Int)))
                        (NilC a0 fun (b10 b11 : Nat) =>
                          ∃ (i12 : Int),
                            cellsAt h5 b10 (b11 + 0) [Lf.int IntKind.i64 i12] ∧
                              Call Go.Proofs.Try.prog 49 [VV.lf (Lf.ptr a0)] h5 [VT.one (LT.int IntKind.i64)] fun (i13 : Int) (h14 : Heap) =>
                                cellsAt h14 b10 (b11 + 0) [Lf.int IntKind.i64 i12] ∧
                                  I9
                                    (Decidable.decide
                                      (IntKind.wrap IntKind.i64
                                          (i13 + IntKind.wrap IntKind.i64 (IntKind.wrap IntKind.i64 (a2 + (↑(Slc.len a3) : Int)) - (↑(Slc.len s8) : Int))) >
                                        i12))
                                    h14)
                        (I9 Bool.false h5) ∧
                      ∀ (c15 : Bool) (h16 : Heap),
                        I9 c15 h16 →
                          Br c15 (R (20 : Int) h16)
                            (Call Go.Proofs.Try.prog 30 [VV.lf (Lf.ptr a0)] h16 [VT.one (LT.int IntKind.i64), VT.one LT.bool]
                              fun (i17 : Int) (c18 : Bool) (h19 : Heap) =>
                              ∃ (I20 : Slc → Heap → Prop),
                                Br c18
                                    (((2 : Int) = (0 : Int) → False) ∧
                                      (0 : Int) ≤ IntKind.wrap IntKind.i64 (Int.tdiv (↑(Slc.len a3) : Int) (2 : Int)) ∧
                                        IntKind.wrap IntKind.i64 (Int.tdiv (↑(Slc.len a3) : Int) (2 : Int)) ≤ (↑(Slc.cap a3) : Int) ∧
                                          I20 (Slc.sub a3 1 0 (Int.toNat (IntKind.wrap IntKind.i64 (Int.tdiv (↑(Slc.len a3) : Int) (2 : Int)))) (Slc.cap a3)) h19)
                                    (I20 a3 h19) ∧
                                  ∀ (s21 : Slc) (h22 : Heap),
                                    I20 s21 h22 →
                                      ∃ (I23 : Heap → Prop),
                                        (∃ (I24 : Bool → Heap → Prop),
                                            Br (i17 == (0 : Int)) (I24 (Decidable.decide ((↑(Slc.len s21) : Int) > (0 : Int))) h22)
                                                (Br c18 (I24 (Decidable.decide ((↑(Slc.len s21) : Int) > (0 : Int))) h22) (I24 Bool.false h22)) ∧
                                              ∀ (c25 : Bool) (h26 : Heap),
                                                I24 c25 h26 →
                                                  Br c25
                                                    (Call Go.Proofs.Try.prog 47 [VV.lf (Lf.slc s21)] h26 [VT.one LT.slc] fun (s27 : Slc) (h28 : Heap) =>
                                                      New 105 [Lf.int IntKind.i64 (0 : Int), Lf.slc (Slc.mk Option.none 0 0)] h28
                                                        fun (b29 : Nat) (h30 : Heap) =>
                                                        Set b29 105 [Lf.int IntKind.i64 a2, Lf.slc s27] h30 fun (h31 : Heap) =>
                                                          NilC a1 fun (b32 b33 : Nat) =>
                                                            ∃ (s34 : Slc),
                                                              cellsAt h31 b32 (b33 + 1) [Lf.slc s34] ∧
                                                                New 105 [Lf.int IntKind.i64 a2, Lf.slc s27] h31 fun (b35 : Nat) (h36 : Heap) =>
                                                                  cellsAt h36 b32 (b33 + 1) [Lf.slc s34] ∧
                                                                    AppC 105 [Lf.int IntKind.i64 (0 : Int), Lf.slc (Slc.mk Option.none 0 0)] 2
                                                                      32 s34 (Slc.mk (Option.some (b35, 0)) 1 1) h36 fun (s37 : Slc) (h38 : Heap) =>
                                                                      keepB h36 h38 [b29] ∧
                                                                        NilC a1 fun (b39 b40 : Nat) =>
                                                                          StC h38 b39 (b40 + 1) [Lf.slc s37] fun (h41 : Heap) =>
                                                                            keepB h38 h41 [b29] ∧
                                                                              NilC a1 fun (b42 b43 : Nat) =>
                                                                                ∃ (s44 : Slc),
                                                                                  cellsAt h41 b42 (b43 + 2) [Lf.slc s44] ∧
                                                                                    Call Go.Proofs.Try.prog 57
                                                                                      [VV.agg [Lf.int IntKind.i64 a2, Lf.slc s27], VV.lf (Lf.slc s44)] h41
                                                                                      [VT.one LT.slc] fun (s45 : Slc) (h46 : Heap) =>
                                                                                      keepB h41 h46 [b29] ∧
                                                                                        NilC a1 fun (b47 b48 : Nat) =>
                                                                                          StC h46 b47 (b48 + 2) [Lf.slc s45] fun (h49 : Heap) =>
                                                                                            keepB h46 h49 [b29] ∧ I23 h49)
                                                    (I23 h26)) ∧
                                          ∀ (h50 : Heap), I23 h50 → R i17 h50))
theorem eq35 (a0 : Option (Nat × Nat)) (a1 : Option (Nat × Nat)) (a2 : Int) (a3 : Slc) (h : Heap) (R : Int → Heap → Prop) : vc35 a0 a1 a2 a3 h R = vcFn Go.Proofs.Try.prog pl35 Go.Proofs.Try.f35 [.lf (.ptr a0), .lf (.ptr a1), .lf (.int .i64 a2), .lf (.slc a3)] h [.one (.int .i64)] R := by kernel_rfl
theorem ok35 {a0 : Option (Nat × Nat)} {a1 : Option (Nat × Nat)} {a2 : Int} {a3 : Slc} {h : Heap} {R : Int → Heap → Prop} (hv : vc35 a0 a1 a2 a3 h R) : Call Go.Proofs.Try.prog 35 [.lf (.ptr a0), .lf (.ptr a1), .lf (.int .i64 a2), .lf (.slc a3)] h [.one (.int .i64)] R := call_eq hng hmix Go.Proofs.Try.func35 (eq35 a0 a1 a2 a3 h R) hv
/- 45: (*sediment.vfs.file).unsynced (x) · loop 3: n, #11 -/
def pl45 : Plan := {
  blk := fun _ => none
  seq := fun _ => none
  loop := fun | 3 => some ⟨[(3, .one (.int .i64)), (11, .one (.int .i64))], [], []⟩ | _ => none
  live := fun | 0 => some [0] | 1 => some [0, 3] | 2 => some [3, 9, 10, 11] | 3 => some [3, 9, 10, 11, 12] | 4 => some [3, 5, 9, 10, 11] | 5 => some [3, 9, 10, 11] | 6 => some [3, 9, 10, 11] | 7 => some [2] | _ => none
  track := fun | 5 => true | _ => false
  draw := fun | _ => .done
  iter := fun | _ => none }
def vc45 (a0 : Option (Nat × Nat)) (h : Heap) (R : Int → Heap → Prop) : Prop :=
  NilC a0 fun (b0 b1 : Nat) =>
    ∃ (s2 : Slc),
      cellsAt h b0 (b1 + 1) [Lf.slc s2] ∧
        ∃ (I3 : Int → Int → Heap → Nat → Prop),
          (∃ (b4 : Nat), I3 (0 : Int) (0 : Int) h b4) ∧
            ∀ (i5 i6 : Int) (h7 : Heap) (b8 : Nat),
              I3 i5 i6 h7 b8 →
                Br (Decidable.decide (i6 < (↑(Slc.len s2) : Int)))
                  (IxC s2 i6 2 fun (b9 b10 : Nat) =>
                    ∃ (i11 : Int),
                      ∃ (s12 : Slc),
                        cellsAt h7 b9 b10 [Lf.int IntKind.i64 i11, Lf.slc s12] ∧
                          New 105 [Lf.int IntKind.i64 (0 : Int), Lf.slc (Slc.mk Option.none 0 0)] h7 fun (b13 : Nat) (h14 : Heap) =>
                            Set b13 105 [Lf.int IntKind.i64 i11, Lf.slc s12] h14 fun (h15 : Heap) =>
                              ∃ (b16 : Nat), b16 < b8 ∧ I3 (IntKind.wrap IntKind.i64 (i5 + (↑(Slc.len s12) : Int))) (IntKind.wrap IntKind.i64 (i6 + (1 : Int))) h15 b16)
                  (R i5 h7)
theorem eq45 (a0 : Option (Nat × Nat)) (h : Heap) (R : Int → Heap → Prop) : vc45 a0 h R = vcFn Go.Proofs.Try.prog pl45 Go.Proofs.Try.f45 [.lf (.ptr a0)] h [.one (.int .i64)] R := by kernel_rfl
theorem ok45 {a0 : Option (Nat × Nat)} {h : Heap} {R : Int → Heap → Prop} (hv : vc45 a0 h R) : Call Go.Proofs.Try.prog 45 [.lf (.ptr a0)] h [.one (.int .i64)] R := call_eq hng hmix Go.Proofs.Try.func45 (eq45 a0 h R) hv
/- 46: (*sediment.vfs.file).kept (x, k) · blk 1: k, b · loop 2: k, b, #17 -/
def pl46 : Plan := {
  blk := fun | 1 => some ⟨[(1, .one (.int .i64)), (4, .one .slc)], [], []⟩ | _ => none
  seq := fun _ => none
  loop := fun | 2 => some ⟨[(1, .one (.int .i64)), (4, .one .slc), (17, .one (.int .i64))], [], []⟩ | _ => none
  live := fun | 0 => some [0, 1, 4] | 1 => some [0, 1, 4, 15, 16, 17] | 2 => some [0, 1, 4, 15, 16, 17, 18] | 3 => some [0, 1, 4, 6, 15, 16, 17] | 4 => some [0, 1, 4, 6, 7, 15, 16, 17] | 5 => some [0, 1, 4, 6, 7, 15, 16, 17, 27] | 6 => some [0, 1, 4, 7, 15, 16, 17] | 7 => some [0, 1, 4, 15, 16, 17] | 8 => some [0, 1, 4, 15, 16, 17] | 9 => some [] | _ => none
  track := fun | 6 => true | _ => false
  draw := fun | 6 => .still 0 (.still 1 (.still 2 (.still 3 (.still 4 (.still 5 (.still 6 (.still 7 (.mem 8 (.still 9 (.done)))))))))) | _ => .done
  iter := fun | _ => none }
def vc46 (a0 : Option (Nat × Nat)) (a1 : Int) (h : Heap) (R : Heap → Prop) : Prop :=
  NilC a0 fun (b0 b1 : Nat) =>
    ∃ (s2 : Slc),
      cellsAt h b0 (b1 + 0) [Lf.slc s2] ∧
        NilC a0 fun (b3 b4 : Nat) =>
          ∃ (s5 : Slc),
            cellsAt h b3 (b4 + 1) [Lf.slc s5] ∧
              ∃ (I6 : Int → Slc → Int → Heap → Nat → Prop),
                (∃ (b7 : Nat), I6 a1 s2 (0 : Int) h b7) ∧
                  ∀ (i8 : Int) (s9 : Slc) (i10 : Int) (h11 : Heap) (b12 : Nat),
                    I6 i8 s9 i10 h11 b12 →
                      Br (Decidable.decide (i10 < (↑(Slc.len s5) : Int)))
                        (∃ (I13 : Int → Slc → Heap → Prop),
                          (IxC s5 i10 2 fun (b14 b15 : Nat) =>
                              ∃ (i16 : Int),
                                ∃ (s17 : Slc),
                                  cellsAt h11 b14 b15 [Lf.int IntKind.i64 i16, Lf.slc s17] ∧
                                    New 105 [Lf.int IntKind.i64 (0 : Int), Lf.slc (Slc.mk Option.none 0 0)] h11 fun (b18 : Nat) (h19 : Heap) =>
                                      Set b18 105 [Lf.int IntKind.i64 i16, Lf.slc s17] h19 fun (h20 : Heap) =>
                                        Br (Decidable.decide ((if (↑(Slc.len s17) : Int) < i8 then (↑(Slc.len s17) : Int) else i8) > (0 : Int)))
                                          (((0 : Int) ≤ if (↑(Slc.len s17) : Int) < i8 then (↑(Slc.len s17) : Int) else i8) ∧
                                            (if (↑(Slc.len s17) : Int) < i8 then (↑(Slc.len s17) : Int) else i8) ≤ (↑(Slc.cap s17) : Int) ∧
                                              Call Go.Proofs.Try.prog 57
                                                [VV.agg
                                                    [Lf.int IntKind.i64 i16,
                                                      Lf.slc
                                                        (Slc.sub s17 1 0 (Int.toNat (if (↑(Slc.len s17) : Int) < i8 then (↑(Slc.len s17) : Int) else i8))
                                                          (Slc.cap s17))],
                                                  VV.lf (Lf.slc s9)]
                                                h20 [VT.one LT.slc] fun (s21 : Slc) (h22 : Heap) =>
                                                keepB h20 h22 [b18] ∧
                                                  I13 (IntKind.wrap IntKind.i64 (i8 - if (↑(Slc.len s17) : Int) < i8 then (↑(Slc.len s17) : Int) else i8)) s21 h22)
                                          (I13 (IntKind.wrap IntKind.i64 (i8 - if (↑(Slc.len s17) : Int) < i8 then (↑(Slc.len s17) : Int) else i8)) s9 h20)) ∧
                            ∀ (i23 : Int) (s24 : Slc) (h25 : Heap), I13 i23 s24 h25 → ∃ (b26 : Nat), b26 < b12 ∧ I6 i23 s24 (IntKind.wrap IntKind.i64 (i10 + (1 : Int))) h25 b26)
                        (NilC a0 fun (b27 b28 : Nat) =>
                          StC h11 b27 (b28 + 0) [Lf.slc s9] fun (h29 : Heap) =>
                            NilC a0 fun (b30 b31 : Nat) =>
                              StC h29 b30 (b31 + 1) [Lf.slc (Slc.mk Option.none 0 0)] fun (h32 : Heap) =>
                                NilC a0 fun (b33 b34 : Nat) => StC h32 b33 (b34 + 2) [Lf.slc s9] fun (h35 : Heap) => R h35)
theorem eq46 (a0 : Option (Nat × Nat)) (a1 : Int) (h : Heap) (R : Heap → Prop) : vc46 a0 a1 h R = vcFn Go.Proofs.Try.prog pl46 Go.Proofs.Try.f46 [.lf (.ptr a0), .lf (.int .i64 a1)] h [] R := by kernel_rfl
theorem ok46 {a0 : Option (Nat × Nat)} {a1 : Int} {h : Heap} {R : Heap → Prop} (hv : vc46 a0 a1 h R) : Call Go.Proofs.Try.prog 46 [.lf (.ptr a0), .lf (.int .i64 a1)] h [] R := call_eq hng hmix Go.Proofs.Try.func46 (eq46 a0 a1 h R) hv
/- 47: slices.Clone[[]byte,byte] (s) -/
def pl47 : Plan := {
  blk := fun _ => none
  seq := fun _ => none
  loop := fun _ => none
  live := fun | 0 => some [0] | 1 => some [0, 4] | 2 => some [2] | 3 => some [2] | _ => none
  track := fun | _ => false
  draw := fun | _ => .done
  iter := fun | _ => none }
def vc47 (a0 : Slc) (h : Heap) (R : Slc → Heap → Prop) : Prop :=
  Br (Option.isNone (Slc.a a0)) (R (Slc.mk Option.none 0 0) h)
    (New 5 [] h fun (b0 : Nat) (h1 : Heap) =>
      AppC 5 [Lf.int IntKind.u8 (0 : Int)] 1 1 (Slc.mk (Option.some (b0, 0)) 0 0) a0 h1 fun (s2 : Slc) (h3 : Heap) =>
        R s2 h3)
theorem eq47 (a0 : Slc) (h : Heap) (R : Slc → Heap → Prop) : vc47 a0 h R = vcFn Go.Proofs.Try.prog pl47 Go.Proofs.Try.f47 [.lf (.slc a0)] h [.one .slc] R := by kernel_rfl
theorem ok47 {a0 : Slc} {h : Heap} {R : Slc → Heap → Prop} (hv : vc47 a0 h R) : Call Go.Proofs.Try.prog 47 [.lf (.slc a0)] h [.one .slc] R := call_eq hng hmix Go.Proofs.Try.func47 (eq47 a0 h R) hv
/- 57: (sediment.vfs.write).over (w, b) -/
def pl57 : Plan := {
  blk := fun _ => none
  seq := fun _ => none
  loop := fun _ => none
  live := fun | 0 => some [1, 2] | 1 => some [1, 2, 5] | 2 => some [1, 2, 5, 15] | 3 => some [1, 2] | 4 => some [1, 2] | 5 => some [1] | 6 => some [4] | _ => none
  track := fun | 2 => true | _ => false
  draw := fun | 5 => .still 0 (.still 1 (.still 2 (.still 3 (.still 4 (.still 5 (.mem 6 (.done))))))) | _ => .done
  iter := fun | _ => none }
def vc57 (a0 : Int) (a1 : Slc) (a2 : Slc) (h : Heap) (R : Slc → Heap → Prop) : Prop :=
  New 105 [Lf.int IntKind.i64 a0, Lf.slc a1] h fun (b0 : Nat) (h1 : Heap) =>
    Br (Decidable.decide (IntKind.wrap IntKind.i64 (a0 + (↑(Slc.len a1) : Int)) > (↑(Slc.len a2) : Int)))
      (Call Go.Proofs.Try.prog 47 [VV.lf (Lf.slc a2)] h1 [VT.one LT.slc] fun (s2 : Slc) (h3 : Heap) =>
        keepB h1 h3 [b0] ∧
          AppZ 5 [Lf.int IntKind.u8 (0 : Int)] 1 1 s2
            (IntKind.wrap IntKind.i64 (IntKind.wrap IntKind.i64 (a0 + (↑(Slc.len a1) : Int)) - (↑(Slc.len a2) : Int))) h3 fun (s4 : Slc) (h5 : Heap) =>
            keepB h3 h5 [b0] ∧
              (0 : Int) ≤ a0 ∧
                a0 ≤ (↑(Slc.len s4) : Int) ∧
                  CpyC 1 (Slc.sub s4 1 (Int.toNat a0) (Slc.len s4) (Slc.cap s4)) a1 h5 fun (i6 : Int) (h7 : Heap) => keepB h5 h7 [b0] ∧ R s4 h7)
      (Call Go.Proofs.Try.prog 47 [VV.lf (Lf.slc a2)] h1 [VT.one LT.slc] fun (s8 : Slc) (h9 : Heap) =>
        keepB h1 h9 [b0] ∧
          (0 : Int) ≤ a0 ∧
            a0 ≤ (↑(Slc.len s8) : Int) ∧
              CpyC 1 (Slc.sub s8 1 (Int.toNat a0) (Slc.len s8) (Slc.cap s8)) a1 h9 fun (i10 : Int) (h11 : Heap) => keepB h9 h11 [b0] ∧ R s8 h11)
theorem eq57 (a0 : Int) (a1 : Slc) (a2 : Slc) (h : Heap) (R : Slc → Heap → Prop) : vc57 a0 a1 a2 h R = vcFn Go.Proofs.Try.prog pl57 Go.Proofs.Try.f57 [.agg [.int .i64 a0, .slc a1], .lf (.slc a2)] h [.one .slc] R := by kernel_rfl
theorem ok57 {a0 : Int} {a1 : Slc} {a2 : Slc} {h : Heap} {R : Slc → Heap → Prop} (hv : vc57 a0 a1 a2 h R) : Call Go.Proofs.Try.prog 57 [.agg [.int .i64 a0, .slc a1], .lf (.slc a2)] h [.one .slc] R := call_eq hng hmix Go.Proofs.Try.func57 (eq57 a0 a1 a2 h R) hv
end Go.V.Ytdeihieblljfcaa
