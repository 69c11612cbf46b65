/- This text proves a part of the laws of seat YtdeihieblljfcaaDoor, under no condition: E1a E1b. -/
import Derived.Test.YtdeihieblljfcaaDoorSC
import Derived.Eval
import Derived.Test.YtdeihieblljfcaaDoorChecked
set_option linter.unusedVariables false
set_option maxRecDepth 100000
namespace Go.V.YtdeihieblljfcaaDoor
open Go Go.V
theorem hng : ∀ (f : Nat) (fn : Func), Go.Proofs.Tryd.prog.funcs[f]? = some fn → (fn.name == "runtime.NumGoroutine") = false := by
  have h : (Go.Proofs.Tryd.prog.funcs.toList.all fun fn => !(fn.name == "runtime.NumGoroutine")) = true := by kernel_rfl
  intro f fn hf
  have hm : fn ∈ Go.Proofs.Tryd.prog.funcs.toList := by simpa using Array.mem_of_getElem? hf
  have := List.all_eq_true.1 h fn hm
  simpa using this
theorem hmix : Go.Proofs.Tryd.prog.follows .mixedOrders = true := Checked.mixed Go.Proofs.Tryd.checked
/- 9: sediment.sedimentref14.Name (n) · seq 3:  · loop 2: n, s -/
def pl9 : Plan := {
  blk := fun _ => none
  seq := fun | 3 => some ⟨[], [], []⟩ | _ => none
  loop := fun | 2 => some ⟨[(0, .one (.int .u64)), (3, .one .str)], [], []⟩ | _ => none
  live := fun | 0 => some [0] | 1 => some [0, 3] | 2 => some [0, 3, 10] | 3 => some [0, 3] | 4 => some [0, 3] | 5 => some [2] | _ => none
  track := fun | _ => false
  draw := fun | _ => .done
  iter := fun | _ => none }
def vc9 (a0 : Int) (h : Heap) (R : ByteArray → Heap → Prop) : Prop :=
  ∃ (I0 : Int → ByteArray → Heap → Nat → Prop),
    (∃ (b1 : Nat), I0 a0 (ByteArray.mk #[]) h b1) ∧
      ∀ (i2 : Int) (t3 : ByteArray) (h4 : Heap) (b5 : Nat),
        I0 i2 t3 h4 b5 →
          ∃ (I6 : Heap → Prop),
            Br (Decidable.decide (i2 > (0 : Int))) (I6 h4)
                (Br (Decidable.decide ((↑(ByteArray.size t3) : Int) < (6 : Int))) (I6 h4)
                  ((↑(9 + ByteArray.size t3) : Int) ≤ (9223372036854775807 : Int) ∧
                    R (ByteArray.mk #[(77 : UInt8), (65 : UInt8), (78 : UInt8), (73 : UInt8), (70 : UInt8), (69 : UInt8), (83 : UInt8), (84 : UInt8), (45 : UInt8)] ++ t3) h4)) ∧
              ∀ (h7 : Heap),
                I6 h7 →
                  ((10 : Int) = (0 : Int) → False) ∧
                    New 5 [Lf.int IntKind.u8 (IntKind.wrap IntKind.u8 (IntKind.wrap IntKind.u64 ((48 : Int) + Int.tmod i2 (10 : Int))))] h7
                      fun (b8 : Nat) (h9 : Heap) =>
                      ∃ (t10 : ByteArray),
                        bytesAt h9 (Slc.mk (Option.some (b8, 0)) 1 1) t10 ∧
                          (↑(ByteArray.size t10 + ByteArray.size t3) : Int) ≤ (9223372036854775807 : Int) ∧
                            ((10 : Int) = (0 : Int) → False) ∧ ∃ (b11 : Nat), b11 < b5 ∧ I0 (IntKind.wrap IntKind.u64 (Int.tdiv i2 (10 : Int))) (t10 ++ t3) h9 b11
theorem eq9 (a0 : Int) (h : Heap) (R : ByteArray → Heap → Prop) : vc9 a0 h R = vcFn Go.Proofs.Tryd.prog pl9 Go.Proofs.Tryd.f9 [.lf (.int .u64 a0)] h [.one .str] R := by kernel_rfl
theorem ok9 {a0 : Int} {h : Heap} {R : ByteArray → Heap → Prop} (hv : vc9 a0 h R) : Call Go.Proofs.Tryd.prog 9 [.lf (.int .u64 a0)] h [.one .str] R := call_eq hng hmix Go.Proofs.Tryd.func9 (eq9 a0 h R) hv
/- 7: sediment.sedimentref14.Number (s) · seq 5:  · loop 3: n, i -/
def pl7 : Plan := {
  blk := fun _ => none
  seq := fun | 5 => some ⟨[], [], []⟩ | _ => none
  loop := fun | 3 => some ⟨[(4, .one (.int .u64)), (5, .one (.int .i64))], [], []⟩ | _ => none
  live := fun | 0 => some [0] | 1 => some [0, 4] | 2 => some [0, 4, 5] | 3 => some [0, 4, 5, 21] | 4 => some [0, 4, 5] | 5 => some [0, 4, 5] | 6 => some [4, 35] | 7 => some [2, 3] | 8 => some [2, 3] | _ => none
  track := fun | _ => false
  draw := fun | _ => .done
  iter := fun | _ => none }
def vc7 (a0 : ByteArray) (h : Heap) (R : Int → Bool → Heap → Prop) : Prop :=
  ∃ (I0 : Int → Int → Heap → Nat → Prop),
    (∃ (b1 : Nat), I0 (0 : Int) (9 : Int) h b1) ∧
      ∀ (i2 i3 : Int) (h4 : Heap) (b5 : Nat),
        I0 i2 i3 h4 b5 →
          ∃ (I6 : Heap → Prop),
            Br (Decidable.decide (i3 < (↑(ByteArray.size a0) : Int)))
                ((0 : Int) ≤ i3 ∧
                  i3 < (↑(ByteArray.size a0) : Int) ∧
                    Br (Decidable.decide (bt a0 i3 ≥ (48 : Int)))
                      ((0 : Int) ≤ i3 ∧
                        i3 < (↑(ByteArray.size a0) : Int) ∧
                          Br (Decidable.decide (bt a0 i3 ≤ (57 : Int))) (I6 h4)
                            (Call Go.Proofs.Tryd.prog 9 [VV.lf (Lf.int IntKind.u64 i2)] h4 [VT.one LT.str] fun (t7 : ByteArray) (h8 : Heap) =>
                              Br (!strEq t7 a0) (R (0 : Int) Bool.false h8) (R i2 Bool.true h8)))
                      (Call Go.Proofs.Tryd.prog 9 [VV.lf (Lf.int IntKind.u64 i2)] h4 [VT.one LT.str] fun (t9 : ByteArray) (h10 : Heap) =>
                        Br (!strEq t9 a0) (R (0 : Int) Bool.false h10) (R i2 Bool.true h10)))
                (Call Go.Proofs.Tryd.prog 9 [VV.lf (Lf.int IntKind.u64 i2)] h4 [VT.one LT.str] fun (t11 : ByteArray) (h12 : Heap) =>
                  Br (!strEq t11 a0) (R (0 : Int) Bool.false h12) (R i2 Bool.true h12)) ∧
              ∀ (h13 : Heap),
                I6 h13 →
                  (0 : Int) ≤ i3 ∧
                    i3 < (↑(ByteArray.size a0) : Int) ∧
                      ∃ (b14 : Nat),
                        b14 < b5 ∧
                          I0
                            (IntKind.wrap IntKind.u64
                              (IntKind.wrap IntKind.u64 ((10 : Int) * i2) + IntKind.wrap IntKind.u64 (IntKind.wrap IntKind.u8 (bt a0 i3 - (48 : Int)))))
                            (IntKind.wrap IntKind.i64 (i3 + (1 : Int))) h13 b14
theorem eq7 (a0 : ByteArray) (h : Heap) (R : Int → Bool → Heap → Prop) : vc7 a0 h R = vcFn Go.Proofs.Tryd.prog pl7 Go.Proofs.Tryd.f7 [.lf (.str a0)] h [.one (.int .u64), .one .bool] R := by kernel_rfl
theorem ok7 {a0 : ByteArray} {h : Heap} {R : Int → Bool → Heap → Prop} (hv : vc7 a0 h R) : Call Go.Proofs.Tryd.prog 7 [.lf (.str a0)] h [.one (.int .u64), .one .bool] R := call_eq hng hmix Go.Proofs.Tryd.func7 (eq7 a0 h R) hv
/- 13: sediment.sedimentref12.Name (n) · seq 3:  · loop 2: n, s -/
def pl13 : Plan := {
  blk := fun _ => none
  seq := fun | 3 => some ⟨[], [], []⟩ | _ => none
  loop := fun | 2 => some ⟨[(0, .one (.int .u64)), (3, .one .str)], [], []⟩ | _ => none
  live := fun | 0 => some [0] | 1 => some [0, 3] | 2 => some [0, 3, 10] | 3 => some [0, 3] | 4 => some [0, 3] | 5 => some [2] | _ => none
  track := fun | _ => false
  draw := fun | _ => .done
  iter := fun | _ => none }
def vc13 (a0 : Int) (h : Heap) (R : ByteArray → Heap → Prop) : Prop :=
  ∃ (I0 : Int → ByteArray → Heap → Nat → Prop),
    (∃ (b1 : Nat), I0 a0 (ByteArray.mk #[]) h b1) ∧
      ∀ (i2 : Int) (t3 : ByteArray) (h4 : Heap) (b5 : Nat),
        I0 i2 t3 h4 b5 →
          ∃ (I6 : Heap → Prop),
            Br (Decidable.decide (i2 > (0 : Int))) (I6 h4)
                (Br (Decidable.decide ((↑(ByteArray.size t3) : Int) < (6 : Int))) (I6 h4)
                  ((↑(ByteArray.size t3 + 4) : Int) ≤ (9223372036854775807 : Int) ∧ R (t3 ++ ByteArray.mk #[(46 : UInt8), (115 : UInt8), (115 : UInt8), (116 : UInt8)]) h4)) ∧
              ∀ (h7 : Heap),
                I6 h7 →
                  ((10 : Int) = (0 : Int) → False) ∧
                    New 5 [Lf.int IntKind.u8 (IntKind.wrap IntKind.u8 (IntKind.wrap IntKind.u64 ((48 : Int) + Int.tmod i2 (10 : Int))))] h7
                      fun (b8 : Nat) (h9 : Heap) =>
                      ∃ (t10 : ByteArray),
                        bytesAt h9 (Slc.mk (Option.some (b8, 0)) 1 1) t10 ∧
                          (↑(ByteArray.size t10 + ByteArray.size t3) : Int) ≤ (9223372036854775807 : Int) ∧
                            ((10 : Int) = (0 : Int) → False) ∧ ∃ (b11 : Nat), b11 < b5 ∧ I0 (IntKind.wrap IntKind.u64 (Int.tdiv i2 (10 : Int))) (t10 ++ t3) h9 b11
theorem eq13 (a0 : Int) (h : Heap) (R : ByteArray → Heap → Prop) : vc13 a0 h R = vcFn Go.Proofs.Tryd.prog pl13 Go.Proofs.Tryd.f13 [.lf (.int .u64 a0)] h [.one .str] R := by kernel_rfl
theorem ok13 {a0 : Int} {h : Heap} {R : ByteArray → Heap → Prop} (hv : vc13 a0 h R) : Call Go.Proofs.Tryd.prog 13 [.lf (.int .u64 a0)] h [.one .str] R := call_eq hng hmix Go.Proofs.Tryd.func13 (eq13 a0 h R) hv
/- 11: sediment.sedimentref12.Number (s) · seq 5:  · loop 3: n, i -/
def pl11 : Plan := {
  blk := fun _ => none
  seq := fun | 5 => some ⟨[], [], []⟩ | _ => none
  loop := fun | 3 => some ⟨[(4, .one (.int .u64)), (5, .one (.int .i64))], [], []⟩ | _ => none
  live := fun | 0 => some [0] | 1 => some [0, 4] | 2 => some [0, 4, 5] | 3 => some [0, 4, 5, 21] | 4 => some [0, 4, 5] | 5 => some [0, 4, 5] | 6 => some [4, 35] | 7 => some [2, 3] | 8 => some [2, 3] | _ => none
  track := fun | _ => false
  draw := fun | _ => .done
  iter := fun | _ => none }
def vc11 (a0 : ByteArray) (h : Heap) (R : Int → Bool → Heap → Prop) : Prop :=
  ∃ (I0 : Int → Int → Heap → Nat → Prop),
    (∃ (b1 : Nat), I0 (0 : Int) (0 : Int) h b1) ∧
      ∀ (i2 i3 : Int) (h4 : Heap) (b5 : Nat),
        I0 i2 i3 h4 b5 →
          ∃ (I6 : Heap → Prop),
            Br (Decidable.decide (i3 < (↑(ByteArray.size a0) : Int)))
                ((0 : Int) ≤ i3 ∧
                  i3 < (↑(ByteArray.size a0) : Int) ∧
                    Br (Decidable.decide (bt a0 i3 ≥ (48 : Int)))
                      ((0 : Int) ≤ i3 ∧
                        i3 < (↑(ByteArray.size a0) : Int) ∧
                          Br (Decidable.decide (bt a0 i3 ≤ (57 : Int))) (I6 h4)
                            (Call Go.Proofs.Tryd.prog 13 [VV.lf (Lf.int IntKind.u64 i2)] h4 [VT.one LT.str] fun (t7 : ByteArray) (h8 : Heap) =>
                              Br (!strEq t7 a0) (R (0 : Int) Bool.false h8) (R i2 Bool.true h8)))
                      (Call Go.Proofs.Tryd.prog 13 [VV.lf (Lf.int IntKind.u64 i2)] h4 [VT.one LT.str] fun (t9 : ByteArray) (h10 : Heap) =>
                        Br (!strEq t9 a0) (R (0 : Int) Bool.false h10) (R i2 Bool.true h10)))
                (Call Go.Proofs.Tryd.prog 13 [VV.lf (Lf.int IntKind.u64 i2)] h4 [VT.one LT.str] fun (t11 : ByteArray) (h12 : Heap) =>
                  Br (!strEq t11 a0) (R (0 : Int) Bool.false h12) (R i2 Bool.true h12)) ∧
              ∀ (h13 : Heap),
                I6 h13 →
                  (0 : Int) ≤ i3 ∧
                    i3 < (↑(ByteArray.size a0) : Int) ∧
                      ∃ (b14 : Nat),
                        b14 < b5 ∧
                          I0
                            (IntKind.wrap IntKind.u64
                              (IntKind.wrap IntKind.u64 ((10 : Int) * i2) + IntKind.wrap IntKind.u64 (IntKind.wrap IntKind.u8 (bt a0 i3 - (48 : Int)))))
                            (IntKind.wrap IntKind.i64 (i3 + (1 : Int))) h13 b14
theorem eq11 (a0 : ByteArray) (h : Heap) (R : Int → Bool → Heap → Prop) : vc11 a0 h R = vcFn Go.Proofs.Tryd.prog pl11 Go.Proofs.Tryd.f11 [.lf (.str a0)] h [.one (.int .u64), .one .bool] R := by kernel_rfl
theorem ok11 {a0 : ByteArray} {h : Heap} {R : Int → Bool → Heap → Prop} (hv : vc11 a0 h R) : Call Go.Proofs.Tryd.prog 11 [.lf (.str a0)] h [.one (.int .u64), .one .bool] R := call_eq hng hmix Go.Proofs.Tryd.func11 (eq11 a0 h R) hv
/- 24: strings.CutPrefix (s, prefix) -/
def pl24 : Plan := {
  blk := fun _ => none
  seq := fun _ => none
  loop := fun _ => none
  live := fun | 0 => some [0, 1] | 1 => some [4, 5] | _ => none
  track := fun | _ => false
  draw := fun | _ => .done
  iter := fun | _ => none }
def vc24 (a0 : ByteArray) (a1 : ByteArray) (h : Heap) (R : ByteArray → Bool → Heap → Prop) : Prop :=
  Call Go.Proofs.Tryd.prog 33 [VV.lf (Lf.str a0), VV.lf (Lf.str a1)] h [VT.one LT.str, VT.one LT.bool]
    fun (t0 : ByteArray) (c1 : Bool) (h2 : Heap) => R t0 c1 h2
theorem eq24 (a0 : ByteArray) (a1 : ByteArray) (h : Heap) (R : ByteArray → Bool → Heap → Prop) : vc24 a0 a1 h R = vcFn Go.Proofs.Tryd.prog pl24 Go.Proofs.Tryd.f24 [.lf (.str a0), .lf (.str a1)] h [.one .str, .one .bool] R := by kernel_rfl
theorem ok24 {a0 : ByteArray} {a1 : ByteArray} {h : Heap} {R : ByteArray → Bool → Heap → Prop} (hv : vc24 a0 a1 h R) : Call Go.Proofs.Tryd.prog 24 [.lf (.str a0), .lf (.str a1)] h [.one .str, .one .bool] R := call_eq hng hmix Go.Proofs.Tryd.func24 (eq24 a0 a1 h R) hv
/- 33: internal.stringslite.CutPrefix (s, prefix) -/
def pl33 : Plan := {
  blk := fun _ => none
  seq := fun _ => none
  loop := fun _ => none
  live := fun | 0 => some [0, 1] | 1 => some [0, 1, 9] | 2 => some [4, 5] | 3 => some [4, 5] | _ => none
  track := fun | _ => false
  draw := fun | _ => .done
  iter := fun | _ => none }
def vc33 (a0 : ByteArray) (a1 : ByteArray) (h : Heap) (R : ByteArray → Bool → Heap → Prop) : Prop :=
  Call Go.Proofs.Tryd.prog 49 [VV.lf (Lf.str a0), VV.lf (Lf.str a1)] h [VT.one LT.bool] fun (c0 : Bool) (h1 : Heap) =>
    Br (!c0) (R a0 Bool.false h1)
      ((0 : Int) ≤ (↑(ByteArray.size a1) : Int) ∧
        (↑(ByteArray.size a1) : Int) ≤ (↑(ByteArray.size a0) : Int) ∧ R (ByteArray.extract a0 (Int.toNat (↑(ByteArray.size a1) : Int)) (ByteArray.size a0)) Bool.true h1)
theorem eq33 (a0 : ByteArray) (a1 : ByteArray) (h : Heap) (R : ByteArray → Bool → Heap → Prop) : vc33 a0 a1 h R = vcFn Go.Proofs.Tryd.prog pl33 Go.Proofs.Tryd.f33 [.lf (.str a0), .lf (.str a1)] h [.one .str, .one .bool] R := by kernel_rfl
theorem ok33 {a0 : ByteArray} {a1 : ByteArray} {h : Heap} {R : ByteArray → Bool → Heap → Prop} (hv : vc33 a0 a1 h R) : Call Go.Proofs.Tryd.prog 33 [.lf (.str a0), .lf (.str a1)] h [.one .str, .one .bool] R := call_eq hng hmix Go.Proofs.Tryd.func33 (eq33 a0 a1 h R) hv
/- 38: strings.HasPrefix (s, prefix) -/
def pl38 : Plan := {
  blk := fun _ => none
  seq := fun _ => none
  loop := fun _ => none
  live := fun | 0 => some [0, 1] | 1 => some [4] | _ => none
  track := fun | _ => false
  draw := fun | _ => .done
  iter := fun | _ => none }
def vc38 (a0 : ByteArray) (a1 : ByteArray) (h : Heap) (R : Bool → Heap → Prop) : Prop :=
  Call Go.Proofs.Tryd.prog 49 [VV.lf (Lf.str a0), VV.lf (Lf.str a1)] h [VT.one LT.bool] fun (c0 : Bool) (h1 : Heap) => R c0 h1
theorem eq38 (a0 : ByteArray) (a1 : ByteArray) (h : Heap) (R : Bool → Heap → Prop) : vc38 a0 a1 h R = vcFn Go.Proofs.Tryd.prog pl38 Go.Proofs.Tryd.f38 [.lf (.str a0), .lf (.str a1)] h [.one .bool] R := by kernel_rfl
theorem ok38 {a0 : ByteArray} {a1 : ByteArray} {h : Heap} {R : Bool → Heap → Prop} (hv : vc38 a0 a1 h R) : Call Go.Proofs.Tryd.prog 38 [.lf (.str a0), .lf (.str a1)] h [.one .bool] R := call_eq hng hmix Go.Proofs.Tryd.func38 (eq38 a0 a1 h R) hv
/- 49: internal.stringslite.HasPrefix (s, prefix) -/
def pl49 : Plan := {
  blk := fun _ => none
  seq := fun _ => none
  loop := fun _ => none
  live := fun | 0 => some [0, 1] | 1 => some [4] | _ => none
  track := fun | _ => false
  draw := fun | _ => .done
  iter := fun | _ => none }
def vc49 (a0 : ByteArray) (a1 : ByteArray) (h : Heap) (R : Bool → Heap → Prop) : Prop :=
  Br (Decidable.decide ((↑(ByteArray.size a0) : Int) ≥ (↑(ByteArray.size a1) : Int)))
    ((0 : Int) ≤ (↑(ByteArray.size a1) : Int) ∧
      (↑(ByteArray.size a1) : Int) ≤ (↑(ByteArray.size a0) : Int) ∧ R (strEq (ByteArray.extract a0 0 (Int.toNat (↑(ByteArray.size a1) : Int))) a1) h)
    (R Bool.false h)
theorem eq49 (a0 : ByteArray) (a1 : ByteArray) (h : Heap) (R : Bool → Heap → Prop) : vc49 a0 a1 h R = vcFn Go.Proofs.Tryd.prog pl49 Go.Proofs.Tryd.f49 [.lf (.str a0), .lf (.str a1)] h [.one .bool] R := by kernel_rfl
theorem ok49 {a0 : ByteArray} {a1 : ByteArray} {h : Heap} {R : Bool → Heap → Prop} (hv : vc49 a0 a1 h R) : Call Go.Proofs.Tryd.prog 49 [.lf (.str a0), .lf (.str a1)] h [.one .bool] R := call_eq hng hmix Go.Proofs.Tryd.func49 (eq49 a0 a1 h R) hv
/- 28: strings.CutSuffix (s, suffix) -/
def pl28 : Plan := {
  blk := fun _ => none
  seq := fun _ => none
  loop := fun _ => none
  live := fun | 0 => some [0, 1] | 1 => some [4, 5] | _ => none
  track := fun | _ => false
  draw := fun | _ => .done
  iter := fun | _ => none }
def vc28 (a0 : ByteArray) (a1 : ByteArray) (h : Heap) (R : ByteArray → Bool → Heap → Prop) : Prop :=
  Call Go.Proofs.Tryd.prog 43 [VV.lf (Lf.str a0), VV.lf (Lf.str a1)] h [VT.one LT.str, VT.one LT.bool]
    fun (t0 : ByteArray) (c1 : Bool) (h2 : Heap) => R t0 c1 h2
theorem eq28 (a0 : ByteArray) (a1 : ByteArray) (h : Heap) (R : ByteArray → Bool → Heap → Prop) : vc28 a0 a1 h R = vcFn Go.Proofs.Tryd.prog pl28 Go.Proofs.Tryd.f28 [.lf (.str a0), .lf (.str a1)] h [.one .str, .one .bool] R := by kernel_rfl
theorem ok28 {a0 : ByteArray} {a1 : ByteArray} {h : Heap} {R : ByteArray → Bool → Heap → Prop} (hv : vc28 a0 a1 h R) : Call Go.Proofs.Tryd.prog 28 [.lf (.str a0), .lf (.str a1)] h [.one .str, .one .bool] R := call_eq hng hmix Go.Proofs.Tryd.func28 (eq28 a0 a1 h R) hv
/- 43: internal.stringslite.CutSuffix (s, suffix) -/
def pl43 : Plan := {
  blk := fun _ => none
  seq := fun _ => none
  loop := fun _ => none
  live := fun | 0 => some [0, 1] | 1 => some [0, 1, 9] | 2 => some [4, 5] | 3 => some [4, 5] | _ => none
  track := fun | _ => false
  draw := fun | _ => .done
  iter := fun | _ => none }
def vc43 (a0 : ByteArray) (a1 : ByteArray) (h : Heap) (R : ByteArray → Bool → Heap → Prop) : Prop :=
  Call Go.Proofs.Tryd.prog 64 [VV.lf (Lf.str a0), VV.lf (Lf.str a1)] h [VT.one LT.bool] fun (c0 : Bool) (h1 : Heap) =>
    Br (!c0) (R a0 Bool.false h1)
      ((0 : Int) ≤ IntKind.wrap IntKind.i64 ((↑(ByteArray.size a0) : Int) - (↑(ByteArray.size a1) : Int)) ∧
        IntKind.wrap IntKind.i64 ((↑(ByteArray.size a0) : Int) - (↑(ByteArray.size a1) : Int)) ≤ (↑(ByteArray.size a0) : Int) ∧
          R (ByteArray.extract a0 0 (Int.toNat (IntKind.wrap IntKind.i64 ((↑(ByteArray.size a0) : Int) - (↑(ByteArray.size a1) : Int))))) Bool.true h1)
theorem eq43 (a0 : ByteArray) (a1 : ByteArray) (h : Heap) (R : ByteArray → Bool → Heap → Prop) : vc43 a0 a1 h R = vcFn Go.Proofs.Tryd.prog pl43 Go.Proofs.Tryd.f43 [.lf (.str a0), .lf (.str a1)] h [.one .str, .one .bool] R := by kernel_rfl
theorem ok43 {a0 : ByteArray} {a1 : ByteArray} {h : Heap} {R : ByteArray → Bool → Heap → Prop} (hv : vc43 a0 a1 h R) : Call Go.Proofs.Tryd.prog 43 [.lf (.str a0), .lf (.str a1)] h [.one .str, .one .bool] R := call_eq hng hmix Go.Proofs.Tryd.func43 (eq43 a0 a1 h R) hv
/- 64: internal.stringslite.HasSuffix (s, suffix) -/
def pl64 : Plan := {
  blk := fun _ => none
  seq := fun _ => none
  loop := fun _ => none
  live := fun | 0 => some [0, 1] | 1 => some [4] | _ => none
  track := fun | _ => false
  draw := fun | _ => .done
  iter := fun | _ => none }
def vc64 (a0 : ByteArray) (a1 : ByteArray) (h : Heap) (R : Bool → Heap → Prop) : Prop :=
  Br (Decidable.decide ((↑(ByteArray.size a0) : Int) ≥ (↑(ByteArray.size a1) : Int)))
    ((0 : Int) ≤ IntKind.wrap IntKind.i64 ((↑(ByteArray.size a0) : Int) - (↑(ByteArray.size a1) : Int)) ∧
      IntKind.wrap IntKind.i64 ((↑(ByteArray.size a0) : Int) - (↑(ByteArray.size a1) : Int)) ≤ (↑(ByteArray.size a0) : Int) ∧
        R (strEq (ByteArray.extract a0 (Int.toNat (IntKind.wrap IntKind.i64 ((↑(ByteArray.size a0) : Int) - (↑(ByteArray.size a1) : Int)))) (ByteArray.size a0)) a1) h)
    (R Bool.false h)
theorem eq64 (a0 : ByteArray) (a1 : ByteArray) (h : Heap) (R : Bool → Heap → Prop) : vc64 a0 a1 h R = vcFn Go.Proofs.Tryd.prog pl64 Go.Proofs.Tryd.f64 [.lf (.str a0), .lf (.str a1)] h [.one .bool] R := by kernel_rfl
theorem ok64 {a0 : ByteArray} {a1 : ByteArray} {h : Heap} {R : Bool → Heap → Prop} (hv : vc64 a0 a1 h R) : Call Go.Proofs.Tryd.prog 64 [.lf (.str a0), .lf (.str a1)] h [.one .bool] R := call_eq hng hmix Go.Proofs.Tryd.func64 (eq64 a0 a1 h R) hv
/- 8: sediment.manifest.Name (number) -/
def pl8 : Plan := {
  blk := fun _ => none
  seq := fun _ => none
  loop := fun _ => none
  live := fun | 0 => some [0] | 1 => some [2] | _ => none
  track := fun | _ => false
  draw := fun | _ => .done
  iter := fun | _ => none }
def vc8 (a0 : Int) (h : Heap) (R : ByteArray → Heap → Prop) : Prop :=
  Call Go.Proofs.Tryd.prog 17 [VV.lf (Lf.int IntKind.u64 a0)] h [VT.one LT.str] fun (t0 : ByteArray) (h1 : Heap) => R t0 h1
theorem eq8 (a0 : Int) (h : Heap) (R : ByteArray → Heap → Prop) : vc8 a0 h R = vcFn Go.Proofs.Tryd.prog pl8 Go.Proofs.Tryd.f8 [.lf (.int .u64 a0)] h [.one .str] R := by kernel_rfl
theorem ok8 {a0 : Int} {h : Heap} {R : ByteArray → Heap → Prop} (hv : vc8 a0 h R) : Call Go.Proofs.Tryd.prog 8 [.lf (.int .u64 a0)] h [.one .str] R := call_eq hng hmix Go.Proofs.Tryd.func8 (eq8 a0 h R) hv
/- 6: sediment.manifest.Number (name) -/
def pl6 : Plan := {
  blk := fun _ => none
  seq := fun _ => none
  loop := fun _ => none
  live := fun | 0 => some [0] | 1 => some [2, 3] | _ => none
  track := fun | _ => false
  draw := fun | _ => .done
  iter := fun | _ => none }
def vc6 (a0 : ByteArray) (h : Heap) (R : Int → Bool → Heap → Prop) : Prop :=
  Call Go.Proofs.Tryd.prog 16 [VV.lf (Lf.str a0)] h [VT.one (LT.int IntKind.u64), VT.one LT.bool] fun (i0 : Int) (c1 : Bool) (h2 : Heap) =>
    R i0 c1 h2
theorem eq6 (a0 : ByteArray) (h : Heap) (R : Int → Bool → Heap → Prop) : vc6 a0 h R = vcFn Go.Proofs.Tryd.prog pl6 Go.Proofs.Tryd.f6 [.lf (.str a0)] h [.one (.int .u64), .one .bool] R := by kernel_rfl
theorem ok6 {a0 : ByteArray} {h : Heap} {R : Int → Bool → Heap → Prop} (hv : vc6 a0 h R) : Call Go.Proofs.Tryd.prog 6 [.lf (.str a0)] h [.one (.int .u64), .one .bool] R := call_eq hng hmix Go.Proofs.Tryd.func6 (eq6 a0 h R) hv
/- 12: sediment.tables.Name (number) -/
def pl12 : Plan := {
  blk := fun _ => none
  seq := fun _ => none
  loop := fun _ => none
  live := fun | 0 => some [0] | 1 => some [2] | _ => none
  track := fun | _ => false
  draw := fun | _ => .done
  iter := fun | _ => none }
def vc12 (a0 : Int) (h : Heap) (R : ByteArray → Heap → Prop) : Prop :=
  Call Go.Proofs.Tryd.prog 19 [VV.lf (Lf.int IntKind.u64 a0)] h [VT.one LT.str] fun (t0 : ByteArray) (h1 : Heap) => R t0 h1
theorem eq12 (a0 : Int) (h : Heap) (R : ByteArray → Heap → Prop) : vc12 a0 h R = vcFn Go.Proofs.Tryd.prog pl12 Go.Proofs.Tryd.f12 [.lf (.int .u64 a0)] h [.one .str] R := by kernel_rfl
theorem ok12 {a0 : Int} {h : Heap} {R : ByteArray → Heap → Prop} (hv : vc12 a0 h R) : Call Go.Proofs.Tryd.prog 12 [.lf (.int .u64 a0)] h [.one .str] R := call_eq hng hmix Go.Proofs.Tryd.func12 (eq12 a0 h R) hv
/- 10: sediment.tables.Number (name) -/
def pl10 : Plan := {
  blk := fun _ => none
  seq := fun _ => none
  loop := fun _ => none
  live := fun | 0 => some [0] | 1 => some [2, 3] | _ => none
  track := fun | _ => false
  draw := fun | _ => .done
  iter := fun | _ => none }
def vc10 (a0 : ByteArray) (h : Heap) (R : Int → Bool → Heap → Prop) : Prop :=
  Call Go.Proofs.Tryd.prog 18 [VV.lf (Lf.str a0)] h [VT.one (LT.int IntKind.u64), VT.one LT.bool] fun (i0 : Int) (c1 : Bool) (h2 : Heap) =>
    R i0 c1 h2
theorem eq10 (a0 : ByteArray) (h : Heap) (R : Int → Bool → Heap → Prop) : vc10 a0 h R = vcFn Go.Proofs.Tryd.prog pl10 Go.Proofs.Tryd.f10 [.lf (.str a0)] h [.one (.int .u64), .one .bool] R := by kernel_rfl
theorem ok10 {a0 : ByteArray} {h : Heap} {R : Int → Bool → Heap → Prop} (hv : vc10 a0 h R) : Call Go.Proofs.Tryd.prog 10 [.lf (.str a0)] h [.one (.int .u64), .one .bool] R := call_eq hng hmix Go.Proofs.Tryd.func10 (eq10 a0 h R) hv
end Go.V.YtdeihieblljfcaaDoor
set_option linter.unusedVariables false
set_option maxRecDepth 100000
namespace Go.V.YtdeihieblljfcaaDoor
open Go Go.V
/- 17: sediment.manifest.named (number) -/
def pl17 : Plan := {
  blk := fun _ => none
  seq := fun _ => none
  loop := fun _ => none
  live := fun | 0 => some [0] | 1 => some [3] | 2 => some [2] | _ => none
  track := fun | _ => false
  draw := fun | _ => .done
  iter := fun | _ => none }
def vc17 (a0 : Int) (h : Heap) (R : ByteArray → Heap → Prop) : Prop :=
  Call Go.Proofs.Tryd.prog 26 [VV.lf (Lf.int IntKind.u64 a0), VV.lf (Lf.int IntKind.i64 (10 : Int))] h [VT.one LT.str]
    fun (t0 : ByteArray) (h1 : Heap) =>
    Call Go.Proofs.Tryd.prog 27
      [VV.lf (Lf.str (ByteArray.mk #[(48 : UInt8)])),
        VV.lf
          (Lf.int IntKind.i64
            (if (0 : Int) > IntKind.wrap IntKind.i64 ((6 : Int) - (↑(ByteArray.size t0) : Int)) then (0 : Int) else IntKind.wrap IntKind.i64 ((6 : Int) - (↑(ByteArray.size t0) : Int))))]
      h1 [VT.one LT.str] fun (t2 : ByteArray) (h3 : Heap) =>
      (↑(9 + ByteArray.size t2) : Int) ≤ (9223372036854775807 : Int) ∧
        (↑(ByteArray.size (ByteArray.mk #[(77 : UInt8), (65 : UInt8), (78 : UInt8), (73 : UInt8), (70 : UInt8), (69 : UInt8), (83 : UInt8), (84 : UInt8), (45 : UInt8)] ++ t2) + ByteArray.size t0) :
              Int) ≤
            (9223372036854775807 : Int) ∧
          R (ByteArray.mk #[(77 : UInt8), (65 : UInt8), (78 : UInt8), (73 : UInt8), (70 : UInt8), (69 : UInt8), (83 : UInt8), (84 : UInt8), (45 : UInt8)] ++ t2 ++ t0) h3
theorem eq17 (a0 : Int) (h : Heap) (R : ByteArray → Heap → Prop) : vc17 a0 h R = vcFn Go.Proofs.Tryd.prog pl17 Go.Proofs.Tryd.f17 [.lf (.int .u64 a0)] h [.one .str] R := by kernel_rfl
theorem ok17 {a0 : Int} {h : Heap} {R : ByteArray → Heap → Prop} (hv : vc17 a0 h R) : Call Go.Proofs.Tryd.prog 17 [.lf (.int .u64 a0)] h [.one .str] R := call_eq hng hmix Go.Proofs.Tryd.func17 (eq17 a0 h R) hv
/- 19: sediment.tables.named (number) -/
def pl19 : Plan := {
  blk := fun _ => none
  seq := fun _ => none
  loop := fun _ => none
  live := fun | 0 => some [0] | 1 => some [3] | 2 => some [2] | _ => none
  track := fun | _ => false
  draw := fun | _ => .done
  iter := fun | _ => none }
def vc19 (a0 : Int) (h : Heap) (R : ByteArray → Heap → Prop) : Prop :=
  Call Go.Proofs.Tryd.prog 26 [VV.lf (Lf.int IntKind.u64 a0), VV.lf (Lf.int IntKind.i64 (10 : Int))] h [VT.one LT.str]
    fun (t0 : ByteArray) (h1 : Heap) =>
    Call Go.Proofs.Tryd.prog 27
      [VV.lf (Lf.str (ByteArray.mk #[(48 : UInt8)])),
        VV.lf
          (Lf.int IntKind.i64
            (if (0 : Int) > IntKind.wrap IntKind.i64 ((6 : Int) - (↑(ByteArray.size t0) : Int)) then (0 : Int) else IntKind.wrap IntKind.i64 ((6 : Int) - (↑(ByteArray.size t0) : Int))))]
      h1 [VT.one LT.str] fun (t2 : ByteArray) (h3 : Heap) =>
      (↑(ByteArray.size t2 + ByteArray.size t0) : Int) ≤ (9223372036854775807 : Int) ∧
        (↑(ByteArray.size (t2 ++ t0) + 4) : Int) ≤ (9223372036854775807 : Int) ∧ R (t2 ++ t0 ++ ByteArray.mk #[(46 : UInt8), (115 : UInt8), (115 : UInt8), (116 : UInt8)]) h3
theorem eq19 (a0 : Int) (h : Heap) (R : ByteArray → Heap → Prop) : vc19 a0 h R = vcFn Go.Proofs.Tryd.prog pl19 Go.Proofs.Tryd.f19 [.lf (.int .u64 a0)] h [.one .str] R := by kernel_rfl
theorem ok19 {a0 : Int} {h : Heap} {R : ByteArray → Heap → Prop} (hv : vc19 a0 h R) : Call Go.Proofs.Tryd.prog 19 [.lf (.int .u64 a0)] h [.one .str] R := call_eq hng hmix Go.Proofs.Tryd.func19 (eq19 a0 h R) hv
/- 26: strconv.FormatUint (i, base) -/
def pl26 : Plan := {
  blk := fun _ => none
  seq := fun _ => none
  loop := fun _ => none
  live := fun | 0 => some [0, 1] | 1 => some [4] | _ => none
  track := fun | _ => false
  draw := fun | _ => .done
  iter := fun | _ => none }
def vc26 (a0 : Int) (a1 : Int) (h : Heap) (R : ByteArray → Heap → Prop) : Prop :=
  Call Go.Proofs.Tryd.prog 36 [VV.lf (Lf.int IntKind.u64 a0), VV.lf (Lf.int IntKind.i64 a1)] h [VT.one LT.str]
    fun (t0 : ByteArray) (h1 : Heap) => R t0 h1
theorem eq26 (a0 : Int) (a1 : Int) (h : Heap) (R : ByteArray → Heap → Prop) : vc26 a0 a1 h R = vcFn Go.Proofs.Tryd.prog pl26 Go.Proofs.Tryd.f26 [.lf (.int .u64 a0), .lf (.int .i64 a1)] h [.one .str] R := by kernel_rfl
theorem ok26 {a0 : Int} {a1 : Int} {h : Heap} {R : ByteArray → Heap → Prop} (hv : vc26 a0 a1 h R) : Call Go.Proofs.Tryd.prog 26 [.lf (.int .u64 a0), .lf (.int .i64 a1)] h [.one .str] R := call_eq hng hmix Go.Proofs.Tryd.func26 (eq26 a0 a1 h R) hv
/- 36: internal.strconv.FormatUint (i, base) -/
def pl36 : Plan := {
  blk := fun _ => none
  seq := fun _ => none
  loop := fun _ => none
  live := fun | 0 => some [0, 1] | 1 => some [0, 1, 10] | 2 => some [0, 12] | 3 => some [4] | 4 => some [0, 5] | 5 => some [0, 5, 6] | 6 => some [5, 6] | 7 => some [4] | 8 => some [8] | 9 => some [4] | _ => none
  track := fun | _ => false
  draw := fun | _ => .done
  iter := fun | _ => none }
def vc36 (a0 : Int) (a1 : Int) (h : Heap) (R : ByteArray → Heap → Prop) : Prop :=
  Br (a1 == (10 : Int))
    (Br (Decidable.decide (a0 < (100 : Int)))
      (Call Go.Proofs.Tryd.prog 56 [VV.lf (Lf.int IntKind.i64 (IntKind.wrap IntKind.i64 a0))] h [VT.one LT.str] fun (t0 : ByteArray) (h1 : Heap) =>
        R t0 h1)
      (New 74
        [Lf.int IntKind.u8 (0 : Int), Lf.int IntKind.u8 (0 : Int), Lf.int IntKind.u8 (0 : Int), Lf.int IntKind.u8 (0 : Int), Lf.int IntKind.u8 (0 : Int),
          Lf.int IntKind.u8 (0 : Int), Lf.int IntKind.u8 (0 : Int), Lf.int IntKind.u8 (0 : Int), Lf.int IntKind.u8 (0 : Int), Lf.int IntKind.u8 (0 : Int),
          Lf.int IntKind.u8 (0 : Int), Lf.int IntKind.u8 (0 : Int), Lf.int IntKind.u8 (0 : Int), Lf.int IntKind.u8 (0 : Int), Lf.int IntKind.u8 (0 : Int),
          Lf.int IntKind.u8 (0 : Int), Lf.int IntKind.u8 (0 : Int), Lf.int IntKind.u8 (0 : Int), Lf.int IntKind.u8 (0 : Int), Lf.int IntKind.u8 (0 : Int),
          Lf.int IntKind.u8 (0 : Int), Lf.int IntKind.u8 (0 : Int), Lf.int IntKind.u8 (0 : Int), Lf.int IntKind.u8 (0 : Int)]
        h fun (b2 : Nat) (h3 : Heap) =>
        Call Go.Proofs.Tryd.prog 57 [VV.lf (Lf.int IntKind.u64 a0)] h3 [VT.one (LT.int IntKind.i64)] fun (i4 : Int) (h5 : Heap) =>
          (0 : Int) ≤ i4 ∧
            i4 ≤ (↑24 : Int) ∧
              Call Go.Proofs.Tryd.prog 58
                [VV.lf (Lf.slc (Slc.sub (Slc.mk (Option.some (b2, 0)) 24 24) 1 0 (Int.toNat i4) 24)),
                  VV.lf (Lf.int IntKind.u64 a0)]
                h5 [] fun (h6 : Heap) =>
                (0 : Int) ≤ i4 ∧
                  i4 ≤ (↑24 : Int) ∧
                    ∃ (t7 : ByteArray), bytesAt h6 (Slc.sub (Slc.mk (Option.some (b2, 0)) 24 24) 1 0 (Int.toNat i4) 24) t7 ∧ R t7 h6))
    (Call Go.Proofs.Tryd.prog 59
      [VV.lf (Lf.slc (Slc.mk Option.none 0 0)), VV.lf (Lf.int IntKind.u64 a0), VV.lf (Lf.int IntKind.i64 a1),
        VV.lf (Lf.bool Bool.false), VV.lf (Lf.bool Bool.false)]
      h [VT.one LT.slc, VT.one LT.str] fun (s8 : Slc) (t9 : ByteArray) (h10 : Heap) => R t9 h10)
theorem eq36 (a0 : Int) (a1 : Int) (h : Heap) (R : ByteArray → Heap → Prop) : vc36 a0 a1 h R = vcFn Go.Proofs.Tryd.prog pl36 Go.Proofs.Tryd.f36 [.lf (.int .u64 a0), .lf (.int .i64 a1)] h [.one .str] R := by kernel_rfl
theorem ok36 {a0 : Int} {a1 : Int} {h : Heap} {R : ByteArray → Heap → Prop} (hv : vc36 a0 a1 h R) : Call Go.Proofs.Tryd.prog 36 [.lf (.int .u64 a0), .lf (.int .i64 a1)] h [.one .str] R := call_eq hng hmix Go.Proofs.Tryd.func36 (eq36 a0 a1 h R) hv
/- 16: sediment.manifest.numbered (name) -/
def pl16 : Plan := {
  blk := fun _ => none
  seq := fun _ => none
  loop := fun _ => none
  live := fun | 0 => some [0] | 1 => some [0, 4, 5] | 2 => some [0, 5, 6, 7] | 3 => some [6, 29] | 4 => some [2, 3] | 5 => some [2, 3] | _ => none
  track := fun | _ => false
  draw := fun | _ => .done
  iter := fun | _ => none }
def vc16 (a0 : ByteArray) (h : Heap) (R : Int → Bool → Heap → Prop) : Prop :=
  Call Go.Proofs.Tryd.prog 24
    [VV.lf (Lf.str a0), VV.lf (Lf.str (ByteArray.mk #[(77 : UInt8), (65 : UInt8), (78 : UInt8), (73 : UInt8), (70 : UInt8), (69 : UInt8), (83 : UInt8), (84 : UInt8), (45 : UInt8)]))]
    h [VT.one LT.str, VT.one LT.bool] fun (t0 : ByteArray) (c1 : Bool) (h2 : Heap) =>
    Call Go.Proofs.Tryd.prog 25 [VV.lf (Lf.str t0), VV.lf (Lf.int IntKind.i64 (10 : Int)), VV.lf (Lf.int IntKind.i64 (64 : Int))] h2
      [VT.one (LT.int IntKind.u64), VT.one LT.raw] fun (i3 : Int) (x4 : Value) (h5 : Heap) =>
      Br (!c1) (R (0 : Int) Bool.false h5)
        (∃ (c6 : Bool),
          IfEq Go.Proofs.Tryd.prog x4 Value.nilIface Bool.true c6 ∧
            Br (!c6) (R (0 : Int) Bool.false h5)
              (Call Go.Proofs.Tryd.prog 17 [VV.lf (Lf.int IntKind.u64 i3)] h5 [VT.one LT.str] fun (t7 : ByteArray) (h8 : Heap) =>
                Br (!strEq t7 a0) (R (0 : Int) Bool.false h8) (R i3 Bool.true h8)))
theorem eq16 (a0 : ByteArray) (h : Heap) (R : Int → Bool → Heap → Prop) : vc16 a0 h R = vcFn Go.Proofs.Tryd.prog pl16 Go.Proofs.Tryd.f16 [.lf (.str a0)] h [.one (.int .u64), .one .bool] R := by kernel_rfl
theorem ok16 {a0 : ByteArray} {h : Heap} {R : Int → Bool → Heap → Prop} (hv : vc16 a0 h R) : Call Go.Proofs.Tryd.prog 16 [.lf (.str a0)] h [.one (.int .u64), .one .bool] R := call_eq hng hmix Go.Proofs.Tryd.func16 (eq16 a0 h R) hv
/- 18: sediment.tables.numbered (name) -/
def pl18 : Plan := {
  blk := fun _ => none
  seq := fun _ => none
  loop := fun _ => none
  live := fun | 0 => some [0] | 1 => some [0, 4, 5] | 2 => some [0, 5, 6, 7] | 3 => some [6, 29] | 4 => some [2, 3] | 5 => some [2, 3] | _ => none
  track := fun | _ => false
  draw := fun | _ => .done
  iter := fun | _ => none }
def vc18 (a0 : ByteArray) (h : Heap) (R : Int → Bool → Heap → Prop) : Prop :=
  Call Go.Proofs.Tryd.prog 28 [VV.lf (Lf.str a0), VV.lf (Lf.str (ByteArray.mk #[(46 : UInt8), (115 : UInt8), (115 : UInt8), (116 : UInt8)]))] h
    [VT.one LT.str, VT.one LT.bool] fun (t0 : ByteArray) (c1 : Bool) (h2 : Heap) =>
    Call Go.Proofs.Tryd.prog 25 [VV.lf (Lf.str t0), VV.lf (Lf.int IntKind.i64 (10 : Int)), VV.lf (Lf.int IntKind.i64 (64 : Int))] h2
      [VT.one (LT.int IntKind.u64), VT.one LT.raw] fun (i3 : Int) (x4 : Value) (h5 : Heap) =>
      Br (!c1) (R (0 : Int) Bool.false h5)
        (∃ (c6 : Bool),
          IfEq Go.Proofs.Tryd.prog x4 Value.nilIface Bool.true c6 ∧
            Br (!c6) (R (0 : Int) Bool.false h5)
              (Call Go.Proofs.Tryd.prog 19 [VV.lf (Lf.int IntKind.u64 i3)] h5 [VT.one LT.str] fun (t7 : ByteArray) (h8 : Heap) =>
                Br (!strEq t7 a0) (R (0 : Int) Bool.false h8) (R i3 Bool.true h8)))
theorem eq18 (a0 : ByteArray) (h : Heap) (R : Int → Bool → Heap → Prop) : vc18 a0 h R = vcFn Go.Proofs.Tryd.prog pl18 Go.Proofs.Tryd.f18 [.lf (.str a0)] h [.one (.int .u64), .one .bool] R := by kernel_rfl
theorem ok18 {a0 : ByteArray} {h : Heap} {R : Int → Bool → Heap → Prop} (hv : vc18 a0 h R) : Call Go.Proofs.Tryd.prog 18 [.lf (.str a0)] h [.one (.int .u64), .one .bool] R := call_eq hng hmix Go.Proofs.Tryd.func18 (eq18 a0 h R) hv
/- 3: sediment.sedimentlaw14.ManifestNames (n, s) -/
def pl3 : Plan := {
  blk := fun _ => none
  seq := fun _ => none
  loop := fun _ => none
  live := fun | 0 => some [0, 1] | 1 => some [0, 1, 5, 6] | 2 => some [0, 5, 6, 7, 8] | 3 => some [0, 5, 6, 7, 8, 9, 10] | 4 => some [4] | _ => none
  track := fun | _ => false
  draw := fun | _ => .done
  iter := fun | _ => none }
def vc3 (a0 : Int) (a1 : ByteArray) (h : Heap) (R : Bool → Heap → Prop) : Prop :=
  Call Go.Proofs.Tryd.prog 6 [VV.lf (Lf.str a1)] h [VT.one (LT.int IntKind.u64), VT.one LT.bool] fun (i0 : Int) (c1 : Bool) (h2 : Heap) =>
    Call Go.Proofs.Tryd.prog 7 [VV.lf (Lf.str a1)] h2 [VT.one (LT.int IntKind.u64), VT.one LT.bool] fun (i3 : Int) (c4 : Bool) (h5 : Heap) =>
      Call Go.Proofs.Tryd.prog 8 [VV.lf (Lf.int IntKind.u64 a0)] h5 [VT.one LT.str] fun (t6 : ByteArray) (h7 : Heap) =>
        Call Go.Proofs.Tryd.prog 6 [VV.lf (Lf.str t6)] h7 [VT.one (LT.int IntKind.u64), VT.one LT.bool] fun (i8 : Int) (c9 : Bool) (h10 : Heap) =>
          Call Go.Proofs.Tryd.prog 8 [VV.lf (Lf.int IntKind.u64 a0)] h10 [VT.one LT.str] fun (t11 : ByteArray) (h12 : Heap) =>
            Call Go.Proofs.Tryd.prog 9 [VV.lf (Lf.int IntKind.u64 a0)] h12 [VT.one LT.str] fun (t13 : ByteArray) (h14 : Heap) =>
              Br (strEq t11 t13) (Br (i0 == i3) (Br (c1 == c4) (Br (i8 == a0) (R c9 h14) (R Bool.false h14)) (R Bool.false h14)) (R Bool.false h14)) (R Bool.false h14)
theorem eq3 (a0 : Int) (a1 : ByteArray) (h : Heap) (R : Bool → Heap → Prop) : vc3 a0 a1 h R = vcFn Go.Proofs.Tryd.prog pl3 Go.Proofs.Tryd.f3 [.lf (.int .u64 a0), .lf (.str a1)] h [.one .bool] R := by kernel_rfl
theorem ok3 {a0 : Int} {a1 : ByteArray} {h : Heap} {R : Bool → Heap → Prop} (hv : vc3 a0 a1 h R) : Call Go.Proofs.Tryd.prog 3 [.lf (.int .u64 a0), .lf (.str a1)] h [.one .bool] R := call_eq hng hmix Go.Proofs.Tryd.func3 (eq3 a0 a1 h R) hv
/- 4: sediment.sedimentlaw12.TablesNames (n, s) -/
def pl4 : Plan := {
  blk := fun _ => none
  seq := fun _ => none
  loop := fun _ => none
  live := fun | 0 => some [0, 1] | 1 => some [0, 1, 5, 6] | 2 => some [0, 5, 6, 7, 8] | 3 => some [0, 5, 6, 7, 8, 9, 10] | 4 => some [4] | _ => none
  track := fun | _ => false
  draw := fun | _ => .done
  iter := fun | _ => none }
def vc4 (a0 : Int) (a1 : ByteArray) (h : Heap) (R : Bool → Heap → Prop) : Prop :=
  Call Go.Proofs.Tryd.prog 10 [VV.lf (Lf.str a1)] h [VT.one (LT.int IntKind.u64), VT.one LT.bool] fun (i0 : Int) (c1 : Bool) (h2 : Heap) =>
    Call Go.Proofs.Tryd.prog 11 [VV.lf (Lf.str a1)] h2 [VT.one (LT.int IntKind.u64), VT.one LT.bool] fun (i3 : Int) (c4 : Bool) (h5 : Heap) =>
      Call Go.Proofs.Tryd.prog 12 [VV.lf (Lf.int IntKind.u64 a0)] h5 [VT.one LT.str] fun (t6 : ByteArray) (h7 : Heap) =>
        Call Go.Proofs.Tryd.prog 10 [VV.lf (Lf.str t6)] h7 [VT.one (LT.int IntKind.u64), VT.one LT.bool] fun (i8 : Int) (c9 : Bool) (h10 : Heap) =>
          Call Go.Proofs.Tryd.prog 12 [VV.lf (Lf.int IntKind.u64 a0)] h10 [VT.one LT.str] fun (t11 : ByteArray) (h12 : Heap) =>
            Call Go.Proofs.Tryd.prog 13 [VV.lf (Lf.int IntKind.u64 a0)] h12 [VT.one LT.str] fun (t13 : ByteArray) (h14 : Heap) =>
              Br (strEq t11 t13) (Br (i0 == i3) (Br (c1 == c4) (Br (i8 == a0) (R c9 h14) (R Bool.false h14)) (R Bool.false h14)) (R Bool.false h14)) (R Bool.false h14)
theorem eq4 (a0 : Int) (a1 : ByteArray) (h : Heap) (R : Bool → Heap → Prop) : vc4 a0 a1 h R = vcFn Go.Proofs.Tryd.prog pl4 Go.Proofs.Tryd.f4 [.lf (.int .u64 a0), .lf (.str a1)] h [.one .bool] R := by kernel_rfl
theorem ok4 {a0 : Int} {a1 : ByteArray} {h : Heap} {R : Bool → Heap → Prop} (hv : vc4 a0 a1 h R) : Call Go.Proofs.Tryd.prog 4 [.lf (.int .u64 a0), .lf (.str a1)] h [.one .bool] R := call_eq hng hmix Go.Proofs.Tryd.func4 (eq4 a0 a1 h R) hv
end Go.V.YtdeihieblljfcaaDoor
