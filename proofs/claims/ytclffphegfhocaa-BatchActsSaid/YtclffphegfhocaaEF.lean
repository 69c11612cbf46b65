/- This text proves a part of the laws of seat Ytclffphegfhocaa, under no condition: B3a. -/
import Derived.Test.YtclffphegfhocaaEC
import Derived.Eval
import Derived.Test.YtclffphegfhocaaChecked
set_option linter.unusedVariables false
set_option maxRecDepth 100000
namespace Go.V.Ytclffphegfhocaa
open Go Go.V
theorem hng : ∀ (f : Nat) (fn : Func), Go.Proofs.Try.prog.funcs[f]? = some fn → (fn.name == "runtime.NumGoroutine") = false := by
  have h : (Go.Proofs.Try.prog.funcs.toList.all fun fn => !(fn.name == "runtime.NumGoroutine")) = true := by kernel_rfl
  intro f fn hf
  have hm : fn ∈ Go.Proofs.Try.prog.funcs.toList := by simpa using Array.mem_of_getElem? hf
  have := List.all_eq_true.1 h fn hm
  simpa using this
theorem hmix : Go.Proofs.Try.prog.follows .mixedOrders = true := Checked.mixed Go.Proofs.Try.checked
/- 19: sediment.batch.Check (r) · blk 0: most -/
def pl19 : Plan := {
  blk := fun | 0 => some ⟨[(3, .one (.int .i64))], [], []⟩ | _ => none
  seq := fun _ => none
  loop := fun _ => none
  live := fun | 0 => some [1] | 1 => some [1] | 2 => some [1, 5] | 3 => some [2] | 4 => some [1, 5, 6] | 5 => some [1, 3] | 6 => some [1, 5, 11] | 7 => some [1, 3] | 8 => some [1, 13] | 9 => some [1, 3] | 10 => some [25] | 11 => some [2] | 12 => some [2] | _ => none
  track := fun | 1 => true | _ => false
  draw := fun | _ => .done
  iter := fun | _ => none }
def vc19 (a0 : Int) (a1 : Int) (a2 : ByteArray) (a3 : ByteArray) (h : Heap) (R : Int → Heap → Prop) : Prop :=
  New 31 [Lf.int IntKind.u32 a0, Lf.int IntKind.i64 a1, Lf.str a2, Lf.str a3] h fun (b0 : Nat) (h1 : Heap) =>
    ∃ (I2 : Int → Heap → Prop),
      Br (a1 == (0 : Int)) (I2 (↑(ByteArray.size a3) : Int) h1) (Br (a1 == (1 : Int)) (I2 (16384 : Int) h1) (Br (a1 == (2 : Int)) (I2 (1024 : Int) h1) (R (1 : Int) h1))) ∧
        ∀ (i3 : Int) (h4 : Heap),
          I2 i3 h4 →
            Br (Decidable.decide ((↑(ByteArray.size a2) : Int) > (1024 : Int))) (R (2 : Int) h4) (Br (Decidable.decide ((↑(ByteArray.size a3) : Int) > i3)) (R (2 : Int) h4) (R (0 : Int) h4))
theorem eq19 (a0 : Int) (a1 : Int) (a2 : ByteArray) (a3 : ByteArray) (h : Heap) (R : Int → Heap → Prop) : vc19 a0 a1 a2 a3 h R = vcFn Go.Proofs.Try.prog pl19 Go.Proofs.Try.f19 [.agg [.int .u32 a0, .int .i64 a1, .str a2, .str a3]] h [.one (.int .i64)] R := by kernel_rfl
theorem ok19 {a0 : Int} {a1 : Int} {a2 : ByteArray} {a3 : ByteArray} {h : Heap} {R : Int → Heap → Prop} (hv : vc19 a0 a1 a2 a3 h R) : Call Go.Proofs.Try.prog 19 [.agg [.int .u32 a0, .int .i64 a1, .str a2, .str a3]] h [.one (.int .i64)] R := call_eq hng hmix Go.Proofs.Try.func19 (eq19 a0 a1 a2 a3 h R) hv
/- 54: sediment.batch.plain (r) -/
def pl54 : Plan := {
  blk := fun _ => none
  seq := fun _ => none
  loop := fun _ => none
  live := fun | 0 => some [1, 2] | 1 => some [1, 2, 5] | 2 => some [1, 2] | 3 => some [2] | _ => none
  track := fun | 1 => true | 2 => true | _ => false
  draw := fun | _ => .done
  iter := fun | _ => none }
def vc54 (a0 : Int) (a1 : Int) (a2 : ByteArray) (a3 : ByteArray) (h : Heap) (R : Int → Int → ByteArray → ByteArray → Heap → Prop) : Prop :=
  New 31 [Lf.int IntKind.u32 a0, Lf.int IntKind.i64 a1, Lf.str a2, Lf.str a3] h fun (b0 : Nat) (h1 : Heap) =>
    New 31 [Lf.int IntKind.u32 (0 : Int), Lf.int IntKind.i64 (0 : Int), Lf.str (ByteArray.mk #[]), Lf.str (ByteArray.mk #[])] h1
      fun (b2 : Nat) (h3 : Heap) =>
      Br (a1 == (0 : Int))
        (Set b0 31 [Lf.int IntKind.u32 a0, Lf.int IntKind.i64 a1, Lf.str a2, Lf.str (ByteArray.mk #[])] h3 fun (h4 : Heap) =>
          Set b2 31 [Lf.int IntKind.u32 a0, Lf.int IntKind.i64 a1, Lf.str a2, Lf.str (ByteArray.mk #[])] h4 fun (h5 : Heap) =>
            R a0 a1 a2 (ByteArray.mk #[]) h5)
        (Set b2 31 [Lf.int IntKind.u32 a0, Lf.int IntKind.i64 a1, Lf.str a2, Lf.str a3] h3 fun (h6 : Heap) => R a0 a1 a2 a3 h6)
theorem eq54 (a0 : Int) (a1 : Int) (a2 : ByteArray) (a3 : ByteArray) (h : Heap) (R : Int → Int → ByteArray → ByteArray → Heap → Prop) : vc54 a0 a1 a2 a3 h R = vcFn Go.Proofs.Try.prog pl54 Go.Proofs.Try.f54 [.agg [.int .u32 a0, .int .i64 a1, .str a2, .str a3]] h [.agg [.int .u32, .int .i64, .str, .str]] R := by kernel_rfl
theorem ok54 {a0 : Int} {a1 : Int} {a2 : ByteArray} {a3 : ByteArray} {h : Heap} {R : Int → Int → ByteArray → ByteArray → Heap → Prop} (hv : vc54 a0 a1 a2 a3 h R) : Call Go.Proofs.Try.prog 54 [.agg [.int .u32 a0, .int .i64 a1, .str a2, .str a3]] h [.agg [.int .u32, .int .i64, .str, .str]] R := call_eq hng hmix Go.Proofs.Try.func54 (eq54 a0 a1 a2 a3 h R) hv
/- 55: sediment.codec.Varint (n) · loop 2: n, b -/
def pl55 : Plan := {
  blk := fun _ => none
  seq := fun _ => none
  loop := fun | 2 => some ⟨[(0, .one (.int .u64)), (3, .one .slc)], [], []⟩ | _ => none
  live := fun | 0 => some [0] | 1 => some [0, 3] | 2 => some [0, 3, 5] | 3 => some [0, 3] | 4 => some [0, 3] | 5 => some [2] | _ => none
  track := fun | _ => false
  draw := fun | _ => .done
  iter := fun | _ => none }
def vc55 (a0 : Int) (h : Heap) (R : Slc → Heap → Prop) : Prop :=
  ∃ (I0 : Int → Slc → Heap → Nat → Prop),
    (∃ (b1 : Nat), I0 a0 (Slc.mk Option.none 0 0) h b1) ∧
      ∀ (i2 : Int) (s3 : Slc) (h4 : Heap) (b5 : Nat),
        I0 i2 s3 h4 b5 →
          Br (Decidable.decide (i2 ≥ (128 : Int)))
            (New 5 [Lf.int IntKind.u8 (bitop IntKind.u8 BinOp.or (IntKind.wrap IntKind.u8 i2) (128 : Int))] h4 fun (b6 : Nat) (h7 : Heap) =>
              AppC 5 [Lf.int IntKind.u8 (0 : Int)] 1 1 s3 (Slc.mk (Option.some (b6, 0)) 1 1) h7
                fun (s8 : Slc) (h9 : Heap) => (0 : Int) ≤ (7 : Int) ∧ ∃ (b10 : Nat), b10 < b5 ∧ I0 (shiftR IntKind.u64 i2 (7 : Int)) s8 h9 b10)
            (New 5 [Lf.int IntKind.u8 (IntKind.wrap IntKind.u8 i2)] h4 fun (b11 : Nat) (h12 : Heap) =>
              AppC 5 [Lf.int IntKind.u8 (0 : Int)] 1 1 s3 (Slc.mk (Option.some (b11, 0)) 1 1) h12
                fun (s13 : Slc) (h14 : Heap) => R s13 h14)
theorem eq55 (a0 : Int) (h : Heap) (R : Slc → Heap → Prop) : vc55 a0 h R = vcFn Go.Proofs.Try.prog pl55 Go.Proofs.Try.f55 [.lf (.int .u64 a0)] h [.one .slc] R := by kernel_rfl
theorem ok55 {a0 : Int} {h : Heap} {R : Slc → Heap → Prop} (hv : vc55 a0 h R) : Call Go.Proofs.Try.prog 55 [.lf (.int .u64 a0)] h [.one .slc] R := call_eq hng hmix Go.Proofs.Try.func55 (eq55 a0 h R) hv
/- 57: sediment.codec.fixed (n, size) · loop 3: #11 -/
def pl57 : Plan := {
  blk := fun _ => none
  seq := fun _ => none
  loop := fun | 3 => some ⟨[(11, .one (.int .i64))], [], []⟩ | _ => none
  live := fun | 0 => some [0, 1] | 1 => some [0, 5] | 2 => some [0, 5, 10, 11] | 3 => some [0, 5, 10, 11, 12] | 4 => some [0, 5, 6, 10, 11] | 5 => some [0, 5, 10, 11] | 6 => some [0, 5, 10, 11] | 7 => some [4] | _ => none
  track := fun | _ => false
  draw := fun | _ => .done
  iter := fun | _ => none }
def vc57 (a0 : Int) (a1 : Int) (h : Heap) (R : Slc → Heap → Prop) : Prop :=
  MkC 5 [Lf.int IntKind.u8 (0 : Int)] 1 1 a1 a1 h fun (s0 : Slc) (h1 : Heap) =>
    ∃ (I2 : Int → Heap → Nat → Prop),
      (∃ (b3 : Nat), I2 (0 : Int) h1 b3) ∧
        ∀ (i4 : Int) (h5 : Heap) (b6 : Nat),
          I2 i4 h5 b6 →
            Br (Decidable.decide (i4 < (↑(Slc.len s0) : Int)))
              ((0 : Int) ≤ IntKind.wrap IntKind.i64 ((8 : Int) * i4) ∧
                IxC s0 i4 1 fun (b7 b8 : Nat) =>
                  StC h5 b7 b8 [Lf.int IntKind.u8 (IntKind.wrap IntKind.u8 (shiftR IntKind.u64 a0 (IntKind.wrap IntKind.i64 ((8 : Int) * i4))))]
                    fun (h9 : Heap) => ∃ (b10 : Nat), b10 < b6 ∧ I2 (IntKind.wrap IntKind.i64 (i4 + (1 : Int))) h9 b10)
              (R s0 h5)
theorem eq57 (a0 : Int) (a1 : Int) (h : Heap) (R : Slc → Heap → Prop) : vc57 a0 a1 h R = vcFn Go.Proofs.Try.prog pl57 Go.Proofs.Try.f57 [.lf (.int .u64 a0), .lf (.int .i64 a1)] h [.one .slc] R := by kernel_rfl
theorem ok57 {a0 : Int} {a1 : Int} {h : Heap} {R : Slc → Heap → Prop} (hv : vc57 a0 a1 h R) : Call Go.Proofs.Try.prog 57 [.lf (.int .u64 a0), .lf (.int .i64 a1)] h [.one .slc] R := call_eq hng hmix Go.Proofs.Try.func57 (eq57 a0 a1 h R) hv
/- 33: sediment.codec.Fixed64 (n) -/
def pl33 : Plan := {
  blk := fun _ => none
  seq := fun _ => none
  loop := fun _ => none
  live := fun | 0 => some [0] | 1 => some [2] | _ => none
  track := fun | _ => false
  draw := fun | _ => .done
  iter := fun | _ => none }
def vc33 (a0 : Int) (h : Heap) (R : Slc → Heap → Prop) : Prop :=
  Call Go.Proofs.Try.prog 57 [VV.lf (Lf.int IntKind.u64 a0), VV.lf (Lf.int IntKind.i64 (8 : Int))] h [VT.one LT.slc]
    fun (s0 : Slc) (h1 : Heap) => R s0 h1
theorem eq33 (a0 : Int) (h : Heap) (R : Slc → Heap → Prop) : vc33 a0 h R = vcFn Go.Proofs.Try.prog pl33 Go.Proofs.Try.f33 [.lf (.int .u64 a0)] h [.one .slc] R := by kernel_rfl
theorem ok33 {a0 : Int} {h : Heap} {R : Slc → Heap → Prop} (hv : vc33 a0 h R) : Call Go.Proofs.Try.prog 33 [.lf (.int .u64 a0)] h [.one .slc] R := call_eq hng hmix Go.Proofs.Try.func33 (eq33 a0 h R) hv
/- 34: sediment.codec.Fixed32 (n) -/
def pl34 : Plan := {
  blk := fun _ => none
  seq := fun _ => none
  loop := fun _ => none
  live := fun | 0 => some [0] | 1 => some [2] | _ => none
  track := fun | _ => false
  draw := fun | _ => .done
  iter := fun | _ => none }
def vc34 (a0 : Int) (h : Heap) (R : Slc → Heap → Prop) : Prop :=
  Call Go.Proofs.Try.prog 57 [VV.lf (Lf.int IntKind.u64 (IntKind.wrap IntKind.u64 a0)), VV.lf (Lf.int IntKind.i64 (4 : Int))] h [VT.one LT.slc]
    fun (s0 : Slc) (h1 : Heap) => R s0 h1
theorem eq34 (a0 : Int) (h : Heap) (R : Slc → Heap → Prop) : vc34 a0 h R = vcFn Go.Proofs.Try.prog pl34 Go.Proofs.Try.f34 [.lf (.int .u32 a0)] h [.one .slc] R := by kernel_rfl
theorem ok34 {a0 : Int} {h : Heap} {R : Slc → Heap → Prop} (hv : vc34 a0 h R) : Call Go.Proofs.Try.prog 34 [.lf (.int .u32 a0)] h [.one .slc] R := call_eq hng hmix Go.Proofs.Try.func34 (eq34 a0 h R) hv
/- 32: sediment.batch.fits (seq, n) -/
def pl32 : Plan := {
  blk := fun _ => none
  seq := fun _ => none
  loop := fun _ => none
  live := fun | 0 => some [0, 1] | 1 => some [4] | _ => none
  track := fun | _ => false
  draw := fun | _ => .done
  iter := fun | _ => none }
def vc32 (a0 : Int) (a1 : Int) (h : Heap) (R : Bool → Heap → Prop) : Prop :=
  Br (Decidable.decide (a0 ≤ (72057594037927935 : Int)))
    (Br (a1 == (0 : Int)) (R Bool.true h)
      (R (Decidable.decide (IntKind.wrap IntKind.u64 (IntKind.wrap IntKind.i64 (a1 - (1 : Int))) ≤ IntKind.wrap IntKind.u64 ((72057594037927935 : Int) - a0))) h))
    (R Bool.false h)
theorem eq32 (a0 : Int) (a1 : Int) (h : Heap) (R : Bool → Heap → Prop) : vc32 a0 a1 h R = vcFn Go.Proofs.Try.prog pl32 Go.Proofs.Try.f32 [.lf (.int .u64 a0), .lf (.int .i64 a1)] h [.one .bool] R := by kernel_rfl
theorem ok32 {a0 : Int} {a1 : Int} {h : Heap} {R : Bool → Heap → Prop} (hv : vc32 a0 a1 h R) : Call Go.Proofs.Try.prog 32 [.lf (.int .u64 a0), .lf (.int .i64 a1)] h [.one .bool] R := call_eq hng hmix Go.Proofs.Try.func32 (eq32 a0 a1 h R) hv
/- 56: sediment.batch.text (b, s) -/
def pl56 : Plan := {
  blk := fun _ => none
  seq := fun _ => none
  loop := fun _ => none
  live := fun | 0 => some [0, 1] | 1 => some [4] | _ => none
  track := fun | _ => false
  draw := fun | _ => .done
  iter := fun | _ => none }
def vc56 (a0 : Slc) (a1 : ByteArray) (h : Heap) (R : Slc → Heap → Prop) : Prop :=
  Call Go.Proofs.Try.prog 55 [VV.lf (Lf.int IntKind.u64 (IntKind.wrap IntKind.u64 (↑(ByteArray.size a1) : Int)))] h [VT.one LT.slc]
    fun (s0 : Slc) (h1 : Heap) =>
    AppC 5 [Lf.int IntKind.u8 (0 : Int)] 1 1 a0 s0 h1 fun (s2 : Slc) (h3 : Heap) =>
      AppV 5 [Value.int IntKind.u8 (0 : Int)] 1 1 s2 (ByteArray.size a1)
        (List.map (fun (c : UInt8) => Value.int IntKind.u8 (↑(UInt8.toNat c) : Int)) (Array.toList (ByteArray.data a1))) h3 fun (s4 : Slc) (h5 : Heap) => R s4 h5
theorem eq56 (a0 : Slc) (a1 : ByteArray) (h : Heap) (R : Slc → Heap → Prop) : vc56 a0 a1 h R = vcFn Go.Proofs.Try.prog pl56 Go.Proofs.Try.f56 [.lf (.slc a0), .lf (.str a1)] h [.one .slc] R := by kernel_rfl
theorem ok56 {a0 : Slc} {a1 : ByteArray} {h : Heap} {R : Slc → Heap → Prop} (hv : vc56 a0 a1 h R) : Call Go.Proofs.Try.prog 56 [.lf (.slc a0), .lf (.str a1)] h [.one .slc] R := call_eq hng hmix Go.Proofs.Try.func56 (eq56 a0 a1 h R) hv
/- 30: sediment.batch.bytes (r) · seq 2: b -/
def pl30 : Plan := {
  blk := fun _ => none
  seq := fun | 2 => some ⟨[(3, .one .slc)], [], []⟩ | _ => none
  loop := fun _ => none
  live := fun | 0 => some [1] | 1 => some [1, 3] | 2 => some [1, 3] | 3 => some [1, 3, 19] | 4 => some [3] | 5 => some [2] | _ => none
  track := fun | 1 => true | _ => false
  draw := fun | 1 => .still 0 (.still 1 (.still 2 (.still 4 (.still 5 (.still 6 (.alt 3 (.mem 7 (.mem 8 (.still 9 (.done)))) (.mem 7 (.mem 3 (.mem 8 (.still 9 (.done))))))))))) | _ => .done
  iter := fun | _ => none }
def vc30 (a0 : Int) (a1 : Int) (a2 : ByteArray) (a3 : ByteArray) (h : Heap) (R : Slc → Heap → Prop) : Prop :=
  New 31 [Lf.int IntKind.u32 a0, Lf.int IntKind.i64 a1, Lf.str a2, Lf.str a3] h fun (b0 : Nat) (h1 : Heap) =>
    ∃ (I2 : Slc → Heap → Prop),
      ((New 5 [Lf.int IntKind.u8 (IntKind.wrap IntKind.u8 a1)] h1 fun (b3 : Nat) (h4 : Heap) =>
            Call Go.Proofs.Try.prog 55 [VV.lf (Lf.int IntKind.u64 (IntKind.wrap IntKind.u64 a0))] h4 [VT.one LT.slc] fun (s5 : Slc) (h6 : Heap) =>
              keepB h4 h6 [b0] ∧
                AppC 5 [Lf.int IntKind.u8 (0 : Int)] 1 1 (Slc.mk (Option.some (b3, 0)) 1 1) s5 h6
                  fun (s7 : Slc) (h8 : Heap) => keepB h6 h8 [b0] ∧ I2 s7 h8) ∧
          Call Go.Proofs.Try.prog 55 [VV.lf (Lf.int IntKind.u64 (IntKind.wrap IntKind.u64 a0))] h1 [VT.one LT.slc] fun (s9 : Slc) (h10 : Heap) =>
            keepB h1 h10 [b0] ∧
              New 5 [Lf.int IntKind.u8 (IntKind.wrap IntKind.u8 a1)] h10 fun (b11 : Nat) (h12 : Heap) =>
                AppC 5 [Lf.int IntKind.u8 (0 : Int)] 1 1 (Slc.mk (Option.some (b11, 0)) 1 1) s9 h12
                  fun (s13 : Slc) (h14 : Heap) => keepB h12 h14 [b0] ∧ I2 s13 h14) ∧
        ∀ (s15 : Slc) (h16 : Heap),
          I2 s15 h16 →
            Call Go.Proofs.Try.prog 56 [VV.lf (Lf.slc s15), VV.lf (Lf.str a2)] h16 [VT.one LT.slc] fun (s17 : Slc) (h18 : Heap) =>
              keepB h16 h18 [b0] ∧
                Br (a1 != (0 : Int))
                  (Call Go.Proofs.Try.prog 56 [VV.lf (Lf.slc s17), VV.lf (Lf.str a3)] h18 [VT.one LT.slc] fun (s19 : Slc) (h20 : Heap) =>
                    keepB h18 h20 [b0] ∧ R s19 h20)
                  (R s17 h18)
theorem eq30 (a0 : Int) (a1 : Int) (a2 : ByteArray) (a3 : ByteArray) (h : Heap) (R : Slc → Heap → Prop) : vc30 a0 a1 a2 a3 h R = vcFn Go.Proofs.Try.prog pl30 Go.Proofs.Try.f30 [.agg [.int .u32 a0, .int .i64 a1, .str a2, .str a3]] h [.one .slc] R := by kernel_rfl
theorem ok30 {a0 : Int} {a1 : Int} {a2 : ByteArray} {a3 : ByteArray} {h : Heap} {R : Slc → Heap → Prop} (hv : vc30 a0 a1 a2 a3 h R) : Call Go.Proofs.Try.prog 30 [.agg [.int .u32 a0, .int .i64 a1, .str a2, .str a3]] h [.one .slc] R := call_eq hng hmix Go.Proofs.Try.func30 (eq30 a0 a1 a2 a3 h R) hv
/- 28: sediment.sedimentref01.Varint (n) · loop 2: n, b -/
def pl28 : Plan := {
  blk := fun _ => none
  seq := fun _ => none
  loop := fun | 2 => some ⟨[(0, .one (.int .u64)), (3, .one .slc)], [], []⟩ | _ => none
  live := fun | 0 => some [0] | 1 => some [0, 3] | 2 => some [0, 3, 6] | 3 => some [0, 3] | 4 => some [0, 3] | 5 => some [2] | _ => none
  track := fun | _ => false
  draw := fun | _ => .done
  iter := fun | _ => none }
def vc28 (a0 : Int) (h : Heap) (R : Slc → Heap → Prop) : Prop :=
  New 5 [] h fun (b0 : Nat) (h1 : Heap) =>
    ∃ (I2 : Int → Slc → Heap → Nat → Prop),
      (∃ (b3 : Nat), I2 a0 (Slc.mk (Option.some (b0, 0)) 0 0) h1 b3) ∧
        ∀ (i4 : Int) (s5 : Slc) (h6 : Heap) (b7 : Nat),
          I2 i4 s5 h6 b7 →
            Br (Decidable.decide (i4 ≥ (128 : Int)))
              (New 5 [Lf.int IntKind.u8 (bitop IntKind.u8 BinOp.or (IntKind.wrap IntKind.u8 (bitop IntKind.u64 BinOp.and i4 (127 : Int))) (128 : Int))]
                h6 fun (b8 : Nat) (h9 : Heap) =>
                AppC 5 [Lf.int IntKind.u8 (0 : Int)] 1 1 s5 (Slc.mk (Option.some (b8, 0)) 1 1) h9
                  fun (s10 : Slc) (h11 : Heap) => (0 : Int) ≤ (7 : Int) ∧ ∃ (b12 : Nat), b12 < b7 ∧ I2 (shiftR IntKind.u64 i4 (7 : Int)) s10 h11 b12)
              (New 5 [Lf.int IntKind.u8 (IntKind.wrap IntKind.u8 i4)] h6 fun (b13 : Nat) (h14 : Heap) =>
                AppC 5 [Lf.int IntKind.u8 (0 : Int)] 1 1 s5 (Slc.mk (Option.some (b13, 0)) 1 1) h14
                  fun (s15 : Slc) (h16 : Heap) => R s15 h16)
theorem eq28 (a0 : Int) (h : Heap) (R : Slc → Heap → Prop) : vc28 a0 h R = vcFn Go.Proofs.Try.prog pl28 Go.Proofs.Try.f28 [.lf (.int .u64 a0)] h [.one .slc] R := by kernel_rfl
theorem ok28 {a0 : Int} {h : Heap} {R : Slc → Heap → Prop} (hv : vc28 a0 h R) : Call Go.Proofs.Try.prog 28 [.lf (.int .u64 a0)] h [.one .slc] R := call_eq hng hmix Go.Proofs.Try.func28 (eq28 a0 h R) hv
/- 11: sediment.sedimentref03.Size (r) -/
def pl11 : Plan := {
  blk := fun _ => none
  seq := fun _ => none
  loop := fun _ => none
  live := fun | 0 => some [1] | 1 => some [1, 3] | 2 => some [1, 3, 23] | 3 => some [3] | 4 => some [2] | _ => none
  track := fun | 1 => true | _ => false
  draw := fun | 1 => .still 0 (.still 1 (.still 2 (.still 6 (.still 7 (.still 8 (.still 9 (.still 13 (.still 14 (.still 15 (.mem 3 (.still 4 (.still 5 (.mem 10 (.still 11 (.still 12 (.still 16 (.still 17 (.done)))))))))))))))))) | 3 => .still 0 (.still 1 (.still 2 (.still 3 (.still 4 (.still 8 (.still 9 (.still 10 (.mem 5 (.still 6 (.still 7 (.still 11 (.still 12 (.done))))))))))))) | _ => .done
  iter := fun | _ => none }
def vc11 (a0 : Int) (a1 : Int) (a2 : ByteArray) (a3 : ByteArray) (h : Heap) (R : Int → Heap → Prop) : Prop :=
  New 31 [Lf.int IntKind.u32 a0, Lf.int IntKind.i64 a1, Lf.str a2, Lf.str a3] h fun (b0 : Nat) (h1 : Heap) =>
    Call Go.Proofs.Try.prog 28 [VV.lf (Lf.int IntKind.u64 (IntKind.wrap IntKind.u64 a0))] h1 [VT.one LT.slc] fun (s2 : Slc) (h3 : Heap) =>
      keepB h1 h3 [b0] ∧
        Call Go.Proofs.Try.prog 28 [VV.lf (Lf.int IntKind.u64 (IntKind.wrap IntKind.u64 (↑(ByteArray.size a2) : Int)))] h3 [VT.one LT.slc]
          fun (s4 : Slc) (h5 : Heap) =>
          keepB h3 h5 [b0] ∧
            Br (a1 != (0 : Int))
              (Call Go.Proofs.Try.prog 28 [VV.lf (Lf.int IntKind.u64 (IntKind.wrap IntKind.u64 (↑(ByteArray.size a3) : Int)))] h5 [VT.one LT.slc]
                fun (s6 : Slc) (h7 : Heap) =>
                keepB h5 h7 [b0] ∧
                  R
                    (IntKind.wrap IntKind.i64
                      (IntKind.wrap IntKind.i64
                          (IntKind.wrap IntKind.i64
                              (IntKind.wrap IntKind.i64 (IntKind.wrap IntKind.i64 ((1 : Int) + (↑(Slc.len s2) : Int)) + (↑(Slc.len s4) : Int)) + (↑(ByteArray.size a2) : Int)) +
                            (↑(Slc.len s6) : Int)) +
                        (↑(ByteArray.size a3) : Int)))
                    h7)
              (R
                (IntKind.wrap IntKind.i64
                  (IntKind.wrap IntKind.i64 (IntKind.wrap IntKind.i64 ((1 : Int) + (↑(Slc.len s2) : Int)) + (↑(Slc.len s4) : Int)) + (↑(ByteArray.size a2) : Int)))
                h5)
theorem eq11 (a0 : Int) (a1 : Int) (a2 : ByteArray) (a3 : ByteArray) (h : Heap) (R : Int → Heap → Prop) : vc11 a0 a1 a2 a3 h R = vcFn Go.Proofs.Try.prog pl11 Go.Proofs.Try.f11 [.agg [.int .u32 a0, .int .i64 a1, .str a2, .str a3]] h [.one (.int .i64)] R := by kernel_rfl
theorem ok11 {a0 : Int} {a1 : Int} {a2 : ByteArray} {a3 : ByteArray} {h : Heap} {R : Int → Heap → Prop} (hv : vc11 a0 a1 a2 a3 h R) : Call Go.Proofs.Try.prog 11 [.agg [.int .u32 a0, .int .i64 a1, .str a2, .str a3]] h [.one (.int .i64)] R := call_eq hng hmix Go.Proofs.Try.func11 (eq11 a0 a1 a2 a3 h R) hv
/- 27: slices.Clone[[]sediment.api.Record,sediment.api.Record] (s) -/
def pl27 : Plan := {
  blk := fun _ => none
  seq := fun _ => none
  loop := fun _ => none
  live := fun | 0 => some [0] | 1 => some [0, 4] | 2 => some [2] | 3 => some [2] | _ => none
  track := fun | _ => false
  draw := fun | _ => .done
  iter := fun | _ => none }
def vc27 (a0 : Slc) (h : Heap) (R : Slc → Heap → Prop) : Prop :=
  Br (Option.isNone (Slc.a a0)) (R (Slc.mk Option.none 0 0) h)
    (New 31 [] h fun (b0 : Nat) (h1 : Heap) =>
      AppC 31 [Lf.int IntKind.u32 (0 : Int), Lf.int IntKind.i64 (0 : Int), Lf.str (ByteArray.mk #[]), Lf.str (ByteArray.mk #[])] 4 48
        (Slc.mk (Option.some (b0, 0)) 0 0) a0 h1 fun (s2 : Slc) (h3 : Heap) => R s2 h3)
theorem eq27 (a0 : Slc) (h : Heap) (R : Slc → Heap → Prop) : vc27 a0 h R = vcFn Go.Proofs.Try.prog pl27 Go.Proofs.Try.f27 [.lf (.slc a0)] h [.one .slc] R := by kernel_rfl
theorem ok27 {a0 : Slc} {h : Heap} {R : Slc → Heap → Prop} (hv : vc27 a0 h R) : Call Go.Proofs.Try.prog 27 [.lf (.slc a0)] h [.one .slc] R := call_eq hng hmix Go.Proofs.Try.func27 (eq27 a0 h R) hv
/- 9: (*sediment.batch.Batch).Records (b) -/
def pl9 : Plan := {
  blk := fun _ => none
  seq := fun _ => none
  loop := fun _ => none
  live := fun | 0 => some [0] | 1 => some [2] | _ => none
  track := fun | _ => false
  draw := fun | _ => .done
  iter := fun | _ => none }
def vc9 (a0 : Option (Nat × Nat)) (h : Heap) (R : Slc → Heap → Prop) : Prop :=
  NilC a0 fun (b0 b1 : Nat) =>
    ∃ (s2 : Slc),
      cellsAt h b0 (b1 + 0) [Lf.slc s2] ∧
        Call Go.Proofs.Try.prog 27 [VV.lf (Lf.slc s2)] h [VT.one LT.slc] fun (s3 : Slc) (h4 : Heap) => R s3 h4
theorem eq9 (a0 : Option (Nat × Nat)) (h : Heap) (R : Slc → Heap → Prop) : vc9 a0 h R = vcFn Go.Proofs.Try.prog pl9 Go.Proofs.Try.f9 [.lf (.ptr a0)] h [.one .slc] R := by kernel_rfl
theorem ok9 {a0 : Option (Nat × Nat)} {h : Heap} {R : Slc → Heap → Prop} (hv : vc9 a0 h R) : Call Go.Proofs.Try.prog 9 [.lf (.ptr a0)] h [.one .slc] R := call_eq hng hmix Go.Proofs.Try.func9 (eq9 a0 h R) hv
/- 10: (*sediment.batch.Batch).Size (b) -/
def pl10 : Plan := {
  blk := fun _ => none
  seq := fun _ => none
  loop := fun _ => none
  live := fun | 0 => some [0] | 1 => some [2] | _ => none
  track := fun | _ => false
  draw := fun | _ => .done
  iter := fun | _ => none }
def vc10 (a0 : Option (Nat × Nat)) (h : Heap) (R : Int → Heap → Prop) : Prop :=
  NilC a0 fun (b0 b1 : Nat) => ∃ (i2 : Int), cellsAt h b0 (b1 + 1) [Lf.int IntKind.i64 i2] ∧ R (if (12 : Int) > i2 then (12 : Int) else i2) h
theorem eq10 (a0 : Option (Nat × Nat)) (h : Heap) (R : Int → Heap → Prop) : vc10 a0 h R = vcFn Go.Proofs.Try.prog pl10 Go.Proofs.Try.f10 [.lf (.ptr a0)] h [.one (.int .i64)] R := by kernel_rfl
theorem ok10 {a0 : Option (Nat × Nat)} {h : Heap} {R : Int → Heap → Prop} (hv : vc10 a0 h R) : Call Go.Proofs.Try.prog 10 [.lf (.ptr a0)] h [.one (.int .i64)] R := call_eq hng hmix Go.Proofs.Try.func10 (eq10 a0 h R) hv
/- 26: (*sediment.batch.Batch).all () · seq 11: #45 · loop 3: #5, #18 · loop 13: #48 -/
def pl26 : Plan := {
  blk := fun _ => none
  seq := fun | 11 => some ⟨[(45, .one .bool)], [], [0]⟩ | _ => none
  loop := fun | 3 => some ⟨[(5, .one (.int .i64)), (18, .one (.int .i64))], [], []⟩ | 13 => some ⟨[(48, .one (.int .i64))], [], [0]⟩ | _ => none
  live := fun | 0 => some [0, 1] | 1 => some [0, 1, 5] | 2 => some [0, 1, 5, 16, 17, 18] | 3 => some [0, 1, 5, 16, 17, 18, 19] | 4 => some [0, 1, 5, 7, 16, 17, 18] | 5 => some [0, 1, 5, 7, 8, 16, 17, 18] | 6 => some [0, 1, 5, 7, 8, 16, 17, 18, 25] | 7 => some [4] | 8 => some [0, 1, 5, 16, 17, 18] | 9 => some [0, 1, 5, 16, 17, 18] | 10 => some [0, 1, 5, 45] | 11 => some [4] | 12 => some [0, 5, 46, 47, 48] | 13 => some [0, 5, 46, 47, 48, 49] | 14 => some [0, 5, 10, 46, 47, 48] | 15 => some [0, 5, 46, 47, 48] | 16 => some [0, 5, 46, 47, 48] | 17 => some [] | 18 => some [4] | _ => none
  track := fun | 7 => true | 10 => true | _ => false
  draw := fun | 15 => .still 0 (.still 1 (.still 2 (.still 3 (.still 4 (.still 5 (.mem 6 (.mem 7 (.mem 8 (.still 9 (.still 10 (.mem 11 (.done)))))))))))) | _ => .done
  iter := fun | _ => none }
def vc26 (a0 : Option (Nat × Nat)) (a1 : Slc) (h : Heap) (R : Int → Heap → Prop) : Prop :=
  NilC a0 fun (b0 b1 : Nat) =>
    ∃ (i2 : Int),
      cellsAt h b0 (b1 + 1) [Lf.int IntKind.i64 i2] ∧
        ∃ (I3 : Int → Int → Heap → Nat → Prop),
          (∃ (b4 : Nat), I3 (if (12 : Int) > i2 then (12 : Int) else i2) (0 : Int) h b4) ∧
            ∀ (i5 i6 : Int) (h7 : Heap) (b8 : Nat),
              I3 i5 i6 h7 b8 →
                Br (Decidable.decide (i6 < (↑(Slc.len a1) : Int)))
                  (IxC a1 i6 4 fun (b9 b10 : Nat) =>
                    ∃ (i11 : Int),
                      ∃ (i12 : Int),
                        ∃ (t13 : ByteArray),
                          ∃ (t14 : ByteArray),
                            cellsAt h7 b9 b10 [Lf.int IntKind.u32 i11, Lf.int IntKind.i64 i12, Lf.str t13, Lf.str t14] ∧
                              New 31 [Lf.int IntKind.u32 (0 : Int), Lf.int IntKind.i64 (0 : Int), Lf.str (ByteArray.mk #[]), Lf.str (ByteArray.mk #[])] h7
                                fun (b15 : Nat) (h16 : Heap) =>
                                Set b15 31 [Lf.int IntKind.u32 i11, Lf.int IntKind.i64 i12, Lf.str t13, Lf.str t14] h16 fun (h17 : Heap) =>
                                  Call Go.Proofs.Try.prog 19 [VV.agg [Lf.int IntKind.u32 i11, Lf.int IntKind.i64 i12, Lf.str t13, Lf.str t14]] h17
                                    [VT.one (LT.int IntKind.i64)] fun (i18 : Int) (h19 : Heap) =>
                                    keepB h17 h19 [b15] ∧
                                      Br (i18 != (0 : Int)) (R i18 h19)
                                        (Call Go.Proofs.Try.prog 30 [VV.agg [Lf.int IntKind.u32 i11, Lf.int IntKind.i64 i12, Lf.str t13, Lf.str t14]] h19
                                          [VT.one LT.slc] fun (s20 : Slc) (h21 : Heap) =>
                                          keepB h19 h21 [b15] ∧
                                            ∃ (b22 : Nat), b22 < b8 ∧ I3 (IntKind.wrap IntKind.i64 (i5 + (↑(Slc.len s20) : Int))) (IntKind.wrap IntKind.i64 (i6 + (1 : Int))) h21 b22))
                  (∃ (I23 : Bool → Heap → Prop),
                    (NilC a0 fun (b24 b25 : Nat) =>
                        ∃ (s26 : Slc),
                          cellsAt h7 b24 (b25 + 0) [Lf.slc s26] ∧
                            Br (Decidable.decide (IntKind.wrap IntKind.i64 ((↑(Slc.len s26) : Int) + (↑(Slc.len a1) : Int)) > (4096 : Int))) (I23 Bool.true h7)
                              (I23 (Decidable.decide (i5 > (4194304 : Int))) h7)) ∧
                      ∀ (c27 : Bool) (h28 : Heap),
                        I23 c27 h28 →
                          Br c27 (R (2 : Int) h28)
                            (∃ (I29 : Int → Heap → Nat → Prop),
                              (∃ (b30 : Nat), I29 (0 : Int) h28 b30) ∧
                                ∀ (i31 : Int) (h32 : Heap) (b33 : Nat),
                                  I29 i31 h32 b33 →
                                    Br (Decidable.decide (i31 < (↑(Slc.len a1) : Int)))
                                      (IxC a1 i31 4 fun (b34 b35 : Nat) =>
                                        ∃ (i36 : Int),
                                          ∃ (i37 : Int),
                                            ∃ (t38 : ByteArray),
                                              ∃ (t39 : ByteArray),
                                                cellsAt h32 b34 b35 [Lf.int IntKind.u32 i36, Lf.int IntKind.i64 i37, Lf.str t38, Lf.str t39] ∧
                                                  New 31
                                                    [Lf.int IntKind.u32 (0 : Int), Lf.int IntKind.i64 (0 : Int), Lf.str (ByteArray.mk #[]), Lf.str (ByteArray.mk #[])] h32
                                                    fun (b40 : Nat) (h41 : Heap) =>
                                                    Set b40 31 [Lf.int IntKind.u32 i36, Lf.int IntKind.i64 i37, Lf.str t38, Lf.str t39] h41
                                                      fun (h42 : Heap) =>
                                                      NilC a0 fun (b43 b44 : Nat) =>
                                                        ∃ (s45 : Slc),
                                                          cellsAt h42 b43 (b44 + 0) [Lf.slc s45] ∧
                                                            Call Go.Proofs.Try.prog 54
                                                              [VV.agg [Lf.int IntKind.u32 i36, Lf.int IntKind.i64 i37, Lf.str t38, Lf.str t39]] h42
                                                              [VT.agg [LT.int IntKind.u32, LT.int IntKind.i64, LT.str, LT.str]]
                                                              fun (i46 i47 : Int) (t48 t49 : ByteArray) (h50 : Heap) =>
                                                              keepB h42 h50 [b40] ∧
                                                                cellsAt h50 b43 (b44 + 0) [Lf.slc s45] ∧
                                                                  New 31 [Lf.int IntKind.u32 i46, Lf.int IntKind.i64 i47, Lf.str t48, Lf.str t49] h50
                                                                    fun (b51 : Nat) (h52 : Heap) =>
                                                                    cellsAt h52 b43 (b44 + 0) [Lf.slc s45] ∧
                                                                      AppC 31
                                                                        [Lf.int IntKind.u32 (0 : Int), Lf.int IntKind.i64 (0 : Int), Lf.str (ByteArray.mk #[]),
                                                                          Lf.str (ByteArray.mk #[])]
                                                                        4 48 s45 (Slc.mk (Option.some (b51, 0)) 1 1) h52
                                                                        fun (s53 : Slc) (h54 : Heap) =>
                                                                        keepB h52 h54 [b40] ∧
                                                                          NilC a0 fun (b55 b56 : Nat) =>
                                                                            StC h54 b55 (b56 + 0) [Lf.slc s53] fun (h57 : Heap) =>
                                                                              keepB h54 h57 [b40] ∧ ∃ (b58 : Nat), b58 < b33 ∧ I29 (IntKind.wrap IntKind.i64 (i31 + (1 : Int))) h57 b58)
                                      (NilC a0 fun (b59 b60 : Nat) => StC h32 b59 (b60 + 1) [Lf.int IntKind.i64 i5] fun (h61 : Heap) => R (0 : Int) h61)))
theorem eq26 (a0 : Option (Nat × Nat)) (a1 : Slc) (h : Heap) (R : Int → Heap → Prop) : vc26 a0 a1 h R = vcFn Go.Proofs.Try.prog pl26 Go.Proofs.Try.f26 [.lf (.ptr a0), .lf (.slc a1)] h [.one (.int .i64)] R := by kernel_rfl
theorem ok26 {a0 : Option (Nat × Nat)} {a1 : Slc} {h : Heap} {R : Int → Heap → Prop} (hv : vc26 a0 a1 h R) : Call Go.Proofs.Try.prog 26 [.lf (.ptr a0), .lf (.slc a1)] h [.one (.int .i64)] R := call_eq hng hmix Go.Proofs.Try.func26 (eq26 a0 a1 h R) hv
/- 8: (*sediment.batch.Batch).Add (b, r) -/
def pl8 : Plan := {
  blk := fun _ => none
  seq := fun _ => none
  loop := fun _ => none
  live := fun | 0 => some [0, 3] | 1 => some [4] | _ => none
  track := fun | 3 => true | _ => false
  draw := fun | _ => .done
  iter := fun | _ => none }
def vc8 (a0 : Option (Nat × Nat)) (a1 : Int) (a2 : Int) (a3 : ByteArray) (a4 : ByteArray) (h : Heap) (R : Int → Heap → Prop) : Prop :=
  New 31 [Lf.int IntKind.u32 a1, Lf.int IntKind.i64 a2, Lf.str a3, Lf.str a4] h fun (b0 : Nat) (h1 : Heap) =>
    New 31 [Lf.int IntKind.u32 a1, Lf.int IntKind.i64 a2, Lf.str a3, Lf.str a4] h1 fun (b2 : Nat) (h3 : Heap) =>
      Call Go.Proofs.Try.prog 26 [VV.lf (Lf.ptr a0), VV.lf (Lf.slc (Slc.mk (Option.some (b2, 0)) 1 1))] h3
        [VT.one (LT.int IntKind.i64)] fun (i4 : Int) (h5 : Heap) => keepB h3 h5 [b0] ∧ R i4 h5
theorem eq8 (a0 : Option (Nat × Nat)) (a1 : Int) (a2 : Int) (a3 : ByteArray) (a4 : ByteArray) (h : Heap) (R : Int → Heap → Prop) : vc8 a0 a1 a2 a3 a4 h R = vcFn Go.Proofs.Try.prog pl8 Go.Proofs.Try.f8 [.lf (.ptr a0), .agg [.int .u32 a1, .int .i64 a2, .str a3, .str a4]] h [.one (.int .i64)] R := by kernel_rfl
theorem ok8 {a0 : Option (Nat × Nat)} {a1 : Int} {a2 : Int} {a3 : ByteArray} {a4 : ByteArray} {h : Heap} {R : Int → Heap → Prop} (hv : vc8 a0 a1 a2 a3 a4 h R) : Call Go.Proofs.Try.prog 8 [.lf (.ptr a0), .agg [.int .u32 a1, .int .i64 a2, .str a3, .str a4]] h [.one (.int .i64)] R := call_eq hng hmix Go.Proofs.Try.func8 (eq8 a0 a1 a2 a3 a4 h R) hv
/- 29: (*sediment.batch.Batch).Put (b, family, key, value) -/
def pl29 : Plan := {
  blk := fun _ => none
  seq := fun _ => none
  loop := fun _ => none
  live := fun | 0 => some [0, 1, 2, 3] | 1 => some [8] | _ => none
  track := fun | _ => false
  draw := fun | _ => .done
  iter := fun | _ => none }
def vc29 (a0 : Option (Nat × Nat)) (a1 : Int) (a2 : ByteArray) (a3 : ByteArray) (h : Heap) (R : Int → Heap → Prop) : Prop :=
  Call Go.Proofs.Try.prog 8 [VV.lf (Lf.ptr a0), VV.agg [Lf.int IntKind.u32 a1, Lf.int IntKind.i64 (1 : Int), Lf.str a2, Lf.str a3]] h
    [VT.one (LT.int IntKind.i64)] fun (i0 : Int) (h1 : Heap) => R i0 h1
theorem eq29 (a0 : Option (Nat × Nat)) (a1 : Int) (a2 : ByteArray) (a3 : ByteArray) (h : Heap) (R : Int → Heap → Prop) : vc29 a0 a1 a2 a3 h R = vcFn Go.Proofs.Try.prog pl29 Go.Proofs.Try.f29 [.lf (.ptr a0), .lf (.int .u32 a1), .lf (.str a2), .lf (.str a3)] h [.one (.int .i64)] R := by kernel_rfl
theorem ok29 {a0 : Option (Nat × Nat)} {a1 : Int} {a2 : ByteArray} {a3 : ByteArray} {h : Heap} {R : Int → Heap → Prop} (hv : vc29 a0 a1 a2 a3 h R) : Call Go.Proofs.Try.prog 29 [.lf (.ptr a0), .lf (.int .u32 a1), .lf (.str a2), .lf (.str a3)] h [.one (.int .i64)] R := call_eq hng hmix Go.Proofs.Try.func29 (eq29 a0 a1 a2 a3 h R) hv
/- 12: (*sediment.batch.Batch).Append (b, o) -/
def pl12 : Plan := {
  blk := fun _ => none
  seq := fun _ => none
  loop := fun _ => none
  live := fun | 0 => some [0, 1] | 1 => some [0, 1, 6] | 2 => some [4] | 3 => some [4] | _ => none
  track := fun | _ => false
  draw := fun | _ => .done
  iter := fun | _ => none }
def vc12 (a0 : Option (Nat × Nat)) (a1 : Option (Nat × Nat)) (h : Heap) (R : Int → Heap → Prop) : Prop :=
  Br (Option.isNone a1) (R (1 : Int) h)
    (NilC a1 fun (b0 b1 : Nat) =>
      ∃ (s2 : Slc),
        cellsAt h b0 (b1 + 0) [Lf.slc s2] ∧
          Call Go.Proofs.Try.prog 27 [VV.lf (Lf.slc s2)] h [VT.one LT.slc] fun (s3 : Slc) (h4 : Heap) =>
            Call Go.Proofs.Try.prog 26 [VV.lf (Lf.ptr a0), VV.lf (Lf.slc s3)] h4 [VT.one (LT.int IntKind.i64)] fun (i5 : Int) (h6 : Heap) =>
              R i5 h6)
theorem eq12 (a0 : Option (Nat × Nat)) (a1 : Option (Nat × Nat)) (h : Heap) (R : Int → Heap → Prop) : vc12 a0 a1 h R = vcFn Go.Proofs.Try.prog pl12 Go.Proofs.Try.f12 [.lf (.ptr a0), .lf (.ptr a1)] h [.one (.int .i64)] R := by kernel_rfl
theorem ok12 {a0 : Option (Nat × Nat)} {a1 : Option (Nat × Nat)} {h : Heap} {R : Int → Heap → Prop} (hv : vc12 a0 a1 h R) : Call Go.Proofs.Try.prog 12 [.lf (.ptr a0), .lf (.ptr a1)] h [.one (.int .i64)] R := call_eq hng hmix Go.Proofs.Try.func12 (eq12 a0 a1 h R) hv
/- 15: (*sediment.batch.Batch).Save (b) -/
def pl15 : Plan := {
  blk := fun _ => none
  seq := fun _ => none
  loop := fun _ => none
  live := fun | 0 => some [] | _ => none
  track := fun | _ => false
  draw := fun | 0 => .still 0 (.still 1 (.still 2 (.still 3 (.still 4 (.still 5 (.still 6 (.still 7 (.still 8 (.still 9 (.mem 10 (.mem 11 (.still 12 (.still 13 (.mem 14 (.done))))))))))))))) | _ => .done
  iter := fun | _ => none }
def vc15 (a0 : Option (Nat × Nat)) (h : Heap) (R : Heap → Prop) : Prop :=
  NilC a0 fun (b0 b1 : Nat) =>
    ∃ (s2 : Slc),
      cellsAt h b0 (b1 + 2) [Lf.slc s2] ∧
        NilC a0 fun (b3 b4 : Nat) =>
          ∃ (s5 : Slc),
            cellsAt h b3 (b4 + 0) [Lf.slc s5] ∧
              New 3 [Lf.int IntKind.i64 (↑(Slc.len s5) : Int)] h fun (b6 : Nat) (h7 : Heap) =>
                cellsAt h7 b0 (b1 + 2) [Lf.slc s2] ∧
                  AppC 3 [Lf.int IntKind.i64 (0 : Int)] 1 8 s2 (Slc.mk (Option.some (b6, 0)) 1 1) h7
                    fun (s8 : Slc) (h9 : Heap) => NilC a0 fun (b10 b11 : Nat) => StC h9 b10 (b11 + 2) [Lf.slc s8] fun (h12 : Heap) => R h12
theorem eq15 (a0 : Option (Nat × Nat)) (h : Heap) (R : Heap → Prop) : vc15 a0 h R = vcFn Go.Proofs.Try.prog pl15 Go.Proofs.Try.f15 [.lf (.ptr a0)] h [] R := by kernel_rfl
theorem ok15 {a0 : Option (Nat × Nat)} {h : Heap} {R : Heap → Prop} (hv : vc15 a0 h R) : Call Go.Proofs.Try.prog 15 [.lf (.ptr a0)] h [] R := call_eq hng hmix Go.Proofs.Try.func15 (eq15 a0 h R) hv
/- 31: (*sediment.batch.Batch).Pop (b) -/
def pl31 : Plan := {
  blk := fun _ => none
  seq := fun _ => none
  loop := fun _ => none
  live := fun | 0 => some [0] | 1 => some [0, 8] | 2 => some [2] | 3 => some [] | 4 => some [2] | _ => none
  track := fun | _ => false
  draw := fun | 3 => .still 0 (.still 1 (.still 2 (.still 3 (.still 4 (.still 5 (.still 6 (.still 7 (.still 8 (.still 9 (.still 10 (.still 11 (.still 12 (.still 13 (.mem 14 (.done))))))))))))))) | _ => .done
  iter := fun | _ => none }
def vc31 (a0 : Option (Nat × Nat)) (h : Heap) (R : Int → Heap → Prop) : Prop :=
  NilC a0 fun (b0 b1 : Nat) =>
    ∃ (s2 : Slc),
      cellsAt h b0 (b1 + 2) [Lf.slc s2] ∧
        Br ((↑(Slc.len s2) : Int) == (0 : Int)) (R (6 : Int) h)
          (NilC a0 fun (b3 b4 : Nat) =>
            ∃ (s5 : Slc),
              cellsAt h b3 (b4 + 2) [Lf.slc s5] ∧
                NilC a0 fun (b6 b7 : Nat) =>
                  ∃ (s8 : Slc),
                    cellsAt h b6 (b7 + 2) [Lf.slc s8] ∧
                      (0 : Int) ≤ IntKind.wrap IntKind.i64 ((↑(Slc.len s8) : Int) - (1 : Int)) ∧
                        IntKind.wrap IntKind.i64 ((↑(Slc.len s8) : Int) - (1 : Int)) ≤ (↑(Slc.cap s5) : Int) ∧
                          NilC a0 fun (b9 b10 : Nat) =>
                            StC h b9 (b10 + 2)
                              [Lf.slc (Slc.sub s5 1 0 (Int.toNat (IntKind.wrap IntKind.i64 ((↑(Slc.len s8) : Int) - (1 : Int)))) (Slc.cap s5))]
                              fun (h11 : Heap) => R (0 : Int) h11)
theorem eq31 (a0 : Option (Nat × Nat)) (h : Heap) (R : Int → Heap → Prop) : vc31 a0 h R = vcFn Go.Proofs.Try.prog pl31 Go.Proofs.Try.f31 [.lf (.ptr a0)] h [.one (.int .i64)] R := by kernel_rfl
theorem ok31 {a0 : Option (Nat × Nat)} {h : Heap} {R : Int → Heap → Prop} (hv : vc31 a0 h R) : Call Go.Proofs.Try.prog 31 [.lf (.ptr a0)] h [.one (.int .i64)] R := call_eq hng hmix Go.Proofs.Try.func31 (eq31 a0 h R) hv
/- 16: (*sediment.batch.Batch).Back (b) · loop 5: #31 -/
def pl16 : Plan := {
  blk := fun _ => none
  seq := fun _ => none
  loop := fun | 5 => some ⟨[(31, .one (.int .i64))], [], []⟩ | _ => none
  live := fun | 0 => some [0] | 1 => some [0, 11] | 2 => some [2] | 3 => some [0, 3] | 4 => some [0, 3, 29, 30, 31] | 5 => some [0, 3, 29, 30, 31, 32] | 6 => some [0, 3, 5, 29, 30, 31] | 7 => some [0, 3, 29, 30, 31] | 8 => some [0, 3, 29, 30, 31] | 9 => some [0] | 10 => some [2] | _ => none
  track := fun | 5 => true | _ => false
  draw := fun | 3 => .still 0 (.still 1 (.still 2 (.still 3 (.still 4 (.still 5 (.still 6 (.still 7 (.still 8 (.still 9 (.still 10 (.still 11 (.still 12 (.done))))))))))))) | 7 => .still 0 (.still 1 (.still 2 (.still 3 (.still 4 (.mem 5 (.still 6 (.still 7 (.still 8 (.still 9 (.mem 10 (.done))))))))))) | _ => .done
  iter := fun | _ => none }
def vc16 (a0 : Option (Nat × Nat)) (h : Heap) (R : Int → Heap → Prop) : Prop :=
  NilC a0 fun (b0 b1 : Nat) =>
    ∃ (s2 : Slc),
      cellsAt h b0 (b1 + 2) [Lf.slc s2] ∧
        Br ((↑(Slc.len s2) : Int) == (0 : Int)) (R (6 : Int) h)
          (NilC a0 fun (b3 b4 : Nat) =>
            ∃ (s5 : Slc),
              cellsAt h b3 (b4 + 2) [Lf.slc s5] ∧
                NilC a0 fun (b6 b7 : Nat) =>
                  ∃ (s8 : Slc),
                    cellsAt h b6 (b7 + 2) [Lf.slc s8] ∧
                      IxC s5 (IntKind.wrap IntKind.i64 ((↑(Slc.len s8) : Int) - (1 : Int))) 1 fun (b9 b10 : Nat) =>
                        ∃ (i11 : Int),
                          cellsAt h b9 b10 [Lf.int IntKind.i64 i11] ∧
                            NilC a0 fun (b12 b13 : Nat) =>
                              ∃ (s14 : Slc),
                                cellsAt h b12 (b13 + 0) [Lf.slc s14] ∧
                                  (0 : Int) ≤ i11 ∧
                                    i11 ≤ (↑(Slc.len s14) : Int) ∧
                                      ∃ (I15 : Int → Heap → Nat → Prop),
                                        (∃ (b16 : Nat), I15 (0 : Int) h b16) ∧
                                          ∀ (i17 : Int) (h18 : Heap) (b19 : Nat),
                                            I15 i17 h18 b19 →
                                              Br (Decidable.decide (i17 < (↑(Slc.len (Slc.sub s14 4 (Int.toNat i11) (Slc.len s14) (Slc.cap s14))) : Int)))
                                                (IxC (Slc.sub s14 4 (Int.toNat i11) (Slc.len s14) (Slc.cap s14)) i17 4 fun (b20 b21 : Nat) =>
                                                  ∃ (i22 : Int),
                                                    ∃ (i23 : Int),
                                                      ∃ (t24 : ByteArray),
                                                        ∃ (t25 : ByteArray),
                                                          cellsAt h18 b20 b21 [Lf.int IntKind.u32 i22, Lf.int IntKind.i64 i23, Lf.str t24, Lf.str t25] ∧
                                                            New 31
                                                              [Lf.int IntKind.u32 (0 : Int), Lf.int IntKind.i64 (0 : Int), Lf.str (ByteArray.mk #[]), Lf.str (ByteArray.mk #[])]
                                                              h18 fun (b26 : Nat) (h27 : Heap) =>
                                                              Set b26 31 [Lf.int IntKind.u32 i22, Lf.int IntKind.i64 i23, Lf.str t24, Lf.str t25] h27
                                                                fun (h28 : Heap) =>
                                                                NilC a0 fun (b29 b30 : Nat) =>
                                                                  ∃ (i31 : Int),
                                                                    cellsAt h28 b29 (b30 + 1) [Lf.int IntKind.i64 i31] ∧
                                                                      Call Go.Proofs.Try.prog 30
                                                                        [VV.agg [Lf.int IntKind.u32 i22, Lf.int IntKind.i64 i23, Lf.str t24, Lf.str t25]] h28
                                                                        [VT.one LT.slc] fun (s32 : Slc) (h33 : Heap) =>
                                                                        keepB h28 h33 [b26] ∧
                                                                          cellsAt h33 b29 (b30 + 1) [Lf.int IntKind.i64 i31] ∧
                                                                            NilC a0 fun (b34 b35 : Nat) =>
                                                                              StC h33 b34 (b35 + 1)
                                                                                [Lf.int IntKind.i64 (IntKind.wrap IntKind.i64 (i31 - (↑(Slc.len s32) : Int)))]
                                                                                fun (h36 : Heap) =>
                                                                                keepB h33 h36 [b26] ∧ ∃ (b37 : Nat), b37 < b19 ∧ I15 (IntKind.wrap IntKind.i64 (i17 + (1 : Int))) h36 b37)
                                                (NilC a0 fun (b38 b39 : Nat) =>
                                                  ∃ (s40 : Slc),
                                                    cellsAt h18 b38 (b39 + 0) [Lf.slc s40] ∧
                                                      (0 : Int) ≤ i11 ∧
                                                        i11 ≤ (↑(Slc.cap s40) : Int) ∧
                                                          NilC a0 fun (b41 b42 : Nat) =>
                                                            StC h18 b41 (b42 + 0) [Lf.slc (Slc.sub s40 4 0 (Int.toNat i11) (Slc.cap s40))]
                                                              fun (h43 : Heap) =>
                                                              Call Go.Proofs.Try.prog 31 [VV.lf (Lf.ptr a0)] h43 [VT.one (LT.int IntKind.i64)]
                                                                fun (i44 : Int) (h45 : Heap) => R i44 h45))
theorem eq16 (a0 : Option (Nat × Nat)) (h : Heap) (R : Int → Heap → Prop) : vc16 a0 h R = vcFn Go.Proofs.Try.prog pl16 Go.Proofs.Try.f16 [.lf (.ptr a0)] h [.one (.int .i64)] R := by kernel_rfl
theorem ok16 {a0 : Option (Nat × Nat)} {h : Heap} {R : Int → Heap → Prop} (hv : vc16 a0 h R) : Call Go.Proofs.Try.prog 16 [.lf (.ptr a0)] h [.one (.int .i64)] R := call_eq hng hmix Go.Proofs.Try.func16 (eq16 a0 h R) hv
/- 17: sediment.batch.Encode (seq, l) · blk 2: b · loop 7: b, #29 -/
def pl17 : Plan := {
  blk := fun | 2 => some ⟨[(6, .one .slc)], [], []⟩ | _ => none
  seq := fun _ => none
  loop := fun | 7 => some ⟨[(6, .one .slc), (29, .one (.int .i64))], [], []⟩ | _ => none
  live := fun | 0 => some [0, 1] | 1 => some [0, 1, 10] | 2 => some [4, 5] | 3 => some [0, 1, 16] | 4 => some [4, 5] | 5 => some [1, 6] | 6 => some [6, 27, 28, 29] | 7 => some [6, 27, 28, 29, 30] | 8 => some [6, 8, 27, 28, 29] | 9 => some [6, 8, 9, 27, 28, 29] | 10 => some [6, 8, 9, 27, 28, 29, 36] | 11 => some [4, 5] | 12 => some [6, 8, 27, 28, 29, 40] | 13 => some [6, 27, 28, 29] | 14 => some [6, 27, 28, 29] | 15 => some [6, 48] | 16 => some [4, 5] | 17 => some [4, 5] | _ => none
  track := fun | 8 => true | _ => false
  draw := fun | _ => .done
  iter := fun | _ => none }
def vc17 (a0 : Int) (a1 : Slc) (h : Heap) (R : Slc → Int → Heap → Prop) : Prop :=
  Call Go.Proofs.Try.prog 32 [VV.lf (Lf.int IntKind.u64 a0), VV.lf (Lf.int IntKind.i64 (↑(Slc.len a1) : Int))] h [VT.one LT.bool]
    fun (c0 : Bool) (h1 : Heap) =>
    Br (!c0) (R (Slc.mk Option.none 0 0) (1 : Int) h1)
      (Br (Decidable.decide ((↑(Slc.len a1) : Int) > (4096 : Int))) (R (Slc.mk Option.none 0 0) (2 : Int) h1)
        (Call Go.Proofs.Try.prog 33 [VV.lf (Lf.int IntKind.u64 a0)] h1 [VT.one LT.slc] fun (s2 : Slc) (h3 : Heap) =>
          Call Go.Proofs.Try.prog 34 [VV.lf (Lf.int IntKind.u32 (IntKind.wrap IntKind.u32 (↑(Slc.len a1) : Int)))] h3 [VT.one LT.slc]
            fun (s4 : Slc) (h5 : Heap) =>
            AppC 5 [Lf.int IntKind.u8 (0 : Int)] 1 1 s2 s4 h5 fun (s6 : Slc) (h7 : Heap) =>
              ∃ (I8 : Slc → Int → Heap → Nat → Prop),
                (∃ (b9 : Nat), I8 s6 (0 : Int) h7 b9) ∧
                  ∀ (s10 : Slc) (i11 : Int) (h12 : Heap) (b13 : Nat),
                    I8 s10 i11 h12 b13 →
                      Br (Decidable.decide (i11 < (↑(Slc.len a1) : Int)))
                        (∃ (I14 : Slc → Heap → Prop),
                          (IxC a1 i11 4 fun (b15 b16 : Nat) =>
                              ∃ (i17 : Int),
                                ∃ (i18 : Int),
                                  ∃ (t19 : ByteArray),
                                    ∃ (t20 : ByteArray),
                                      cellsAt h12 b15 b16 [Lf.int IntKind.u32 i17, Lf.int IntKind.i64 i18, Lf.str t19, Lf.str t20] ∧
                                        New 31 [Lf.int IntKind.u32 (0 : Int), Lf.int IntKind.i64 (0 : Int), Lf.str (ByteArray.mk #[]), Lf.str (ByteArray.mk #[])]
                                          h12 fun (b21 : Nat) (h22 : Heap) =>
                                          Set b21 31 [Lf.int IntKind.u32 i17, Lf.int IntKind.i64 i18, Lf.str t19, Lf.str t20] h22 fun (h23 : Heap) =>
                                            Call Go.Proofs.Try.prog 19 [VV.agg [Lf.int IntKind.u32 i17, Lf.int IntKind.i64 i18, Lf.str t19, Lf.str t20]] h23
                                              [VT.one (LT.int IntKind.i64)] fun (i24 : Int) (h25 : Heap) =>
                                              keepB h23 h25 [b21] ∧
                                                Br (i24 != (0 : Int)) (R (Slc.mk Option.none 0 0) i24 h25)
                                                  (Br (Decidable.decide ((↑(Slc.len s10) : Int) ≤ (4194304 : Int)))
                                                    (Call Go.Proofs.Try.prog 30
                                                      [VV.agg [Lf.int IntKind.u32 i17, Lf.int IntKind.i64 i18, Lf.str t19, Lf.str t20]] h25 [VT.one LT.slc]
                                                      fun (s26 : Slc) (h27 : Heap) =>
                                                      keepB h25 h27 [b21] ∧
                                                        AppC 5 [Lf.int IntKind.u8 (0 : Int)] 1 1 s10 s26 h27 fun (s28 : Slc) (h29 : Heap) =>
                                                          keepB h27 h29 [b21] ∧ I14 s28 h29)
                                                    (I14 s10 h25))) ∧
                            ∀ (s30 : Slc) (h31 : Heap), I14 s30 h31 → ∃ (b32 : Nat), b32 < b13 ∧ I8 s30 (IntKind.wrap IntKind.i64 (i11 + (1 : Int))) h31 b32)
                        (Br (Decidable.decide ((↑(Slc.len s10) : Int) > (4194304 : Int))) (R (Slc.mk Option.none 0 0) (2 : Int) h12) (R s10 (0 : Int) h12))))
theorem eq17 (a0 : Int) (a1 : Slc) (h : Heap) (R : Slc → Int → Heap → Prop) : vc17 a0 a1 h R = vcFn Go.Proofs.Try.prog pl17 Go.Proofs.Try.f17 [.lf (.int .u64 a0), .lf (.slc a1)] h [.one .slc, .one (.int .i64)] R := by kernel_rfl
theorem ok17 {a0 : Int} {a1 : Slc} {h : Heap} {R : Slc → Int → Heap → Prop} (hv : vc17 a0 a1 h R) : Call Go.Proofs.Try.prog 17 [.lf (.int .u64 a0), .lf (.slc a1)] h [.one .slc, .one (.int .i64)] R := call_eq hng hmix Go.Proofs.Try.func17 (eq17 a0 a1 h R) hv
/- 13: sediment.sedimentlaw03.Same (a, b) · loop 4: i -/
def pl13 : Plan := {
  blk := fun _ => none
  seq := fun _ => none
  loop := fun | 4 => some ⟨[(5, .one (.int .i64))], [], []⟩ | _ => none
  live := fun | 0 => some [0, 1] | 1 => some [0, 1, 10] | 2 => some [4] | 3 => some [0, 1, 5] | 4 => some [0, 1, 5, 14] | 5 => some [0, 1, 5] | 6 => some [0, 1, 5, 25] | 7 => some [4] | 8 => some [4] | _ => none
  track := fun | _ => false
  draw := fun | 6 => .still 0 (.still 1 (.still 2 (.still 3 (.still 4 (.still 5 (.still 6 (.still 7 (.still 8 (.done))))))))) | _ => .done
  iter := fun | _ => none }
def vc13 (a0 : Slc) (a1 : Slc) (h : Heap) (R : Bool → Heap → Prop) : Prop :=
  Br ((↑(Slc.len a0) : Int) != (↑(Slc.len a1) : Int)) (R Bool.false h)
    (∃ (I0 : Int → Heap → Nat → Prop),
      (∃ (b1 : Nat), I0 (0 : Int) h b1) ∧
        ∀ (i2 : Int) (h3 : Heap) (b4 : Nat),
          I0 i2 h3 b4 →
            Br (Decidable.decide (i2 < (↑(Slc.len a0) : Int)))
              (IxC a0 i2 4 fun (b5 b6 : Nat) =>
                ∃ (i7 : Int),
                  ∃ (i8 : Int),
                    ∃ (t9 : ByteArray),
                      ∃ (t10 : ByteArray),
                        cellsAt h3 b5 b6 [Lf.int IntKind.u32 i7, Lf.int IntKind.i64 i8, Lf.str t9, Lf.str t10] ∧
                          IxC a1 i2 4 fun (b11 b12 : Nat) =>
                            ∃ (i13 : Int),
                              ∃ (i14 : Int),
                                ∃ (t15 : ByteArray),
                                  ∃ (t16 : ByteArray),
                                    cellsAt h3 b11 b12 [Lf.int IntKind.u32 i13, Lf.int IntKind.i64 i14, Lf.str t15, Lf.str t16] ∧
                                      Br (!(i7 == i13 && (i8 == i14 && (t9 == t15 && (t10 == t16 && Bool.true))))) (R Bool.false h3)
                                        (∃ (b17 : Nat), b17 < b4 ∧ I0 (IntKind.wrap IntKind.i64 (i2 + (1 : Int))) h3 b17))
              (R Bool.true h3))
theorem eq13 (a0 : Slc) (a1 : Slc) (h : Heap) (R : Bool → Heap → Prop) : vc13 a0 a1 h R = vcFn Go.Proofs.Try.prog pl13 Go.Proofs.Try.f13 [.lf (.slc a0), .lf (.slc a1)] h [.one .bool] R := by kernel_rfl
theorem ok13 {a0 : Slc} {a1 : Slc} {h : Heap} {R : Bool → Heap → Prop} (hv : vc13 a0 a1 h R) : Call Go.Proofs.Try.prog 13 [.lf (.slc a0), .lf (.slc a1)] h [.one .bool] R := call_eq hng hmix Go.Proofs.Try.func13 (eq13 a0 a1 h R) hv
/- 14: sediment.sedimentlaw03.lives () -/
def pl14 : Plan := {
  blk := fun _ => none
  seq := fun _ => none
  loop := fun _ => none
  live := fun | 0 => some [] | 1 => some [1] | 2 => some [1, 2] | 3 => some [1, 2, 3, 4] | 4 => some [0] | _ => none
  track := fun | _ => false
  draw := fun | _ => .done
  iter := fun | _ => none }
def vc14  (h : Heap) (R : Bool → Heap → Prop) : Prop :=
  New 26 [Lf.slc (Slc.mk Option.none 0 0), Lf.int IntKind.i64 (0 : Int), Lf.slc (Slc.mk Option.none 0 0)] h
    fun (b0 : Nat) (h1 : Heap) =>
    Call Go.Proofs.Try.prog 29
      [VV.lf (Lf.ptr (Option.some (b0, 0))), VV.lf (Lf.int IntKind.u32 (0 : Int)), VV.lf (Lf.str (ByteArray.mk #[(97 : UInt8)])),
        VV.lf (Lf.str (ByteArray.mk #[(98 : UInt8)]))]
      h1 [VT.one (LT.int IntKind.i64)] fun (i2 : Int) (h3 : Heap) =>
      Call Go.Proofs.Try.prog 9 [VV.lf (Lf.ptr (Option.some (b0, 0)))] h3 [VT.one LT.slc] fun (s4 : Slc) (h5 : Heap) =>
        Call Go.Proofs.Try.prog 17 [VV.lf (Lf.int IntKind.u64 (5 : Int)), VV.lf (Lf.slc s4)] h5 [VT.one LT.slc, VT.one (LT.int IntKind.i64)]
          fun (s6 : Slc) (i7 : Int) (h8 : Heap) =>
          Br (i2 == (0 : Int))
            (Br (i7 == (0 : Int))
              (Call Go.Proofs.Try.prog 10 [VV.lf (Lf.ptr (Option.some (b0, 0)))] h8 [VT.one (LT.int IntKind.i64)] fun (i9 : Int) (h10 : Heap) =>
                Br (i9 == (18 : Int))
                  (∃ (t11 : ByteArray),
                    bytesAt h10 s6 t11 ∧
                      R
                        (strEq t11
                          (ByteArray.mk
                            #[(5 : UInt8), (0 : UInt8), (0 : UInt8), (0 : UInt8), (0 : UInt8), (0 : UInt8), (0 : UInt8), (0 : UInt8), (1 : UInt8), (0 : UInt8), (0 : UInt8), (0 : UInt8), (1 : UInt8),
                              (0 : UInt8), (1 : UInt8), (97 : UInt8), (1 : UInt8), (98 : UInt8)]))
                        h10)
                  (R Bool.false h10))
              (R Bool.false h8))
            (R Bool.false h8)
theorem eq14  (h : Heap) (R : Bool → Heap → Prop) : vc14  h R = vcFn Go.Proofs.Try.prog pl14 Go.Proofs.Try.f14 [] h [.one .bool] R := by kernel_rfl
theorem ok14  {h : Heap} {R : Bool → Heap → Prop} (hv : vc14  h R) : Call Go.Proofs.Try.prog 14 [] h [.one .bool] R := call_eq hng hmix Go.Proofs.Try.func14 (eq14  h R) hv
/- 4: sediment.sedimentlaw03.BatchBack () · loop 3: #6 · loop 9: #9 -/
def pl4 : Plan := {
  blk := fun _ => none
  seq := fun _ => none
  loop := fun | 3 => some ⟨[(6, .one (.int .i64))], [], []⟩ | 9 => some ⟨[(9, .one (.int .i64))], [], []⟩ | _ => none
  live := fun | 0 => some [0, 1] | 1 => some [0, 1, 5] | 2 => some [0, 1, 5, 6] | 3 => some [0, 1, 5, 6, 15] | 4 => some [0, 1, 5, 6] | 5 => some [0, 1, 5, 6] | 6 => some [1, 5, 7, 8] | 7 => some [1, 5, 7, 8] | 8 => some [1, 5, 7, 8, 9] | 9 => some [1, 5, 7, 8, 9, 33] | 10 => some [1, 5, 7, 8, 9] | 11 => some [1, 5, 7, 8, 9] | 12 => some [4] | _ => none
  track := fun | _ => false
  draw := fun | _ => .done
  iter := fun | _ => none }
def vc4 (a0 : Slc) (a1 : Slc) (h : Heap) (R : Bool → Heap → Prop) : Prop :=
  New 26 [Lf.slc (Slc.mk Option.none 0 0), Lf.int IntKind.i64 (0 : Int), Lf.slc (Slc.mk Option.none 0 0)] h
    fun (b0 : Nat) (h1 : Heap) =>
    ∃ (I2 : Int → Heap → Nat → Prop),
      (∃ (b3 : Nat), I2 (0 : Int) h1 b3) ∧
        ∀ (i4 : Int) (h5 : Heap) (b6 : Nat),
          I2 i4 h5 b6 →
            Br (Decidable.decide (i4 < (↑(Slc.len a0) : Int)))
              (IxC a0 i4 4 fun (b7 b8 : Nat) =>
                ∃ (i9 : Int),
                  ∃ (i10 : Int),
                    ∃ (t11 : ByteArray),
                      ∃ (t12 : ByteArray),
                        cellsAt h5 b7 b8 [Lf.int IntKind.u32 i9, Lf.int IntKind.i64 i10, Lf.str t11, Lf.str t12] ∧
                          Call Go.Proofs.Try.prog 8
                            [VV.lf (Lf.ptr (Option.some (b0, 0))), VV.agg [Lf.int IntKind.u32 i9, Lf.int IntKind.i64 i10, Lf.str t11, Lf.str t12]] h5
                            [VT.one (LT.int IntKind.i64)] fun (i13 : Int) (h14 : Heap) => ∃ (b15 : Nat), b15 < b6 ∧ I2 (IntKind.wrap IntKind.i64 (i4 + (1 : Int))) h14 b15)
              (Call Go.Proofs.Try.prog 9 [VV.lf (Lf.ptr (Option.some (b0, 0)))] h5 [VT.one LT.slc] fun (s16 : Slc) (h17 : Heap) =>
                Call Go.Proofs.Try.prog 10 [VV.lf (Lf.ptr (Option.some (b0, 0)))] h17 [VT.one (LT.int IntKind.i64)] fun (i18 : Int) (h19 : Heap) =>
                  Call Go.Proofs.Try.prog 15 [VV.lf (Lf.ptr (Option.some (b0, 0)))] h19 [] fun (h20 : Heap) =>
                    ∃ (I21 : Int → Heap → Nat → Prop),
                      (∃ (b22 : Nat), I21 (0 : Int) h20 b22) ∧
                        ∀ (i23 : Int) (h24 : Heap) (b25 : Nat),
                          I21 i23 h24 b25 →
                            Br (Decidable.decide (i23 < (↑(Slc.len a1) : Int)))
                              (IxC a1 i23 4 fun (b26 b27 : Nat) =>
                                ∃ (i28 : Int),
                                  ∃ (i29 : Int),
                                    ∃ (t30 : ByteArray),
                                      ∃ (t31 : ByteArray),
                                        cellsAt h24 b26 b27 [Lf.int IntKind.u32 i28, Lf.int IntKind.i64 i29, Lf.str t30, Lf.str t31] ∧
                                          Call Go.Proofs.Try.prog 8
                                            [VV.lf (Lf.ptr (Option.some (b0, 0))),
                                              VV.agg [Lf.int IntKind.u32 i28, Lf.int IntKind.i64 i29, Lf.str t30, Lf.str t31]]
                                            h24 [VT.one (LT.int IntKind.i64)] fun (i32 : Int) (h33 : Heap) =>
                                            ∃ (b34 : Nat), b34 < b25 ∧ I21 (IntKind.wrap IntKind.i64 (i23 + (1 : Int))) h33 b34)
                              (Call Go.Proofs.Try.prog 16 [VV.lf (Lf.ptr (Option.some (b0, 0)))] h24 [VT.one (LT.int IntKind.i64)]
                                fun (i35 : Int) (h36 : Heap) =>
                                Br (i35 == (0 : Int))
                                  (Call Go.Proofs.Try.prog 9 [VV.lf (Lf.ptr (Option.some (b0, 0)))] h36 [VT.one LT.slc]
                                    fun (s37 : Slc) (h38 : Heap) =>
                                    Call Go.Proofs.Try.prog 13 [VV.lf (Lf.slc s37), VV.lf (Lf.slc s16)] h38 [VT.one LT.bool]
                                      fun (c39 : Bool) (h40 : Heap) =>
                                      Br c39
                                        (Call Go.Proofs.Try.prog 10 [VV.lf (Lf.ptr (Option.some (b0, 0)))] h40 [VT.one (LT.int IntKind.i64)]
                                          fun (i41 : Int) (h42 : Heap) =>
                                          Br (i41 == i18)
                                            (Call Go.Proofs.Try.prog 16 [VV.lf (Lf.ptr (Option.some (b0, 0)))] h42 [VT.one (LT.int IntKind.i64)]
                                              fun (i43 : Int) (h44 : Heap) =>
                                              Br (i43 == (6 : Int)) (Call Go.Proofs.Try.prog 14 [] h44 [VT.one LT.bool] fun (c45 : Bool) (h46 : Heap) => R c45 h46)
                                                (R Bool.false h44))
                                            (R Bool.false h42))
                                        (R Bool.false h40))
                                  (R Bool.false h36)))
theorem eq4 (a0 : Slc) (a1 : Slc) (h : Heap) (R : Bool → Heap → Prop) : vc4 a0 a1 h R = vcFn Go.Proofs.Try.prog pl4 Go.Proofs.Try.f4 [.lf (.slc a0), .lf (.slc a1)] h [.one .bool] R := by kernel_rfl
theorem ok4 {a0 : Slc} {a1 : Slc} {h : Heap} {R : Bool → Heap → Prop} (hv : vc4 a0 a1 h R) : Call Go.Proofs.Try.prog 4 [.lf (.slc a0), .lf (.slc a1)] h [.one .bool] R := call_eq hng hmix Go.Proofs.Try.func4 (eq4 a0 a1 h R) hv
/- 3: sediment.sedimentlaw03.BatchParts () · seq 12: #58 · loop 3: #8 · loop 8: #9 -/
def pl3 : Plan := {
  blk := fun _ => none
  seq := fun | 12 => some ⟨[(58, .one .bool)], [], []⟩ | _ => none
  loop := fun | 3 => some ⟨[(8, .one (.int .i64))], [], []⟩ | 8 => some ⟨[(9, .one (.int .i64))], [], []⟩ | _ => none
  live := fun | 0 => some [0, 1] | 1 => some [0, 1, 5, 6, 7] | 2 => some [0, 1, 5, 6, 7, 8] | 3 => some [0, 1, 5, 6, 7, 8, 20] | 4 => some [0, 1, 5, 6, 7, 8] | 5 => some [0, 1, 5, 6, 7, 8, 35] | 6 => some [4] | 7 => some [1, 5, 6, 7, 9] | 8 => some [1, 5, 6, 7, 9, 39] | 9 => some [1, 5, 6, 7, 9] | 10 => some [1, 5, 6, 7, 9, 10] | 11 => some [1, 5, 6, 7, 9, 58] | 12 => some [4] | 13 => some [4] | _ => none
  track := fun | _ => false
  draw := fun | 5 => .still 0 (.still 1 (.still 2 (.still 3 (.still 4 (.still 6 (.still 7 (.still 8 (.still 9 (.still 10 (.mem 5 (.mem 11 (.still 12 (.done))))))))))))) | 12 => .still 0 (.mem 1 (.still 2 (.still 3 (.still 4 (.still 5 (.still 6 (.still 8 (.still 9 (.still 10 (.still 11 (.mem 7 (.mem 12 (.still 13 (.still 14 (.still 15 (.still 16 (.done))))))))))))))))) | _ => .done
  iter := fun | _ => none }
def vc3 (a0 : Slc) (a1 : Slc) (h : Heap) (R : Bool → Heap → Prop) : Prop :=
  New 26 [Lf.slc (Slc.mk Option.none 0 0), Lf.int IntKind.i64 (0 : Int), Lf.slc (Slc.mk Option.none 0 0)] h
    fun (b0 : Nat) (h1 : Heap) =>
    New 26 [Lf.slc (Slc.mk Option.none 0 0), Lf.int IntKind.i64 (0 : Int), Lf.slc (Slc.mk Option.none 0 0)] h1
      fun (b2 : Nat) (h3 : Heap) =>
      New 26 [Lf.slc (Slc.mk Option.none 0 0), Lf.int IntKind.i64 (0 : Int), Lf.slc (Slc.mk Option.none 0 0)] h3
        fun (b4 : Nat) (h5 : Heap) =>
        ∃ (I6 : Int → Heap → Nat → Prop),
          (∃ (b7 : Nat), I6 (0 : Int) h5 b7) ∧
            ∀ (i8 : Int) (h9 : Heap) (b10 : Nat),
              I6 i8 h9 b10 →
                Br (Decidable.decide (i8 < (↑(Slc.len a0) : Int)))
                  (IxC a0 i8 4 fun (b11 b12 : Nat) =>
                    ∃ (i13 : Int),
                      ∃ (i14 : Int),
                        ∃ (t15 : ByteArray),
                          ∃ (t16 : ByteArray),
                            cellsAt h9 b11 b12 [Lf.int IntKind.u32 i13, Lf.int IntKind.i64 i14, Lf.str t15, Lf.str t16] ∧
                              IxC a0 i8 4 fun (b17 b18 : Nat) =>
                                ∃ (i19 : Int),
                                  ∃ (i20 : Int),
                                    ∃ (t21 : ByteArray),
                                      ∃ (t22 : ByteArray),
                                        cellsAt h9 b17 b18 [Lf.int IntKind.u32 i19, Lf.int IntKind.i64 i20, Lf.str t21, Lf.str t22] ∧
                                          Call Go.Proofs.Try.prog 8
                                            [VV.lf (Lf.ptr (Option.some (b0, 0))),
                                              VV.agg [Lf.int IntKind.u32 i13, Lf.int IntKind.i64 i14, Lf.str t15, Lf.str t16]]
                                            h9 [VT.one (LT.int IntKind.i64)] fun (i23 : Int) (h24 : Heap) =>
                                            cellsAt h24 b17 b18 [Lf.int IntKind.u32 i19, Lf.int IntKind.i64 i20, Lf.str t21, Lf.str t22] ∧
                                              Call Go.Proofs.Try.prog 8
                                                [VV.lf (Lf.ptr (Option.some (b4, 0))),
                                                  VV.agg [Lf.int IntKind.u32 i19, Lf.int IntKind.i64 i20, Lf.str t21, Lf.str t22]]
                                                h24 [VT.one (LT.int IntKind.i64)] fun (i25 : Int) (h26 : Heap) =>
                                                Br (i23 != i25) (R Bool.false h26) (∃ (b27 : Nat), b27 < b10 ∧ I6 (IntKind.wrap IntKind.i64 (i8 + (1 : Int))) h26 b27))
                  (∃ (I28 : Int → Heap → Nat → Prop),
                    (∃ (b29 : Nat), I28 (0 : Int) h9 b29) ∧
                      ∀ (i30 : Int) (h31 : Heap) (b32 : Nat),
                        I28 i30 h31 b32 →
                          Br (Decidable.decide (i30 < (↑(Slc.len a1) : Int)))
                            (IxC a1 i30 4 fun (b33 b34 : Nat) =>
                              ∃ (i35 : Int),
                                ∃ (i36 : Int),
                                  ∃ (t37 : ByteArray),
                                    ∃ (t38 : ByteArray),
                                      cellsAt h31 b33 b34 [Lf.int IntKind.u32 i35, Lf.int IntKind.i64 i36, Lf.str t37, Lf.str t38] ∧
                                        Call Go.Proofs.Try.prog 8
                                          [VV.lf (Lf.ptr (Option.some (b2, 0))),
                                            VV.agg [Lf.int IntKind.u32 i35, Lf.int IntKind.i64 i36, Lf.str t37, Lf.str t38]]
                                          h31 [VT.one (LT.int IntKind.i64)] fun (i39 : Int) (h40 : Heap) =>
                                          ∃ (I41 : Bool → Heap → Prop),
                                            Br (i39 == (0 : Int))
                                                (IxC a1 i30 4 fun (b42 b43 : Nat) =>
                                                  ∃ (i44 : Int),
                                                    ∃ (i45 : Int),
                                                      ∃ (t46 : ByteArray),
                                                        ∃ (t47 : ByteArray),
                                                          cellsAt h40 b42 b43 [Lf.int IntKind.u32 i44, Lf.int IntKind.i64 i45, Lf.str t46, Lf.str t47] ∧
                                                            Call Go.Proofs.Try.prog 8
                                                              [VV.lf (Lf.ptr (Option.some (b4, 0))),
                                                                VV.agg [Lf.int IntKind.u32 i44, Lf.int IntKind.i64 i45, Lf.str t46, Lf.str t47]]
                                                              h40 [VT.one (LT.int IntKind.i64)] fun (i48 : Int) (h49 : Heap) => I41 (i48 != (0 : Int)) h49)
                                                (I41 Bool.false h40) ∧
                                              ∀ (c50 : Bool) (h51 : Heap),
                                                I41 c50 h51 →
                                                  Br c50
                                                    (Call Go.Proofs.Try.prog 9 [VV.lf (Lf.ptr (Option.some (b4, 0)))] h51 [VT.one LT.slc]
                                                      fun (s52 : Slc) (h53 : Heap) =>
                                                      Br (Decidable.decide (IntKind.wrap IntKind.i64 ((↑(Slc.len s52) : Int) + (1 : Int)) > (4096 : Int))) (R Bool.true h53)
                                                        (IxC a1 i30 4 fun (b54 b55 : Nat) =>
                                                          ∃ (i56 : Int),
                                                            ∃ (i57 : Int),
                                                              ∃ (t58 : ByteArray),
                                                                ∃ (t59 : ByteArray),
                                                                  cellsAt h53 b54 b55 [Lf.int IntKind.u32 i56, Lf.int IntKind.i64 i57, Lf.str t58, Lf.str t59] ∧
                                                                    Call Go.Proofs.Try.prog 10 [VV.lf (Lf.ptr (Option.some (b4, 0)))] h53
                                                                      [VT.one (LT.int IntKind.i64)] fun (i60 : Int) (h61 : Heap) =>
                                                                      cellsAt h61 b54 b55 [Lf.int IntKind.u32 i56, Lf.int IntKind.i64 i57, Lf.str t58, Lf.str t59] ∧
                                                                        Call Go.Proofs.Try.prog 11
                                                                          [VV.agg [Lf.int IntKind.u32 i56, Lf.int IntKind.i64 i57, Lf.str t58, Lf.str t59]] h61
                                                                          [VT.one (LT.int IntKind.i64)] fun (i62 : Int) (h63 : Heap) =>
                                                                          R (Decidable.decide (IntKind.wrap IntKind.i64 (i60 + i62) > (4194304 : Int))) h63))
                                                    (∃ (b64 : Nat), b64 < b32 ∧ I28 (IntKind.wrap IntKind.i64 (i30 + (1 : Int))) h51 b64))
                            (Call Go.Proofs.Try.prog 12 [VV.lf (Lf.ptr (Option.some (b0, 0))), VV.lf (Lf.ptr (Option.some (b2, 0)))] h31
                              [VT.one (LT.int IntKind.i64)] fun (i65 : Int) (h66 : Heap) =>
                              Br (i65 == (0 : Int))
                                (Call Go.Proofs.Try.prog 9 [VV.lf (Lf.ptr (Option.some (b0, 0)))] h66 [VT.one LT.slc]
                                  fun (s67 : Slc) (h68 : Heap) =>
                                  Call Go.Proofs.Try.prog 9 [VV.lf (Lf.ptr (Option.some (b4, 0)))] h68 [VT.one LT.slc]
                                    fun (s69 : Slc) (h70 : Heap) =>
                                    Call Go.Proofs.Try.prog 13 [VV.lf (Lf.slc s67), VV.lf (Lf.slc s69)] h70 [VT.one LT.bool]
                                      fun (c71 : Bool) (h72 : Heap) =>
                                      Br c71
                                        (Call Go.Proofs.Try.prog 10 [VV.lf (Lf.ptr (Option.some (b0, 0)))] h72 [VT.one (LT.int IntKind.i64)]
                                          fun (i73 : Int) (h74 : Heap) =>
                                          Call Go.Proofs.Try.prog 10 [VV.lf (Lf.ptr (Option.some (b4, 0)))] h74 [VT.one (LT.int IntKind.i64)]
                                            fun (i75 : Int) (h76 : Heap) =>
                                            Br (i73 == i75) (Call Go.Proofs.Try.prog 14 [] h76 [VT.one LT.bool] fun (c77 : Bool) (h78 : Heap) => R c77 h78)
                                              (R Bool.false h76))
                                        (R Bool.false h72))
                                (R Bool.false h66)))
theorem eq3 (a0 : Slc) (a1 : Slc) (h : Heap) (R : Bool → Heap → Prop) : vc3 a0 a1 h R = vcFn Go.Proofs.Try.prog pl3 Go.Proofs.Try.f3 [.lf (.slc a0), .lf (.slc a1)] h [.one .bool] R := by kernel_rfl
theorem ok3 {a0 : Slc} {a1 : Slc} {h : Heap} {R : Bool → Heap → Prop} (hv : vc3 a0 a1 h R) : Call Go.Proofs.Try.prog 3 [.lf (.slc a0), .lf (.slc a1)] h [.one .bool] R := call_eq hng hmix Go.Proofs.Try.func3 (eq3 a0 a1 h R) hv
end Go.V.Ytclffphegfhocaa
