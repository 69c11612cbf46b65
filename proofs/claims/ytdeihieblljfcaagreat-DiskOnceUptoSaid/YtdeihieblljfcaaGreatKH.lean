/- This text proves a part of the laws of seat YtdeihieblljfcaaGreat, under no condition: F1f. -/
import Derived.Test.YtdeihieblljfcaaGreatKC
import Derived.Eval
import Derived.Test.YtdeihieblljfcaaGreatChecked
import Derived.Test.YtdeihieblljfcaaGreatKE
set_option linter.unusedVariables false
set_option maxRecDepth 100000
namespace Go.V.YtdeihieblljfcaaGreat
open Go Go.V
/- 127: sediment.sedimentref02.Name (s) · seq 2: #11 · loop 4: i -/
def pl127 : Plan := {
  blk := fun _ => none
  seq := fun | 2 => some ⟨[(11, .one .bool)], [], []⟩ | _ => none
  loop := fun | 4 => some ⟨[(3, .one (.int .i64))], [], []⟩ | _ => none
  live := fun | 0 => some [0] | 1 => some [0, 11] | 2 => some [2] | 3 => some [0, 3] | 4 => some [0, 3, 15] | 5 => some [0, 3] | 6 => some [0, 3, 33] | 7 => some [2] | 8 => some [2] | _ => none
  track := fun | _ => false
  draw := fun | _ => .done
  iter := fun | _ => none }
def vc127 (a0 : ByteArray) (h : Heap) (R : Bool → Heap → Prop) : Prop :=
 ∃ (I0 : Bool → Heap → Prop),
 Br (Decidable.decide ((↑(ByteArray.size a0) : Int) < (1 : Int))) (I0 Bool.true h) (I0 (Decidable.decide ((↑(ByteArray.size a0) : Int) > (32 : Int))) h) ∧
 ∀ (c1 : Bool) (h2 : Heap),
 I0 c1 h2 →
 Br c1 (R Bool.false h2)
 (∃ (I3 : Int → Heap → Nat → Prop),
 (∃ (b4 : Nat), I3 (0 : Int) h2 b4) ∧
 ∀ (i5 : Int) (h6 : Heap) (b7 : Nat),
 I3 i5 h6 b7 →
 Br (Decidable.decide (i5 < (↑(ByteArray.size a0) : Int)))
 ((0 : Int) ≤ i5 ∧
 i5 < (↑(ByteArray.size a0) : Int) ∧
 Br (Decidable.decide (bt a0 i5 < (33 : Int))) (R Bool.false h6)
 ((0 : Int) ≤ i5 ∧
 i5 < (↑(ByteArray.size a0) : Int) ∧
 Br (Decidable.decide (bt a0 i5 > (126 : Int))) (R Bool.false h6)
 ((0 : Int) ≤ i5 ∧
 i5 < (↑(ByteArray.size a0) : Int) ∧
 Br (bt a0 i5 == (47 : Int)) (R Bool.false h6) (∃ (b8 : Nat), b8 < b7 ∧ I3 (IntKind.wrap IntKind.i64 (i5 + (1 : Int))) h6 b8))))
 (R Bool.true h6))
theorem eq127 (a0 : ByteArray) (h : Heap) (R : Bool → Heap → Prop) : vc127 a0 h R = vcFn Go.Proofs.Tryz.prog pl127 Go.Proofs.Tryz.f127 [.lf (.str a0)] h [.one .bool] R := by kernel_rfl
theorem ok127 {a0 : ByteArray} {h : Heap} {R : Bool → Heap → Prop} (hv : vc127 a0 h R) : Call Go.Proofs.Tryz.prog 127 [.lf (.str a0)] h [.one .bool] R := call_eq hng hmix Go.Proofs.Tryz.func127 (eq127 a0 h R) hv
/- 197: sediment.sedimentref02.Split (path) · loop 2: i -/
def pl197 : Plan := {
  blk := fun _ => none
  seq := fun _ => none
  loop := fun | 2 => some ⟨[(5, .one (.int .i64))], [], []⟩ | _ => none
  live := fun | 0 => some [0] | 1 => some [0, 5] | 2 => some [0, 5, 9] | 3 => some [0, 5] | 4 => some [0, 5, 15] | 5 => some [2, 3, 4] | 6 => some [2, 3, 4] | _ => none
  track := fun | _ => false
  draw := fun | 5 => .still 0 (.still 1 (.still 2 (.still 3 (.still 4 (.still 5 (.still 6 (.still 7 (.still 8 (.still 9 (.mem 10 (.still 11 (.still 12 (.still 13 (.still 14 (.still 15 (.mem 16 (.still 17 (.still 18 (.still 19 (.still 20 (.done))))))))))))))))))))) | _ => .done
  iter := fun | _ => none }
def vc197 (a0 : ByteArray) (h : Heap) (R : ByteArray → ByteArray → Bool → Heap → Prop) : Prop :=
 ∃ (I0 : Int → Heap → Nat → Prop),
 (∃ (b1 : Nat), I0 (0 : Int) h b1) ∧
 ∀ (i2 : Int) (h3 : Heap) (b4 : Nat),
 I0 i2 h3 b4 →
 Br (Decidable.decide (i2 < (↑(ByteArray.size a0) : Int)))
 ((0 : Int) ≤ i2 ∧
 i2 < (↑(ByteArray.size a0) : Int) ∧
 Br (bt a0 i2 == (47 : Int))
 ((0 : Int) ≤ i2 ∧
 i2 ≤ (↑(ByteArray.size a0) : Int) ∧
 (0 : Int) ≤ IntKind.wrap IntKind.i64 (i2 + (1 : Int)) ∧
 IntKind.wrap IntKind.i64 (i2 + (1 : Int)) ≤ (↑(ByteArray.size a0) : Int) ∧
 (0 : Int) ≤ i2 ∧
 i2 ≤ (↑(ByteArray.size a0) : Int) ∧
 Call Go.Proofs.Tryz.prog 127 [VV.lf (Lf.str (ByteArray.extract a0 0 (Int.toNat i2)))] h3 [VT.one LT.bool]
 fun (c5 : Bool) (h6 : Heap) =>
 Br c5
 ((0 : Int) ≤ IntKind.wrap IntKind.i64 (i2 + (1 : Int)) ∧
 IntKind.wrap IntKind.i64 (i2 + (1 : Int)) ≤ (↑(ByteArray.size a0) : Int) ∧
 Call Go.Proofs.Tryz.prog 127
 [VV.lf (Lf.str (ByteArray.extract a0 (Int.toNat (IntKind.wrap IntKind.i64 (i2 + (1 : Int)))) (ByteArray.size a0)))] h6 [VT.one LT.bool]
 fun (c7 : Bool) (h8 : Heap) =>
 R (ByteArray.extract a0 0 (Int.toNat i2)) (ByteArray.extract a0 (Int.toNat (IntKind.wrap IntKind.i64 (i2 + (1 : Int)))) (ByteArray.size a0)) c7 h8)
 (R (ByteArray.extract a0 0 (Int.toNat i2)) (ByteArray.extract a0 (Int.toNat (IntKind.wrap IntKind.i64 (i2 + (1 : Int)))) (ByteArray.size a0)) Bool.false
 h6))
 (∃ (b9 : Nat), b9 < b4 ∧ I0 (IntKind.wrap IntKind.i64 (i2 + (1 : Int))) h3 b9))
 (R (ByteArray.mk #[]) (ByteArray.mk #[]) Bool.false h3)
theorem eq197 (a0 : ByteArray) (h : Heap) (R : ByteArray → ByteArray → Bool → Heap → Prop) : vc197 a0 h R = vcFn Go.Proofs.Tryz.prog pl197 Go.Proofs.Tryz.f197 [.lf (.str a0)] h [.one .str, .one .str, .one .bool] R := by kernel_rfl
theorem ok197 {a0 : ByteArray} {h : Heap} {R : ByteArray → ByteArray → Bool → Heap → Prop} (hv : vc197 a0 h R) : Call Go.Proofs.Tryz.prog 197 [.lf (.str a0)] h [.one .str, .one .str, .one .bool] R := call_eq hng hmix Go.Proofs.Tryz.func197 (eq197 a0 h R) hv
/- 63: sediment.sedimentref02.New (quota) -/
def pl63 : Plan := {
  blk := fun _ => none
  seq := fun _ => none
  loop := fun _ => none
  live := fun | 0 => some [0] | 1 => some [0, 9] | 2 => some [2, 3] | 3 => some [2, 3] | _ => none
  track := fun | _ => false
  draw := fun | _ => .done
  iter := fun | _ => none }
def vc63 (a0 : Int) (h : Heap) (R : Option (Nat × Nat) → Int → Heap → Prop) : Prop :=
 Br (Decidable.decide (a0 < (0 : Int))) (R Option.none (1 : Int) h)
 (Br (Decidable.decide (a0 > (268435456 : Int))) (R Option.none (1 : Int) h)
 (New 144
 [Lf.int IntKind.i64 a0, Lf.slc (Slc.mk Option.none 0 0), Lf.slc (Slc.mk Option.none 0 0), Lf.int IntKind.i64 (0 : Int),
 Lf.int IntKind.i64 (0 : Int), Lf.int IntKind.i64 (0 : Int), Lf.bool Bool.false]
 h fun (b0 : Nat) (h1 : Heap) => R (Option.some (b0, 0)) (0 : Int) h1))
theorem eq63 (a0 : Int) (h : Heap) (R : Option (Nat × Nat) → Int → Heap → Prop) : vc63 a0 h R = vcFn Go.Proofs.Tryz.prog pl63 Go.Proofs.Tryz.f63 [.lf (.int .i64 a0)] h [.one .ptr, .one (.int .i64)] R := by kernel_rfl
theorem ok63 {a0 : Int} {h : Heap} {R : Option (Nat × Nat) → Int → Heap → Prop} (hv : vc63 a0 h R) : Call Go.Proofs.Tryz.prog 63 [.lf (.int .i64 a0)] h [.one .ptr, .one (.int .i64)] R := call_eq hng hmix Go.Proofs.Tryz.func63 (eq63 a0 h R) hv
/- 128: (*sediment.sedimentref02.FS).dir (f, name) · loop 2: i -/
def pl128 : Plan := {
  blk := fun _ => none
  seq := fun _ => none
  loop := fun | 2 => some ⟨[(5, .one (.int .i64))], [], []⟩ | _ => none
  live := fun | 0 => some [0, 1] | 1 => some [0, 1, 5] | 2 => some [0, 1, 5, 12] | 3 => some [0, 1, 5] | 4 => some [0, 1, 5, 24] | 5 => some [4] | 6 => some [4] | _ => none
  track := fun | _ => false
  draw := fun | _ => .done
  iter := fun | _ => none }
def vc128 (a0 : Option (Nat × Nat)) (a1 : ByteArray) (h : Heap) (R : Int → Heap → Prop) : Prop :=
 ∃ (I0 : Int → Heap → Nat → Prop),
 (∃ (b1 : Nat), I0 (0 : Int) h b1) ∧
 ∀ (i2 : Int) (h3 : Heap) (b4 : Nat),
 I0 i2 h3 b4 →
 NilC a0 fun (b5 b6 : Nat) =>
 ∃ (s7 : Slc),
 cellsAt h3 b5 (b6 + 1) [Lf.slc s7] ∧
 Br (Decidable.decide (i2 < (↑(Slc.len s7) : Int)))
 (NilC a0 fun (b8 b9 : Nat) =>
 ∃ (s10 : Slc),
 cellsAt h3 b8 (b9 + 1) [Lf.slc s10] ∧
 IxC s10 i2 2 fun (b11 b12 : Nat) =>
 ∃ (t13 : ByteArray),
 cellsAt h3 b11 (b12 + 0) [Lf.str t13] ∧
 Br (strEq t13 a1) (R i2 h3) (∃ (b14 : Nat), b14 < b4 ∧ I0 (IntKind.wrap IntKind.i64 (i2 + (1 : Int))) h3 b14))
 (R (-1 : Int) h3)
theorem eq128 (a0 : Option (Nat × Nat)) (a1 : ByteArray) (h : Heap) (R : Int → Heap → Prop) : vc128 a0 a1 h R = vcFn Go.Proofs.Tryz.prog pl128 Go.Proofs.Tryz.f128 [.lf (.ptr a0), .lf (.str a1)] h [.one (.int .i64)] R := by kernel_rfl
theorem ok128 {a0 : Option (Nat × Nat)} {a1 : ByteArray} {h : Heap} {R : Int → Heap → Prop} (hv : vc128 a0 a1 h R) : Call Go.Proofs.Tryz.prog 128 [.lf (.ptr a0), .lf (.str a1)] h [.one (.int .i64)] R := call_eq hng hmix Go.Proofs.Tryz.func128 (eq128 a0 a1 h R) hv
/- 130: (*sediment.sedimentref02.FS).now (f, d) -/
def pl130 : Plan := {
  blk := fun _ => none
  seq := fun _ => none
  loop := fun _ => none
  live := fun | 0 => some [0, 1, 4] | 1 => some [4] | _ => none
  track := fun | 4 => true | _ => false
  draw := fun | 1 => .still 0 (.still 1 (.still 2 (.still 3 (.still 4 (.still 5 (.still 6 (.still 7 (.still 8 (.still 9 (.still 10 (.still 11 (.still 12 (.still 13 (.still 14 (.still 15 (.still 16 (.still 17 (.still 18 (.still 19 (.mem 20 (.done))))))))))))))))))))) | _ => .done
  iter := fun | _ => none }
def vc130 (a0 : Option (Nat × Nat)) (a1 : Int) (h : Heap) (R : Slc → Slc → Heap → Prop) : Prop :=
 New 194 [Lf.slc (Slc.mk Option.none 0 0), Lf.slc (Slc.mk Option.none 0 0)] h fun (b0 : Nat) (h1 : Heap) =>
 NilC a0 fun (b2 b3 : Nat) =>
 ∃ (s4 : Slc),
 cellsAt h1 b2 (b3 + 1) [Lf.slc s4] ∧
 IxC s4 a1 2 fun (b5 b6 : Nat) =>
 ∃ (s7 : Slc),
 cellsAt h1 b5 (b6 + 1) [Lf.slc s7] ∧
 NilC a0 fun (b8 b9 : Nat) =>
 ∃ (s10 : Slc),
 cellsAt h1 b8 (b9 + 1) [Lf.slc s10] ∧
 IxC s10 a1 2 fun (b11 b12 : Nat) =>
 ∃ (s13 : Slc),
 cellsAt h1 b11 (b12 + 1) [Lf.slc s13] ∧
 IxC s7 (IntKind.wrap IntKind.i64 ((↑(Slc.len s13) : Int) - (1 : Int))) 2 fun (b14 b15 : Nat) =>
 ∃ (s16 : Slc),
 ∃ (s17 : Slc),
 cellsAt h1 b14 b15 [Lf.slc s16, Lf.slc s17] ∧ Set b0 194 [Lf.slc s16, Lf.slc s17] h1 fun (h18 : Heap) => R s16 s17 h18
theorem eq130 (a0 : Option (Nat × Nat)) (a1 : Int) (h : Heap) (R : Slc → Slc → Heap → Prop) : vc130 a0 a1 h R = vcFn Go.Proofs.Tryz.prog pl130 Go.Proofs.Tryz.f130 [.lf (.ptr a0), .lf (.int .i64 a1)] h [.agg [.slc, .slc]] R := by kernel_rfl
theorem ok130 {a0 : Option (Nat × Nat)} {a1 : Int} {h : Heap} {R : Slc → Slc → Heap → Prop} (hv : vc130 a0 a1 h R) : Call Go.Proofs.Tryz.prog 130 [.lf (.ptr a0), .lf (.int .i64 a1)] h [.agg [.slc, .slc]] R := call_eq hng hmix Go.Proofs.Tryz.func130 (eq130 a0 a1 h R) hv
/- 132: (sediment.sedimentref02.Names).find (n, name) · loop 2: i -/
def pl132 : Plan := {
  blk := fun _ => none
  seq := fun _ => none
  loop := fun | 2 => some ⟨[(5, .one (.int .i64))], [], []⟩ | _ => none
  live := fun | 0 => some [1, 2] | 1 => some [1, 2, 5] | 2 => some [1, 2, 5, 10] | 3 => some [1, 2, 5] | 4 => some [1, 2, 5, 19] | 5 => some [4] | 6 => some [4] | _ => none
  track := fun | 2 => true | _ => false
  draw := fun | _ => .done
  iter := fun | _ => none }
def vc132 (a0 : Slc) (a1 : Slc) (a2 : ByteArray) (h : Heap) (R : Int → Heap → Prop) : Prop :=
 New 194 [Lf.slc a0, Lf.slc a1] h fun (b0 : Nat) (h1 : Heap) =>
 ∃ (I2 : Int → Heap → Nat → Prop),
 (∃ (b3 : Nat), I2 (0 : Int) h1 b3) ∧
 ∀ (i4 : Int) (h5 : Heap) (b6 : Nat),
 I2 i4 h5 b6 →
 Br (Decidable.decide (i4 < (↑(Slc.len a0) : Int)))
 (IxC a0 i4 1 fun (b7 b8 : Nat) =>
 ∃ (t9 : ByteArray),
 cellsAt h5 b7 b8 [Lf.str t9] ∧
 Br (strEq t9 a2) (IxC a1 i4 1 fun (b10 b11 : Nat) => ∃ (i12 : Int), cellsAt h5 b10 b11 [Lf.int IntKind.i64 i12] ∧ R i12 h5)
 (∃ (b13 : Nat), b13 < b6 ∧ I2 (IntKind.wrap IntKind.i64 (i4 + (1 : Int))) h5 b13))
 (R (-1 : Int) h5)
theorem eq132 (a0 : Slc) (a1 : Slc) (a2 : ByteArray) (h : Heap) (R : Int → Heap → Prop) : vc132 a0 a1 a2 h R = vcFn Go.Proofs.Tryz.prog pl132 Go.Proofs.Tryz.f132 [.agg [.slc a0, .slc a1], .lf (.str a2)] h [.one (.int .i64)] R := by kernel_rfl
theorem ok132 {a0 : Slc} {a1 : Slc} {a2 : ByteArray} {h : Heap} {R : Int → Heap → Prop} (hv : vc132 a0 a1 a2 h R) : Call Go.Proofs.Tryz.prog 132 [.agg [.slc a0, .slc a1], .lf (.str a2)] h [.one (.int .i64)] R := call_eq hng hmix Go.Proofs.Tryz.func132 (eq132 a0 a1 a2 h R) hv
/- 134: (sediment.sedimentref02.Names).with () · seq 7: #29 · seq 8:  + variables [2] · seq 9: #8 + variables [2] · loop 4: #8, #9 + variables [2] -/
def pl134 : Plan := {
  blk := fun _ => none
  seq := fun | 7 => some ⟨[(29, .one .bool)], [], []⟩ | 8 => some ⟨[], [(2, [.slc, .slc])], []⟩ | 9 => some ⟨[(8, .one .bool)], [(2, [.slc, .slc])], []⟩ | _ => none
  loop := fun | 4 => some ⟨[(8, .one .bool), (9, .one (.int .i64))], [(2, [.slc, .slc])], []⟩ | _ => none
  live := fun | 0 => some [1, 2, 3, 6] | 1 => some [1, 2, 3, 6, 7] | 2 => some [1, 2, 3, 6, 7, 8] | 3 => some [1, 2, 3, 6, 7, 8, 9] | 4 => some [1, 2, 3, 6, 7, 8, 9, 16] | 5 => some [1, 2, 3, 6, 7, 8, 9] | 6 => some [1, 2, 3, 6, 7, 8, 9, 29] | 7 => some [1, 2, 3, 6, 7, 9] | 8 => some [1, 2, 3, 6, 7, 8, 9] | 9 => some [1, 2, 3, 6, 7, 8, 9, 48] | 10 => some [1, 2, 3, 6, 7, 8, 9] | 11 => some [1, 2, 6, 7, 70] | 12 => some [6, 7] | 13 => some [6] | _ => none
  track := fun | 3 => true | 6 => true | 7 => true | _ => false
  draw := fun | 7 => .still 0 (.still 1 (.still 2 (.still 5 (.still 6 (.still 7 (.alt 3 (.alt 4 (.still 10 (.mem 8 (.mem 9 (.mem 11 (.still 12 (.mem 13 (.done))))))) (.mem 8 (.mem 4 (.still 10 (.mem 9 (.mem 11 (.still 12 (.mem 13 (.done))))))))) (.mem 8 (.mem 3 (.mem 4 (.still 10 (.mem 9 (.mem 11 (.still 12 (.mem 13 (.done))))))))))))))) | 10 => .still 0 (.still 1 (.still 2 (.still 3 (.still 4 (.still 5 (.still 6 (.still 9 (.still 10 (.still 11 (.still 12 (.still 13 (.still 14 (.still 15 (.alt 7 (.alt 8 (.still 18 (.mem 16 (.mem 17 (.mem 19 (.still 20 (.mem 21 (.done))))))) (.mem 16 (.mem 8 (.still 18 (.mem 17 (.mem 19 (.still 20 (.mem 21 (.done))))))))) (.mem 16 (.mem 7 (.mem 8 (.still 18 (.mem 17 (.mem 19 (.still 20 (.mem 21 (.done))))))))))))))))))))))) | 12 => .still 0 (.still 1 (.still 2 (.still 5 (.still 6 (.still 7 (.alt 3 (.alt 4 (.still 10 (.mem 8 (.mem 9 (.mem 11 (.still 12 (.mem 13 (.done))))))) (.mem 8 (.mem 4 (.still 10 (.mem 9 (.mem 11 (.still 12 (.mem 13 (.done))))))))) (.mem 8 (.mem 3 (.mem 4 (.still 10 (.mem 9 (.mem 11 (.still 12 (.mem 13 (.done))))))))))))))) | _ => .done
  iter := fun | _ => none }
def vc134 (a0 : Slc) (a1 : Slc) (a2 : ByteArray) (a3 : Int) (h : Heap) (R : Slc → Slc → Heap → Prop) : Prop :=
 New 194 [Lf.slc a0, Lf.slc a1] h fun (b0 : Nat) (h1 : Heap) =>
 New 194 [Lf.slc (Slc.mk Option.none 0 0), Lf.slc (Slc.mk Option.none 0 0)] h1 fun (b2 : Nat) (h3 : Heap) =>
 New 194 [Lf.slc (Slc.mk Option.none 0 0), Lf.slc (Slc.mk Option.none 0 0)] h3 fun (b4 : Nat) (h5 : Heap) =>
 ∃ (I6 : Bool → Int → Slc → Slc → Heap → Nat → Prop),
 (∃ (b7 : Nat), I6 (Decidable.decide (a3 < (0 : Int))) (0 : Int) (Slc.mk Option.none 0 0) (Slc.mk Option.none 0 0) h5 b7) ∧
 ∀ (c8 : Bool) (i9 : Int) (s10 s11 : Slc) (h12 : Heap) (b13 : Nat),
 I6 c8 i9 s10 s11 h12 b13 →
 Br (Decidable.decide (i9 < (↑(Slc.len a0) : Int)))
 (∃ (I14 : Bool → Slc → Slc → Heap → Prop),
 (∃ (I15 : Bool → Heap → Prop),
 Br (!c8) (IxC a0 i9 1 fun (b16 b17 : Nat) => ∃ (t18 : ByteArray), cellsAt h12 b16 b17 [Lf.str t18] ∧ I15 (!strLt t18 a2) h12)
 (I15 Bool.false h12) ∧
 ∀ (c19 : Bool) (h20 : Heap),
 I15 c19 h20 →
 Br c19
 (∃ (I21 : Slc → Slc → Heap → Prop),
 ((New 9 [Lf.str a2] h20 fun (b22 : Nat) (h23 : Heap) =>
 (AppC 9 [Lf.str (ByteArray.mk #[])] 1 16 s10 (Slc.mk (Option.some (b22, 0)) 1 1) h23
 fun (s24 : Slc) (h25 : Heap) =>
 keepB h23 h25 [b0, b2, b4] ∧
 New 3 [Lf.int IntKind.i64 a3] h25 fun (b26 : Nat) (h27 : Heap) =>
 AppC 3 [Lf.int IntKind.i64 (0 : Int)] 1 8 s11 (Slc.mk (Option.some (b26, 0)) 1 1) h27
 fun (s28 : Slc) (h29 : Heap) =>
 keepB h27 h29 [b0, b2, b4] ∧
 Set b4 194 [Lf.slc s24, Lf.slc s11] h29 fun (h30 : Heap) =>
 Set b4 194 [Lf.slc s24, Lf.slc s28] h30 fun (h31 : Heap) => I21 s24 s28 h31) ∧
 New 3 [Lf.int IntKind.i64 a3] h23 fun (b32 : Nat) (h33 : Heap) =>
 AppC 9 [Lf.str (ByteArray.mk #[])] 1 16 s10 (Slc.mk (Option.some (b22, 0)) 1 1) h33
 fun (s34 : Slc) (h35 : Heap) =>
 keepB h33 h35 [b0, b2, b4] ∧
 AppC 3 [Lf.int IntKind.i64 (0 : Int)] 1 8 s11 (Slc.mk (Option.some (b32, 0)) 1 1) h35
 fun (s36 : Slc) (h37 : Heap) =>
 keepB h35 h37 [b0, b2, b4] ∧
 Set b4 194 [Lf.slc s34, Lf.slc s11] h37 fun (h38 : Heap) =>
 Set b4 194 [Lf.slc s34, Lf.slc s36] h38 fun (h39 : Heap) => I21 s34 s36 h39) ∧
 New 3 [Lf.int IntKind.i64 a3] h20 fun (b40 : Nat) (h41 : Heap) =>
 New 9 [Lf.str a2] h41 fun (b42 : Nat) (h43 : Heap) =>
 AppC 9 [Lf.str (ByteArray.mk #[])] 1 16 s10 (Slc.mk (Option.some (b42, 0)) 1 1) h43
 fun (s44 : Slc) (h45 : Heap) =>
 keepB h43 h45 [b0, b2, b4] ∧
 AppC 3 [Lf.int IntKind.i64 (0 : Int)] 1 8 s11 (Slc.mk (Option.some (b40, 0)) 1 1) h45
 fun (s46 : Slc) (h47 : Heap) =>
 keepB h45 h47 [b0, b2, b4] ∧
 Set b4 194 [Lf.slc s44, Lf.slc s11] h47 fun (h48 : Heap) =>
 Set b4 194 [Lf.slc s44, Lf.slc s46] h48 fun (h49 : Heap) => I21 s44 s46 h49) ∧
 ∀ (s50 s51 : Slc) (h52 : Heap), I21 s50 s51 h52 → I14 Bool.true s50 s51 h52)
 (I14 c8 s10 s11 h20)) ∧
 ∀ (c53 : Bool) (s54 s55 : Slc) (h56 : Heap),
 I14 c53 s54 s55 h56 →
 IxC a0 i9 1 fun (b57 b58 : Nat) =>
 ∃ (t59 : ByteArray),
 cellsAt h56 b57 b58 [Lf.str t59] ∧
 Br (!strEq t59 a2)
 (IxC a0 i9 1 fun (b60 b61 : Nat) =>
 ∃ (t62 : ByteArray),
 cellsAt h56 b60 b61 [Lf.str t62] ∧
 IxC a1 i9 1 fun (b63 b64 : Nat) =>
 ∃ (i65 : Int),
 cellsAt h56 b63 b64 [Lf.int IntKind.i64 i65] ∧
 (New 9 [Lf.str t62] h56 fun (b66 : Nat) (h67 : Heap) =>
 cellsAt h67 b63 b64 [Lf.int IntKind.i64 i65] ∧
 (AppC 9 [Lf.str (ByteArray.mk #[])] 1 16 s54 (Slc.mk (Option.some (b66, 0)) 1 1) h67
 fun (s68 : Slc) (h69 : Heap) =>
 keepB h67 h69 [b0, b2, b4] ∧
 cellsAt h69 b63 b64 [Lf.int IntKind.i64 i65] ∧
 New 3 [Lf.int IntKind.i64 i65] h69 fun (b70 : Nat) (h71 : Heap) =>
 AppC 3 [Lf.int IntKind.i64 (0 : Int)] 1 8 s55
 (Slc.mk (Option.some (b70, 0)) 1 1) h71 fun (s72 : Slc) (h73 : Heap) =>
 keepB h71 h73 [b0, b2, b4] ∧
 Set b4 194 [Lf.slc s68, Lf.slc s55] h73 fun (h74 : Heap) =>
 Set b4 194 [Lf.slc s68, Lf.slc s72] h74 fun (h75 : Heap) =>
 ∃ (b76 : Nat), b76 < b13 ∧ I6 c53 (IntKind.wrap IntKind.i64 (i9 + (1 : Int))) s68 s72 h75 b76) ∧
 New 3 [Lf.int IntKind.i64 i65] h67 fun (b77 : Nat) (h78 : Heap) =>
 AppC 9 [Lf.str (ByteArray.mk #[])] 1 16 s54 (Slc.mk (Option.some (b66, 0)) 1 1) h78
 fun (s79 : Slc) (h80 : Heap) =>
 keepB h78 h80 [b0, b2, b4] ∧
 AppC 3 [Lf.int IntKind.i64 (0 : Int)] 1 8 s55
 (Slc.mk (Option.some (b77, 0)) 1 1) h80 fun (s81 : Slc) (h82 : Heap) =>
 keepB h80 h82 [b0, b2, b4] ∧
 Set b4 194 [Lf.slc s79, Lf.slc s55] h82 fun (h83 : Heap) =>
 Set b4 194 [Lf.slc s79, Lf.slc s81] h83 fun (h84 : Heap) =>
 ∃ (b85 : Nat), b85 < b13 ∧ I6 c53 (IntKind.wrap IntKind.i64 (i9 + (1 : Int))) s79 s81 h84 b85) ∧
 New 3 [Lf.int IntKind.i64 i65] h56 fun (b86 : Nat) (h87 : Heap) =>
 cellsAt h87 b60 b61 [Lf.str t62] ∧
 New 9 [Lf.str t62] h87 fun (b88 : Nat) (h89 : Heap) =>
 AppC 9 [Lf.str (ByteArray.mk #[])] 1 16 s54 (Slc.mk (Option.some (b88, 0)) 1 1) h89
 fun (s90 : Slc) (h91 : Heap) =>
 keepB h89 h91 [b0, b2, b4] ∧
 AppC 3 [Lf.int IntKind.i64 (0 : Int)] 1 8 s55
 (Slc.mk (Option.some (b86, 0)) 1 1) h91 fun (s92 : Slc) (h93 : Heap) =>
 keepB h91 h93 [b0, b2, b4] ∧
 Set b4 194 [Lf.slc s90, Lf.slc s55] h93 fun (h94 : Heap) =>
 Set b4 194 [Lf.slc s90, Lf.slc s92] h94 fun (h95 : Heap) =>
 ∃ (b96 : Nat), b96 < b13 ∧ I6 c53 (IntKind.wrap IntKind.i64 (i9 + (1 : Int))) s90 s92 h95 b96)
 (∃ (b97 : Nat), b97 < b13 ∧ I6 c53 (IntKind.wrap IntKind.i64 (i9 + (1 : Int))) s54 s55 h56 b97))
 (Br (!c8)
 ((New 9 [Lf.str a2] h12 fun (b98 : Nat) (h99 : Heap) =>
 (AppC 9 [Lf.str (ByteArray.mk #[])] 1 16 s10 (Slc.mk (Option.some (b98, 0)) 1 1) h99
 fun (s100 : Slc) (h101 : Heap) =>
 keepB h99 h101 [b2, b4] ∧
 New 3 [Lf.int IntKind.i64 a3] h101 fun (b102 : Nat) (h103 : Heap) =>
 AppC 3 [Lf.int IntKind.i64 (0 : Int)] 1 8 s11 (Slc.mk (Option.some (b102, 0)) 1 1) h103
 fun (s104 : Slc) (h105 : Heap) =>
 keepB h103 h105 [b2, b4] ∧
 Set b4 194 [Lf.slc s100, Lf.slc s11] h105 fun (h106 : Heap) =>
 Set b4 194 [Lf.slc s100, Lf.slc s104] h106 fun (h107 : Heap) =>
 Set b2 194 [Lf.slc s100, Lf.slc s104] h107 fun (h108 : Heap) => R s100 s104 h108) ∧
 New 3 [Lf.int IntKind.i64 a3] h99 fun (b109 : Nat) (h110 : Heap) =>
 AppC 9 [Lf.str (ByteArray.mk #[])] 1 16 s10 (Slc.mk (Option.some (b98, 0)) 1 1) h110
 fun (s111 : Slc) (h112 : Heap) =>
 keepB h110 h112 [b2, b4] ∧
 AppC 3 [Lf.int IntKind.i64 (0 : Int)] 1 8 s11 (Slc.mk (Option.some (b109, 0)) 1 1) h112
 fun (s113 : Slc) (h114 : Heap) =>
 keepB h112 h114 [b2, b4] ∧
 Set b4 194 [Lf.slc s111, Lf.slc s11] h114 fun (h115 : Heap) =>
 Set b4 194 [Lf.slc s111, Lf.slc s113] h115 fun (h116 : Heap) =>
 Set b2 194 [Lf.slc s111, Lf.slc s113] h116 fun (h117 : Heap) => R s111 s113 h117) ∧
 New 3 [Lf.int IntKind.i64 a3] h12 fun (b118 : Nat) (h119 : Heap) =>
 New 9 [Lf.str a2] h119 fun (b120 : Nat) (h121 : Heap) =>
 AppC 9 [Lf.str (ByteArray.mk #[])] 1 16 s10 (Slc.mk (Option.some (b120, 0)) 1 1) h121
 fun (s122 : Slc) (h123 : Heap) =>
 keepB h121 h123 [b2, b4] ∧
 AppC 3 [Lf.int IntKind.i64 (0 : Int)] 1 8 s11 (Slc.mk (Option.some (b118, 0)) 1 1) h123
 fun (s124 : Slc) (h125 : Heap) =>
 keepB h123 h125 [b2, b4] ∧
 Set b4 194 [Lf.slc s122, Lf.slc s11] h125 fun (h126 : Heap) =>
 Set b4 194 [Lf.slc s122, Lf.slc s124] h126 fun (h127 : Heap) =>
 Set b2 194 [Lf.slc s122, Lf.slc s124] h127 fun (h128 : Heap) => R s122 s124 h128)
 (Set b2 194 [Lf.slc s10, Lf.slc s11] h12 fun (h129 : Heap) => R s10 s11 h129))
theorem eq134 (a0 : Slc) (a1 : Slc) (a2 : ByteArray) (a3 : Int) (h : Heap) (R : Slc → Slc → Heap → Prop) : vc134 a0 a1 a2 a3 h R = vcFn Go.Proofs.Tryz.prog pl134 Go.Proofs.Tryz.f134 [.agg [.slc a0, .slc a1], .lf (.str a2), .lf (.int .i64 a3)] h [.agg [.slc, .slc]] R := by kernel_rfl
theorem ok134 {a0 : Slc} {a1 : Slc} {a2 : ByteArray} {a3 : Int} {h : Heap} {R : Slc → Slc → Heap → Prop} (hv : vc134 a0 a1 a2 a3 h R) : Call Go.Proofs.Tryz.prog 134 [.agg [.slc a0, .slc a1], .lf (.str a2), .lf (.int .i64 a3)] h [.agg [.slc, .slc]] R := call_eq hng hmix Go.Proofs.Tryz.func134 (eq134 a0 a1 a2 a3 h R) hv
/- 131: (*sediment.sedimentref02.FS).place (f, path) -/
def pl131 : Plan := {
  blk := fun _ => none
  seq := fun _ => none
  loop := fun _ => none
  live := fun | 0 => some [0, 1] | 1 => some [0, 7, 8, 9] | 2 => some [0, 7, 8, 18] | 3 => some [4, 5, 6] | 4 => some [8, 10] | 5 => some [8, 10, 23] | 6 => some [4, 5, 6] | 7 => some [4, 5, 6] | _ => none
  track := fun | _ => false
  draw := fun | _ => .done
  iter := fun | _ => none }
def vc131 (a0 : Option (Nat × Nat)) (a1 : ByteArray) (h : Heap) (R : Int → ByteArray → Int → Heap → Prop) : Prop :=
 Call Go.Proofs.Tryz.prog 197 [VV.lf (Lf.str a1)] h [VT.one LT.str, VT.one LT.str, VT.one LT.bool]
 fun (t0 t1 : ByteArray) (c2 : Bool) (h3 : Heap) =>
 Br (!c2) (R (0 : Int) (ByteArray.mk #[]) (1 : Int) h3)
 (Call Go.Proofs.Tryz.prog 128 [VV.lf (Lf.ptr a0), VV.lf (Lf.str t0)] h3 [VT.one (LT.int IntKind.i64)] fun (i4 : Int) (h5 : Heap) =>
 Br (Decidable.decide (i4 < (0 : Int))) (R (0 : Int) (ByteArray.mk #[]) (6 : Int) h5) (R i4 t1 (0 : Int) h5))
theorem eq131 (a0 : Option (Nat × Nat)) (a1 : ByteArray) (h : Heap) (R : Int → ByteArray → Int → Heap → Prop) : vc131 a0 a1 h R = vcFn Go.Proofs.Tryz.prog pl131 Go.Proofs.Tryz.f131 [.lf (.ptr a0), .lf (.str a1)] h [.one (.int .i64), .one .str, .one (.int .i64)] R := by kernel_rfl
theorem ok131 {a0 : Option (Nat × Nat)} {a1 : ByteArray} {h : Heap} {R : Int → ByteArray → Int → Heap → Prop} (hv : vc131 a0 a1 h R) : Call Go.Proofs.Tryz.prog 131 [.lf (.ptr a0), .lf (.str a1)] h [.one (.int .i64), .one .str, .one (.int .i64)] R := call_eq hng hmix Go.Proofs.Tryz.func131 (eq131 a0 a1 h R) hv
/- 138: (*sediment.sedimentref02.FS).file (f, path) -/
def pl138 : Plan := {
  blk := fun _ => none
  seq := fun _ => none
  loop := fun _ => none
  live := fun | 0 => some [0, 1] | 1 => some [0, 6, 7, 8] | 2 => some [0, 6, 7, 8, 18] | 3 => some [4, 5] | 4 => some [9] | 5 => some [9, 26] | 6 => some [4, 5] | 7 => some [4, 5] | _ => none
  track := fun | _ => false
  draw := fun | _ => .done
  iter := fun | _ => none }
def vc138 (a0 : Option (Nat × Nat)) (a1 : ByteArray) (h : Heap) (R : Int → Int → Heap → Prop) : Prop :=
 Call Go.Proofs.Tryz.prog 131 [VV.lf (Lf.ptr a0), VV.lf (Lf.str a1)] h
 [VT.one (LT.int IntKind.i64), VT.one LT.str, VT.one (LT.int IntKind.i64)] fun (i0 : Int) (t1 : ByteArray) (i2 : Int) (h3 : Heap) =>
 Br (i2 != (0 : Int)) (R (0 : Int) i2 h3)
 (Call Go.Proofs.Tryz.prog 130 [VV.lf (Lf.ptr a0), VV.lf (Lf.int IntKind.i64 i0)] h3 [VT.agg [LT.slc, LT.slc]]
 fun (s4 s5 : Slc) (h6 : Heap) =>
 Call Go.Proofs.Tryz.prog 132 [VV.agg [Lf.slc s4, Lf.slc s5], VV.lf (Lf.str t1)] h6 [VT.one (LT.int IntKind.i64)]
 fun (i7 : Int) (h8 : Heap) => Br (Decidable.decide (i7 < (0 : Int))) (R (0 : Int) (6 : Int) h8) (R i7 (0 : Int) h8))
theorem eq138 (a0 : Option (Nat × Nat)) (a1 : ByteArray) (h : Heap) (R : Int → Int → Heap → Prop) : vc138 a0 a1 h R = vcFn Go.Proofs.Tryz.prog pl138 Go.Proofs.Tryz.f138 [.lf (.ptr a0), .lf (.str a1)] h [.one (.int .i64), .one (.int .i64)] R := by kernel_rfl
theorem ok138 {a0 : Option (Nat × Nat)} {a1 : ByteArray} {h : Heap} {R : Int → Int → Heap → Prop} (hv : vc138 a0 a1 h R) : Call Go.Proofs.Tryz.prog 138 [.lf (.ptr a0), .lf (.str a1)] h [.one (.int .i64), .one (.int .i64)] R := call_eq hng hmix Go.Proofs.Tryz.func138 (eq138 a0 a1 h R) hv
/- 198: sediment.sedimentref02.made (b, w) · loop 3: out, i -/
def pl198 : Plan := {
  blk := fun _ => none
  seq := fun _ => none
  loop := fun | 3 => some ⟨[(5, .one .slc), (6, .one (.int .i64))], [], []⟩ | _ => none
  live := fun | 0 => some [0, 3] | 1 => some [3, 5] | 2 => some [3, 5, 6] | 3 => some [3, 5, 6, 14] | 4 => some [3, 5, 6] | 5 => some [3, 5, 6, 23] | 6 => some [3, 5, 6] | 7 => some [3, 5, 6] | 8 => some [4] | _ => none
  track := fun | 3 => true | _ => false
  draw := fun | 6 => .still 0 (.still 1 (.still 2 (.still 3 (.still 4 (.still 5 (.still 6 (.still 7 (.still 8 (.still 9 (.still 10 (.mem 11 (.done)))))))))))) | _ => .done
  iter := fun | _ => none }
def vc198 (a0 : Slc) (a1 : Int) (a2 : Slc) (h : Heap) (R : Slc → Heap → Prop) : Prop :=
 New 241 [Lf.int IntKind.i64 a1, Lf.slc a2] h fun (b0 : Nat) (h1 : Heap) =>
 New 5 [] h1 fun (b2 : Nat) (h3 : Heap) =>
 AppC 5 [Lf.int IntKind.u8 (0 : Int)] 1 1 (Slc.mk (Option.some (b2, 0)) 0 0) a0 h3 fun (s4 : Slc) (h5 : Heap) =>
 keepB h3 h5 [b0] ∧
 ∃ (I6 : Slc → Int → Heap → Nat → Prop),
 (∃ (b7 : Nat), I6 s4 (0 : Int) h5 b7) ∧
 ∀ (s8 : Slc) (i9 : Int) (h10 : Heap) (b11 : Nat),
 I6 s8 i9 h10 b11 →
 Br (Decidable.decide (i9 < (↑(Slc.len a2) : Int)))
 (Br (Decidable.decide (IntKind.wrap IntKind.i64 (a1 + i9) < (↑(Slc.len s8) : Int)))
 (IxC a2 i9 1 fun (b12 b13 : Nat) =>
 ∃ (i14 : Int),
 cellsAt h10 b12 b13 [Lf.int IntKind.u8 i14] ∧
 IxC s8 (IntKind.wrap IntKind.i64 (a1 + i9)) 1 fun (b15 b16 : Nat) =>
 StC h10 b15 b16 [Lf.int IntKind.u8 i14] fun (h17 : Heap) =>
 keepB h10 h17 [b0] ∧ ∃ (b18 : Nat), b18 < b11 ∧ I6 s8 (IntKind.wrap IntKind.i64 (i9 + (1 : Int))) h17 b18)
 (IxC a2 i9 1 fun (b19 b20 : Nat) =>
 ∃ (i21 : Int),
 cellsAt h10 b19 b20 [Lf.int IntKind.u8 i21] ∧
 New 5 [Lf.int IntKind.u8 i21] h10 fun (b22 : Nat) (h23 : Heap) =>
 AppC 5 [Lf.int IntKind.u8 (0 : Int)] 1 1 s8 (Slc.mk (Option.some (b22, 0)) 1 1) h23
 fun (s24 : Slc) (h25 : Heap) => keepB h23 h25 [b0] ∧ ∃ (b26 : Nat), b26 < b11 ∧ I6 s24 (IntKind.wrap IntKind.i64 (i9 + (1 : Int))) h25 b26))
 (R s8 h10)
theorem eq198 (a0 : Slc) (a1 : Int) (a2 : Slc) (h : Heap) (R : Slc → Heap → Prop) : vc198 a0 a1 a2 h R = vcFn Go.Proofs.Tryz.prog pl198 Go.Proofs.Tryz.f198 [.lf (.slc a0), .agg [.int .i64 a1, .slc a2]] h [.one .slc] R := by kernel_rfl
theorem ok198 {a0 : Slc} {a1 : Int} {a2 : Slc} {h : Heap} {R : Slc → Heap → Prop} (hv : vc198 a0 a1 a2 h R) : Call Go.Proofs.Tryz.prog 198 [.lf (.slc a0), .agg [.int .i64 a1, .slc a2]] h [.one .slc] R := call_eq hng hmix Go.Proofs.Tryz.func198 (eq198 a0 a1 a2 h R) hv
/- 139: (sediment.sedimentref02.File).bytes (x) · loop 3: b, i -/
def pl139 : Plan := {
  blk := fun _ => none
  seq := fun _ => none
  loop := fun | 3 => some ⟨[(3, .one .slc), (4, .one (.int .i64))], [], []⟩ | _ => none
  live := fun | 0 => some [1] | 1 => some [1, 3] | 2 => some [1, 3, 4] | 3 => some [1, 3, 4, 13] | 4 => some [1, 3, 4] | 5 => some [1, 3, 4] | 6 => some [2] | _ => none
  track := fun | 1 => true | _ => false
  draw := fun | _ => .done
  iter := fun | _ => none }
def vc139 (a0 : Slc) (a1 : Slc) (h : Heap) (R : Slc → Heap → Prop) : Prop :=
 New 200 [Lf.slc a0, Lf.slc a1] h fun (b0 : Nat) (h1 : Heap) =>
 New 5 [] h1 fun (b2 : Nat) (h3 : Heap) =>
 AppC 5 [Lf.int IntKind.u8 (0 : Int)] 1 1 (Slc.mk (Option.some (b2, 0)) 0 0) a0 h3 fun (s4 : Slc) (h5 : Heap) =>
 keepB h3 h5 [b0] ∧
 ∃ (I6 : Slc → Int → Heap → Nat → Prop),
 (∃ (b7 : Nat), I6 s4 (0 : Int) h5 b7) ∧
 ∀ (s8 : Slc) (i9 : Int) (h10 : Heap) (b11 : Nat),
 I6 s8 i9 h10 b11 →
 Br (Decidable.decide (i9 < (↑(Slc.len a1) : Int)))
 (IxC a1 i9 2 fun (b12 b13 : Nat) =>
 ∃ (i14 : Int),
 ∃ (s15 : Slc),
 cellsAt h10 b12 b13 [Lf.int IntKind.i64 i14, Lf.slc s15] ∧
 Call Go.Proofs.Tryz.prog 198 [VV.lf (Lf.slc s8), VV.agg [Lf.int IntKind.i64 i14, Lf.slc s15]] h10 [VT.one LT.slc]
 fun (s16 : Slc) (h17 : Heap) => keepB h10 h17 [b0] ∧ ∃ (b18 : Nat), b18 < b11 ∧ I6 s16 (IntKind.wrap IntKind.i64 (i9 + (1 : Int))) h17 b18)
 (R s8 h10)
theorem eq139 (a0 : Slc) (a1 : Slc) (h : Heap) (R : Slc → Heap → Prop) : vc139 a0 a1 h R = vcFn Go.Proofs.Tryz.prog pl139 Go.Proofs.Tryz.f139 [.agg [.slc a0, .slc a1]] h [.one .slc] R := by kernel_rfl
theorem ok139 {a0 : Slc} {a1 : Slc} {h : Heap} {R : Slc → Heap → Prop} (hv : vc139 a0 a1 h R) : Call Go.Proofs.Tryz.prog 139 [.agg [.slc a0, .slc a1]] h [.one .slc] R := call_eq hng hmix Go.Proofs.Tryz.func139 (eq139 a0 a1 h R) hv
/- 152: (sediment.sedimentref02.File).open (x) · loop 3: n, i -/
def pl152 : Plan := {
  blk := fun _ => none
  seq := fun _ => none
  loop := fun | 3 => some ⟨[(3, .one (.int .i64)), (4, .one (.int .i64))], [], []⟩ | _ => none
  live := fun | 0 => some [1] | 1 => some [1, 3] | 2 => some [1, 3, 4] | 3 => some [1, 3, 4, 9] | 4 => some [1, 3, 4] | 5 => some [1, 3, 4] | 6 => some [2] | _ => none
  track := fun | 1 => true | _ => false
  draw := fun | _ => .done
  iter := fun | _ => none }
def vc152 (a0 : Slc) (a1 : Slc) (h : Heap) (R : Int → Heap → Prop) : Prop :=
 New 200 [Lf.slc a0, Lf.slc a1] h fun (b0 : Nat) (h1 : Heap) =>
 ∃ (I2 : Int → Int → Heap → Nat → Prop),
 (∃ (b3 : Nat), I2 (0 : Int) (0 : Int) h1 b3) ∧
 ∀ (i4 i5 : Int) (h6 : Heap) (b7 : Nat),
 I2 i4 i5 h6 b7 →
 Br (Decidable.decide (i5 < (↑(Slc.len a1) : Int)))
 (IxC a1 i5 2 fun (b8 b9 : Nat) =>
 ∃ (s10 : Slc),
 cellsAt h6 b8 (b9 + 1) [Lf.slc s10] ∧
 ∃ (b11 : Nat), b11 < b7 ∧ I2 (IntKind.wrap IntKind.i64 (i4 + (↑(Slc.len s10) : Int))) (IntKind.wrap IntKind.i64 (i5 + (1 : Int))) h6 b11)
 (R i4 h6)
theorem eq152 (a0 : Slc) (a1 : Slc) (h : Heap) (R : Int → Heap → Prop) : vc152 a0 a1 h R = vcFn Go.Proofs.Tryz.prog pl152 Go.Proofs.Tryz.f152 [.agg [.slc a0, .slc a1]] h [.one (.int .i64)] R := by kernel_rfl
theorem ok152 {a0 : Slc} {a1 : Slc} {h : Heap} {R : Int → Heap → Prop} (hv : vc152 a0 a1 h R) : Call Go.Proofs.Tryz.prog 152 [.agg [.slc a0, .slc a1]] h [.one (.int .i64)] R := call_eq hng hmix Go.Proofs.Tryz.func152 (eq152 a0 a1 h R) hv
/- 140: (*sediment.sedimentref02.FS).set (f, i, x) -/
def pl140 : Plan := {
  blk := fun _ => none
  seq := fun _ => none
  loop := fun _ => none
  live := fun | 0 => some [0, 1, 5] | 1 => some [0, 1, 5] | 2 => some [] | _ => none
  track := fun | 5 => true | _ => false
  draw := fun | 2 => .still 0 (.still 1 (.still 2 (.still 3 (.still 4 (.still 5 (.still 6 (.mem 7 (.done)))))))) | _ => .done
  iter := fun | _ => none }
def vc140 (a0 : Option (Nat × Nat)) (a1 : Int) (a2 : Slc) (a3 : Slc) (h : Heap) (R : Heap → Prop) : Prop :=
 New 200 [Lf.slc a2, Lf.slc a3] h fun (b0 : Nat) (h1 : Heap) =>
 New 200 [] h1 fun (b2 : Nat) (h3 : Heap) =>
 NilC a0 fun (b4 b5 : Nat) =>
 ∃ (s6 : Slc),
 cellsAt h3 b4 (b5 + 2) [Lf.slc s6] ∧
 AppC 200 [Lf.slc (Slc.mk Option.none 0 0), Lf.slc (Slc.mk Option.none 0 0)] 2 48
 (Slc.mk (Option.some (b2, 0)) 0 0) s6 h3 fun (s7 : Slc) (h8 : Heap) =>
 keepB h3 h8 [b0] ∧
 NilC a0 fun (b9 b10 : Nat) =>
 StC h8 b9 (b10 + 2) [Lf.slc s7] fun (h11 : Heap) =>
 keepB h8 h11 [b0] ∧
 NilC a0 fun (b12 b13 : Nat) =>
 ∃ (s14 : Slc),
 cellsAt h11 b12 (b13 + 2) [Lf.slc s14] ∧
 IxC s14 a1 2 fun (b15 b16 : Nat) => StC h11 b15 b16 [Lf.slc a2, Lf.slc a3] fun (h17 : Heap) => keepB h11 h17 [b0] ∧ R h17
theorem eq140 (a0 : Option (Nat × Nat)) (a1 : Int) (a2 : Slc) (a3 : Slc) (h : Heap) (R : Heap → Prop) : vc140 a0 a1 a2 a3 h R = vcFn Go.Proofs.Tryz.prog pl140 Go.Proofs.Tryz.f140 [.lf (.ptr a0), .lf (.int .i64 a1), .agg [.slc a2, .slc a3]] h [] R := by kernel_rfl
theorem ok140 {a0 : Option (Nat × Nat)} {a1 : Int} {a2 : Slc} {a3 : Slc} {h : Heap} {R : Heap → Prop} (hv : vc140 a0 a1 a2 a3 h R) : Call Go.Proofs.Tryz.prog 140 [.lf (.ptr a0), .lf (.int .i64 a1), .agg [.slc a2, .slc a3]] h [] R := call_eq hng hmix Go.Proofs.Tryz.func140 (eq140 a0 a1 a2 a3 h R) hv
/- 133: (*sediment.sedimentref02.FS).changes (f, d, n) -/
def pl133 : Plan := {
  blk := fun _ => none
  seq := fun _ => none
  loop := fun _ => none
  live := fun | 0 => some [0, 1, 5] | 1 => some [0, 1, 5, 6] | 2 => some [0, 6] | 3 => some [] | _ => none
  track := fun | 5 => true | _ => false
  draw := fun | 2 => .still 0 (.still 1 (.still 3 (.still 4 (.still 5 (.still 6 (.still 7 (.still 9 (.alt 2 (.alt 8 (.mem 10 (.mem 11 (.still 12 (.still 13 (.mem 14 (.done)))))) (.mem 10 (.mem 8 (.mem 11 (.still 12 (.still 13 (.mem 14 (.done)))))))) (.mem 10 (.mem 2 (.mem 8 (.mem 11 (.still 12 (.still 13 (.mem 14 (.done)))))))))))))))) | _ => .done
  iter := fun | _ => none }
def vc133 (a0 : Option (Nat × Nat)) (a1 : Int) (a2 : Slc) (a3 : Slc) (h : Heap) (R : Heap → Prop) : Prop :=
 New 194 [Lf.slc a2, Lf.slc a3] h fun (b0 : Nat) (h1 : Heap) =>
 New 192 [] h1 fun (b2 : Nat) (h3 : Heap) =>
 NilC a0 fun (b4 b5 : Nat) =>
 ∃ (s6 : Slc),
 cellsAt h3 b4 (b5 + 1) [Lf.slc s6] ∧
 AppC 192 [Lf.str (ByteArray.mk #[]), Lf.slc (Slc.mk Option.none 0 0)] 2 40
 (Slc.mk (Option.some (b2, 0)) 0 0) s6 h3 fun (s7 : Slc) (h8 : Heap) =>
 keepB h3 h8 [b0] ∧
 IxC s7 a1 2 fun (b9 b10 : Nat) =>
 ∃ (s11 : Slc),
 cellsAt h8 b9 (b10 + 1) [Lf.slc s11] ∧
 (New 194 [] h8 fun (b12 : Nat) (h13 : Heap) =>
 cellsAt h13 b9 (b10 + 1) [Lf.slc s11] ∧
 (AppC 194 [Lf.slc (Slc.mk Option.none 0 0), Lf.slc (Slc.mk Option.none 0 0)] 2 48
 (Slc.mk (Option.some (b12, 0)) 0 0) s11 h13 fun (s14 : Slc) (h15 : Heap) =>
 keepB h13 h15 [b0] ∧
 New 194 [Lf.slc a2, Lf.slc a3] h15 fun (b16 : Nat) (h17 : Heap) =>
 AppC 194 [Lf.slc (Slc.mk Option.none 0 0), Lf.slc (Slc.mk Option.none 0 0)] 2 48 s14
 (Slc.mk (Option.some (b16, 0)) 1 1) h17 fun (s18 : Slc) (h19 : Heap) =>
 keepB h17 h19 [b0] ∧
 IxC s7 a1 2 fun (b20 b21 : Nat) =>
 StC h19 b20 (b21 + 1) [Lf.slc s18] fun (h22 : Heap) =>
 keepB h19 h22 [b0] ∧ NilC a0 fun (b23 b24 : Nat) => StC h22 b23 (b24 + 1) [Lf.slc s7] fun (h25 : Heap) => R h25) ∧
 New 194 [Lf.slc a2, Lf.slc a3] h13 fun (b26 : Nat) (h27 : Heap) =>
 cellsAt h27 b9 (b10 + 1) [Lf.slc s11] ∧
 AppC 194 [Lf.slc (Slc.mk Option.none 0 0), Lf.slc (Slc.mk Option.none 0 0)] 2 48
 (Slc.mk (Option.some (b12, 0)) 0 0) s11 h27 fun (s28 : Slc) (h29 : Heap) =>
 keepB h27 h29 [b0] ∧
 AppC 194 [Lf.slc (Slc.mk Option.none 0 0), Lf.slc (Slc.mk Option.none 0 0)] 2 48
 s28 (Slc.mk (Option.some (b26, 0)) 1 1) h29 fun (s30 : Slc) (h31 : Heap) =>
 keepB h29 h31 [b0] ∧
 IxC s7 a1 2 fun (b32 b33 : Nat) =>
 StC h31 b32 (b33 + 1) [Lf.slc s30] fun (h34 : Heap) =>
 keepB h31 h34 [b0] ∧ NilC a0 fun (b35 b36 : Nat) => StC h34 b35 (b36 + 1) [Lf.slc s7] fun (h37 : Heap) => R h37) ∧
 New 194 [Lf.slc a2, Lf.slc a3] h8 fun (b38 : Nat) (h39 : Heap) =>
 cellsAt h39 b9 (b10 + 1) [Lf.slc s11] ∧
 New 194 [] h39 fun (b40 : Nat) (h41 : Heap) =>
 cellsAt h41 b9 (b10 + 1) [Lf.slc s11] ∧
 AppC 194 [Lf.slc (Slc.mk Option.none 0 0), Lf.slc (Slc.mk Option.none 0 0)] 2 48
 (Slc.mk (Option.some (b40, 0)) 0 0) s11 h41 fun (s42 : Slc) (h43 : Heap) =>
 keepB h41 h43 [b0] ∧
 AppC 194 [Lf.slc (Slc.mk Option.none 0 0), Lf.slc (Slc.mk Option.none 0 0)] 2 48 s42
 (Slc.mk (Option.some (b38, 0)) 1 1) h43 fun (s44 : Slc) (h45 : Heap) =>
 keepB h43 h45 [b0] ∧
 IxC s7 a1 2 fun (b46 b47 : Nat) =>
 StC h45 b46 (b47 + 1) [Lf.slc s44] fun (h48 : Heap) =>
 keepB h45 h48 [b0] ∧ NilC a0 fun (b49 b50 : Nat) => StC h48 b49 (b50 + 1) [Lf.slc s7] fun (h51 : Heap) => R h51
theorem eq133 (a0 : Option (Nat × Nat)) (a1 : Int) (a2 : Slc) (a3 : Slc) (h : Heap) (R : Heap → Prop) : vc133 a0 a1 a2 a3 h R = vcFn Go.Proofs.Tryz.prog pl133 Go.Proofs.Tryz.f133 [.lf (.ptr a0), .lf (.int .i64 a1), .agg [.slc a2, .slc a3]] h [] R := by kernel_rfl
theorem ok133 {a0 : Option (Nat × Nat)} {a1 : Int} {a2 : Slc} {a3 : Slc} {h : Heap} {R : Heap → Prop} (hv : vc133 a0 a1 a2 a3 h R) : Call Go.Proofs.Tryz.prog 133 [.lf (.ptr a0), .lf (.int .i64 a1), .agg [.slc a2, .slc a3]] h [] R := call_eq hng hmix Go.Proofs.Tryz.func133 (eq133 a0 a1 a2 a3 h R) hv
/- 196: (*sediment.sedimentref02.FS).script () · seq 11: #4, #5 -/
def pl196 : Plan := {
  blk := fun _ => none
  seq := fun | 11 => some ⟨[(4, .one (.int .i64)), (5, .one .bool)], [], []⟩ | _ => none
  loop := fun _ => none
  live := fun | 0 => some [0] | 1 => some [0, 4, 5] | 2 => some [0, 4, 5, 10] | 3 => some [0, 4, 5] | 4 => some [0, 4, 5, 22] | 5 => some [0, 4, 5] | 6 => some [0, 4, 5] | 7 => some [0, 4, 5] | 8 => some [0, 4, 5, 37] | 9 => some [0, 4, 5] | 10 => some [0, 4, 5] | 11 => some [0, 4, 5, 45] | 12 => some [2, 3] | 13 => some [0, 4, 5, 50] | 14 => some [4, 5] | 15 => some [0, 4, 5, 63] | 16 => some [] | 17 => some [2, 3] | 18 => some [2, 3] | _ => none
  track := fun | _ => false
  draw := fun | _ => .done
  iter := fun | _ => none }
def vc196 (a0 : Option (Nat × Nat)) (h : Heap) (R : Int → Bool → Heap → Prop) : Prop :=
 ∃ (I0 : Int → Bool → Heap → Prop),
 (NilC a0 fun (b1 b2 : Nat) =>
 ∃ (i3 : Int),
 cellsAt h b1 (b2 + 3) [Lf.int IntKind.i64 i3] ∧
 Br (Decidable.decide (i3 > (1 : Int)))
 (NilC a0 fun (b4 b5 : Nat) =>
 ∃ (i6 : Int),
 cellsAt h b4 (b5 + 3) [Lf.int IntKind.i64 i6] ∧
 NilC a0 fun (b7 b8 : Nat) =>
 StC h b7 (b8 + 3) [Lf.int IntKind.i64 (IntKind.wrap IntKind.i64 (i6 - (1 : Int)))] fun (h9 : Heap) => I0 (0 : Int) Bool.false h9)
 (NilC a0 fun (b10 b11 : Nat) =>
 ∃ (i12 : Int),
 cellsAt h b10 (b11 + 3) [Lf.int IntKind.i64 i12] ∧
 Br (i12 == (1 : Int))
 (NilC a0 fun (b13 b14 : Nat) =>
 StC h b13 (b14 + 3) [Lf.int IntKind.i64 (0 : Int)] fun (h15 : Heap) =>
 NilC a0 fun (b16 b17 : Nat) =>
 ∃ (i18 : Int),
 cellsAt h15 b16 (b17 + 4) [Lf.int IntKind.i64 i18] ∧
 NilC a0 fun (b19 b20 : Nat) =>
 StC h15 b19 (b20 + 4) [Lf.int IntKind.i64 (IntKind.wrap IntKind.i64 (i18 - (1 : Int)))] fun (h21 : Heap) =>
 I0 (21 : Int) Bool.true h21)
 (NilC a0 fun (b22 b23 : Nat) =>
 ∃ (i24 : Int),
 cellsAt h b22 (b23 + 4) [Lf.int IntKind.i64 i24] ∧
 Br (Decidable.decide (i24 > (0 : Int)))
 (NilC a0 fun (b25 b26 : Nat) =>
 ∃ (i27 : Int),
 cellsAt h b25 (b26 + 4) [Lf.int IntKind.i64 i27] ∧
 NilC a0 fun (b28 b29 : Nat) =>
 StC h b28 (b29 + 4) [Lf.int IntKind.i64 (IntKind.wrap IntKind.i64 (i27 - (1 : Int)))] fun (h30 : Heap) =>
 I0 (21 : Int) Bool.false h30)
 (I0 (0 : Int) Bool.false h)))) ∧
 ∀ (i31 : Int) (c32 : Bool) (h33 : Heap),
 I0 i31 c32 h33 →
 NilC a0 fun (b34 b35 : Nat) =>
 ∃ (c36 : Bool),
 cellsAt h33 b34 (b35 + 6) [Lf.bool c36] ∧
 Br c36 (R (22 : Int) Bool.false h33)
 (NilC a0 fun (b37 b38 : Nat) =>
 ∃ (i39 : Int),
 cellsAt h33 b37 (b38 + 5) [Lf.int IntKind.i64 i39] ∧
 Br (Decidable.decide (i39 > (1 : Int)))
 (NilC a0 fun (b40 b41 : Nat) =>
 ∃ (i42 : Int),
 cellsAt h33 b40 (b41 + 5) [Lf.int IntKind.i64 i42] ∧
 NilC a0 fun (b43 b44 : Nat) =>
 StC h33 b43 (b44 + 5) [Lf.int IntKind.i64 (IntKind.wrap IntKind.i64 (i42 - (1 : Int)))] fun (h45 : Heap) => R i31 c32 h45)
 (NilC a0 fun (b46 b47 : Nat) =>
 ∃ (i48 : Int),
 cellsAt h33 b46 (b47 + 5) [Lf.int IntKind.i64 i48] ∧
 Br (i48 == (1 : Int))
 (NilC a0 fun (b49 b50 : Nat) =>
 StC h33 b49 (b50 + 5) [Lf.int IntKind.i64 (0 : Int)] fun (h51 : Heap) =>
 NilC a0 fun (b52 b53 : Nat) => StC h51 b52 (b53 + 6) [Lf.bool Bool.true] fun (h54 : Heap) => R (22 : Int) Bool.true h54)
 (R i31 c32 h33)))
theorem eq196 (a0 : Option (Nat × Nat)) (h : Heap) (R : Int → Bool → Heap → Prop) : vc196 a0 h R = vcFn Go.Proofs.Tryz.prog pl196 Go.Proofs.Tryz.f196 [.lf (.ptr a0)] h [.one (.int .i64), .one .bool] R := by kernel_rfl
theorem ok196 {a0 : Option (Nat × Nat)} {h : Heap} {R : Int → Bool → Heap → Prop} (hv : vc196 a0 h R) : Call Go.Proofs.Tryz.prog 196 [.lf (.ptr a0)] h [.one (.int .i64), .one .bool] R := call_eq hng hmix Go.Proofs.Tryz.func196 (eq196 a0 h R) hv
/- 81: (*sediment.sedimentref02.FS).Fail (f, n, many) -/
def pl81 : Plan := {
  blk := fun _ => none
  seq := fun _ => none
  loop := fun _ => none
  live := fun | 0 => some [0, 1, 2] | 1 => some [0, 1, 2, 17] | 2 => some [] | _ => none
  track := fun | _ => false
  draw := fun | _ => .done
  iter := fun | _ => none }
def vc81 (a0 : Option (Nat × Nat)) (a1 : Int) (a2 : Int) (h : Heap) (R : Heap → Prop) : Prop :=
 NilC a0 fun (b0 b1 : Nat) =>
 StC h b0 (b1 + 3) [Lf.int IntKind.i64 (0 : Int)] fun (h2 : Heap) =>
 NilC a0 fun (b3 b4 : Nat) =>
 StC h2 b3 (b4 + 4) [Lf.int IntKind.i64 (0 : Int)] fun (h5 : Heap) =>
 Br (Decidable.decide (a1 ≥ (1 : Int)))
 (Br (Decidable.decide (a2 ≥ (1 : Int)))
 (NilC a0 fun (b6 b7 : Nat) =>
 StC h5 b6 (b7 + 3) [Lf.int IntKind.i64 a1] fun (h8 : Heap) =>
 NilC a0 fun (b9 b10 : Nat) => StC h8 b9 (b10 + 4) [Lf.int IntKind.i64 a2] fun (h11 : Heap) => R h11)
 (R h5))
 (R h5)
theorem eq81 (a0 : Option (Nat × Nat)) (a1 : Int) (a2 : Int) (h : Heap) (R : Heap → Prop) : vc81 a0 a1 a2 h R = vcFn Go.Proofs.Tryz.prog pl81 Go.Proofs.Tryz.f81 [.lf (.ptr a0), .lf (.int .i64 a1), .lf (.int .i64 a2)] h [] R := by kernel_rfl
theorem ok81 {a0 : Option (Nat × Nat)} {a1 : Int} {a2 : Int} {h : Heap} {R : Heap → Prop} (hv : vc81 a0 a1 a2 h R) : Call Go.Proofs.Tryz.prog 81 [.lf (.ptr a0), .lf (.int .i64 a1), .lf (.int .i64 a2)] h [] R := call_eq hng hmix Go.Proofs.Tryz.func81 (eq81 a0 a1 a2 h R) hv
/- 82: (*sediment.sedimentref02.FS).Stop (f, n) -/
def pl82 : Plan := {
  blk := fun _ => none
  seq := fun _ => none
  loop := fun _ => none
  live := fun | 0 => some [0, 1] | 1 => some [0, 1, 11] | 2 => some [] | _ => none
  track := fun | _ => false
  draw := fun | _ => .done
  iter := fun | _ => none }
def vc82 (a0 : Option (Nat × Nat)) (a1 : Int) (h : Heap) (R : Heap → Prop) : Prop :=
 NilC a0 fun (b0 b1 : Nat) =>
 StC h b0 (b1 + 5) [Lf.int IntKind.i64 (0 : Int)] fun (h2 : Heap) =>
 NilC a0 fun (b3 b4 : Nat) =>
 StC h2 b3 (b4 + 6) [Lf.bool Bool.false] fun (h5 : Heap) =>
 Br (Decidable.decide (a1 ≥ (1 : Int))) (NilC a0 fun (b6 b7 : Nat) => StC h5 b6 (b7 + 5) [Lf.int IntKind.i64 a1] fun (h8 : Heap) => R h8) (R h5)
theorem eq82 (a0 : Option (Nat × Nat)) (a1 : Int) (h : Heap) (R : Heap → Prop) : vc82 a0 a1 h R = vcFn Go.Proofs.Tryz.prog pl82 Go.Proofs.Tryz.f82 [.lf (.ptr a0), .lf (.int .i64 a1)] h [] R := by kernel_rfl
theorem ok82 {a0 : Option (Nat × Nat)} {a1 : Int} {h : Heap} {R : Heap → Prop} (hv : vc82 a0 a1 h R) : Call Go.Proofs.Tryz.prog 82 [.lf (.ptr a0), .lf (.int .i64 a1)] h [] R := call_eq hng hmix Go.Proofs.Tryz.func82 (eq82 a0 a1 h R) hv
/- 129: (*sediment.sedimentref02.FS).stops (f) -/
def pl129 : Plan := {
  blk := fun _ => none
  seq := fun _ => none
  loop := fun _ => none
  live := fun | 0 => some [0] | 1 => some [3] | 2 => some [2] | _ => none
  track := fun | _ => false
  draw := fun | _ => .done
  iter := fun | _ => none }
def vc129 (a0 : Option (Nat × Nat)) (h : Heap) (R : Int → Heap → Prop) : Prop :=
 Call Go.Proofs.Tryz.prog 196 [VV.lf (Lf.ptr a0)] h [VT.one (LT.int IntKind.i64), VT.one LT.bool] fun (i0 : Int) (c1 : Bool) (h2 : Heap) => R i0 h2
theorem eq129 (a0 : Option (Nat × Nat)) (h : Heap) (R : Int → Heap → Prop) : vc129 a0 h R = vcFn Go.Proofs.Tryz.prog pl129 Go.Proofs.Tryz.f129 [.lf (.ptr a0)] h [.one (.int .i64)] R := by kernel_rfl
theorem ok129 {a0 : Option (Nat × Nat)} {h : Heap} {R : Int → Heap → Prop} (hv : vc129 a0 h R) : Call Go.Proofs.Tryz.prog 129 [.lf (.ptr a0)] h [.one (.int .i64)] R := call_eq hng hmix Go.Proofs.Tryz.func129 (eq129 a0 h R) hv
end Go.V.YtdeihieblljfcaaGreat
