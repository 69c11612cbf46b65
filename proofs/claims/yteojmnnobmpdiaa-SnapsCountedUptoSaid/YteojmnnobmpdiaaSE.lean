/- This text proves a part of the laws of seat Yteojmnnobmpdiaa, under no condition: H11 S11a S11b S11c. -/
import Derived.Test.YteojmnnobmpdiaaSC
import Derived.Eval
import Derived.Test.YteojmnnobmpdiaaChecked
set_option linter.unusedVariables false
set_option maxRecDepth 100000
namespace Go.V.Yteojmnnobmpdiaa
open Go Go.V
theorem hng : ∀ (f : Nat) (fn : Func), Go.Proofs.Try.prog.funcs[f]? = some fn → (fn.name == "runtime.NumGoroutine") = false := by
  have h : (Go.Proofs.Try.prog.funcs.toList.all fun fn => !(fn.name == "runtime.NumGoroutine")) = true := by kernel_rfl
  intro f fn hf
  have hm : fn ∈ Go.Proofs.Try.prog.funcs.toList := by simpa using Array.mem_of_getElem? hf
  have := List.all_eq_true.1 h fn hm
  simpa using this
theorem hmix : Go.Proofs.Try.prog.follows .mixedOrders = true := Checked.mixed Go.Proofs.Try.checked
end Go.V.Yteojmnnobmpdiaa
set_option linter.unusedVariables false
set_option maxRecDepth 100000
namespace Go.V.Yteojmnnobmpdiaa
open Go Go.V
/- 150: cmp.Less[uint64] (x, y) -/
def pl150 : Plan := {
  blk := fun _ => none
  seq := fun _ => none
  loop := fun _ => none
  live := fun | 0 => some [0, 1] | 1 => some [4] | _ => none
  track := fun | _ => false
  draw := fun | _ => .done
  iter := fun | _ => none }
def vc150 (a0 : Int) (a1 : Int) (h : Heap) (R : Bool → Heap → Prop) : Prop :=
  Call Go.Proofs.Try.prog 169 [VV.lf (Lf.int IntKind.u64 a0)] h [VT.one LT.bool] fun (c0 : Bool) (h1 : Heap) =>
    Br c0
      (Call Go.Proofs.Try.prog 169 [VV.lf (Lf.int IntKind.u64 a1)] h1 [VT.one LT.bool] fun (c2 : Bool) (h3 : Heap) =>
        Br (!c2) (R Bool.true h3) (R (Decidable.decide (a0 < a1)) h3))
      (R (Decidable.decide (a0 < a1)) h1)
theorem eq150 (a0 : Int) (a1 : Int) (h : Heap) (R : Bool → Heap → Prop) : vc150 a0 a1 h R = vcFn Go.Proofs.Try.prog pl150 Go.Proofs.Try.f150 [.lf (.int .u64 a0), .lf (.int .u64 a1)] h [.one .bool] R := by kernel_rfl
theorem ok150 {a0 : Int} {a1 : Int} {h : Heap} {R : Bool → Heap → Prop} (hv : vc150 a0 a1 h R) : Call Go.Proofs.Try.prog 150 [.lf (.int .u64 a0), .lf (.int .u64 a1)] h [.one .bool] R := call_eq hng hmix Go.Proofs.Try.func150 (eq150 a0 a1 h R) hv
/- 169: cmp.isNaN[uint64] (x) -/
def pl169 : Plan := {
  blk := fun _ => none
  seq := fun _ => none
  loop := fun _ => none
  live := fun | 0 => some [0] | 1 => some [2] | _ => none
  track := fun | _ => false
  draw := fun | _ => .done
  iter := fun | _ => none }
def vc169 (a0 : Int) (h : Heap) (R : Bool → Heap → Prop) : Prop :=
  R (a0 != a0) h
theorem eq169 (a0 : Int) (h : Heap) (R : Bool → Heap → Prop) : vc169 a0 h R = vcFn Go.Proofs.Try.prog pl169 Go.Proofs.Try.f169 [.lf (.int .u64 a0)] h [.one .bool] R := by kernel_rfl
theorem ok169 {a0 : Int} {h : Heap} {R : Bool → Heap → Prop} (hv : vc169 a0 h R) : Call Go.Proofs.Try.prog 169 [.lf (.int .u64 a0)] h [.one .bool] R := call_eq hng hmix Go.Proofs.Try.func169 (eq169 a0 h R) hv
/- 144: slices.insertionSortOrdered[uint64] (data, a, b) · seq 6:  · loop 1: i · loop 4: j -/
def pl144 : Plan := {
  blk := fun _ => none
  seq := fun | 6 => some ⟨[], [], []⟩ | _ => none
  loop := fun | 1 => some ⟨[(6, .one (.int .i64))], [], []⟩ | 4 => some ⟨[(7, .one (.int .i64))], [], []⟩ | _ => none
  live := fun | 0 => some [0, 1, 2, 6] | 1 => some [0, 1, 2, 6, 12] | 2 => some [0, 1, 2, 6] | 3 => some [0, 1, 2, 6, 7] | 4 => some [0, 1, 2, 6, 7, 30] | 5 => some [0, 1, 2, 6, 7] | 6 => some [0, 1, 2, 6, 7] | _ => none
  track := fun | _ => false
  draw := fun | 4 => .still 0 (.still 1 (.still 2 (.still 3 (.still 4 (.still 5 (.still 6 (.still 7 (.still 8 (.still 9 (.still 10 (.still 11 (.still 12 (.mem 13 (.still 14 (.done))))))))))))))) | 6 => .still 0 (.still 1 (.still 2 (.still 3 (.still 4 (.still 5 (.still 6 (.still 7 (.still 8 (.still 9 (.still 10 (.still 11 (.still 12 (.still 13 (.still 14 (.mem 15 (.still 16 (.mem 17 (.done)))))))))))))))))) | _ => .done
  iter := fun | _ => none }
def vc144 (a0 : Slc) (a1 : Int) (a2 : Int) (h : Heap) (R : Heap → Prop) : Prop :=
  ∃ (I0 : Int → Heap → Nat → Prop),
    (∃ (b1 : Nat), I0 (IntKind.wrap IntKind.i64 (a1 + (1 : Int))) h b1) ∧
      ∀ (i2 : Int) (h3 : Heap) (b4 : Nat),
        I0 i2 h3 b4 →
          Br (Decidable.decide (i2 < a2))
            (∃ (I5 : Int → Heap → Nat → Prop),
              (∃ (b6 : Nat), I5 i2 h3 b6) ∧
                ∀ (i7 : Int) (h8 : Heap) (b9 : Nat),
                  I5 i7 h8 b9 →
                    ∃ (I10 : Heap → Prop),
                      Br (Decidable.decide (i7 > a1))
                          (IxC a0 i7 1 fun (b11 b12 : Nat) =>
                            ∃ (i13 : Int),
                              cellsAt h8 b11 b12 [Lf.int IntKind.u64 i13] ∧
                                IxC a0 (IntKind.wrap IntKind.i64 (i7 - (1 : Int))) 1 fun (b14 b15 : Nat) =>
                                  ∃ (i16 : Int),
                                    cellsAt h8 b14 b15 [Lf.int IntKind.u64 i16] ∧
                                      Call Go.Proofs.Try.prog 150 [VV.lf (Lf.int IntKind.u64 i13), VV.lf (Lf.int IntKind.u64 i16)] h8 [VT.one LT.bool]
                                        fun (c17 : Bool) (h18 : Heap) => Br c17 (I10 h18) (∃ (b19 : Nat), b19 < b4 ∧ I0 (IntKind.wrap IntKind.i64 (i2 + (1 : Int))) h18 b19))
                          (∃ (b20 : Nat), b20 < b4 ∧ I0 (IntKind.wrap IntKind.i64 (i2 + (1 : Int))) h8 b20) ∧
                        ∀ (h21 : Heap),
                          I10 h21 →
                            IxC a0 (IntKind.wrap IntKind.i64 (i7 - (1 : Int))) 1 fun (b22 b23 : Nat) =>
                              ∃ (i24 : Int),
                                cellsAt h21 b22 b23 [Lf.int IntKind.u64 i24] ∧
                                  IxC a0 i7 1 fun (b25 b26 : Nat) =>
                                    ∃ (i27 : Int),
                                      cellsAt h21 b25 b26 [Lf.int IntKind.u64 i27] ∧
                                        IxC a0 i7 1 fun (b28 b29 : Nat) =>
                                          StC h21 b28 b29 [Lf.int IntKind.u64 i24] fun (h30 : Heap) =>
                                            IxC a0 (IntKind.wrap IntKind.i64 (i7 - (1 : Int))) 1 fun (b31 b32 : Nat) =>
                                              StC h30 b31 b32 [Lf.int IntKind.u64 i27] fun (h33 : Heap) =>
                                                ∃ (b34 : Nat), b34 < b9 ∧ I5 (IntKind.wrap IntKind.i64 (i7 - (1 : Int))) h33 b34)
            (R h3)
theorem eq144 (a0 : Slc) (a1 : Int) (a2 : Int) (h : Heap) (R : Heap → Prop) : vc144 a0 a1 a2 h R = vcFn Go.Proofs.Try.prog pl144 Go.Proofs.Try.f144 [.lf (.slc a0), .lf (.int .i64 a1), .lf (.int .i64 a2)] h [] R := by kernel_rfl
theorem ok144 {a0 : Slc} {a1 : Int} {a2 : Int} {h : Heap} {R : Heap → Prop} (hv : vc144 a0 a1 a2 h R) : Call Go.Proofs.Try.prog 144 [.lf (.slc a0), .lf (.int .i64 a1), .lf (.int .i64 a2)] h [] R := call_eq hng hmix Go.Proofs.Try.func144 (eq144 a0 a1 a2 h R) hv
/- 164: slices.siftDownOrdered[uint64] () · seq 4: #36 · seq 5: #9 · loop 1: #8 -/
def pl164 : Plan := {
  blk := fun _ => none
  seq := fun | 4 => some ⟨[(36, .one .bool)], [], []⟩ | 5 => some ⟨[(9, .one (.int .i64))], [], []⟩ | _ => none
  loop := fun | 1 => some ⟨[(8, .one (.int .i64))], [], []⟩ | _ => none
  live := fun | 0 => some [0, 2, 3, 8] | 1 => some [0, 2, 3, 8, 9] | 2 => some [0, 2, 3, 8, 9, 16] | 3 => some [0, 2, 3, 8, 9, 36] | 4 => some [0, 2, 3, 8, 9] | 5 => some [0, 2, 3, 8, 9, 52] | 6 => some [0, 2, 3, 9] | 7 => some [0, 2, 3, 8] | _ => none
  track := fun | _ => false
  draw := fun | 3 => .still 0 (.still 1 (.still 2 (.still 3 (.still 4 (.still 5 (.still 6 (.still 7 (.still 8 (.still 9 (.still 10 (.still 11 (.still 12 (.still 13 (.still 14 (.still 15 (.still 16 (.still 17 (.mem 18 (.still 19 (.done)))))))))))))))))))) | 5 => .still 0 (.still 1 (.still 2 (.still 3 (.still 4 (.still 5 (.still 6 (.still 7 (.still 8 (.still 9 (.still 10 (.still 11 (.mem 12 (.still 13 (.done)))))))))))))) | 6 => .still 0 (.still 1 (.still 2 (.still 3 (.still 4 (.still 5 (.still 6 (.still 7 (.still 8 (.still 9 (.still 10 (.still 11 (.still 12 (.still 13 (.still 14 (.still 15 (.still 16 (.still 17 (.still 18 (.still 19 (.still 20 (.mem 21 (.still 22 (.mem 23 (.done)))))))))))))))))))))))) | _ => .done
  iter := fun | _ => none }
def vc164 (a0 : Slc) (a1 : Int) (a2 : Int) (a3 : Int) (h : Heap) (R : Heap → Prop) : Prop :=
  ∃ (I0 : Int → Heap → Nat → Prop),
    (∃ (b1 : Nat), I0 a1 h b1) ∧
      ∀ (i2 : Int) (h3 : Heap) (b4 : Nat),
        I0 i2 h3 b4 →
          Br (Decidable.decide (IntKind.wrap IntKind.i64 (IntKind.wrap IntKind.i64 ((2 : Int) * i2) + (1 : Int)) ≥ a2)) (R h3)
            (∃ (I5 : Int → Heap → Prop),
              (∃ (I6 : Bool → Heap → Prop),
                  Br (Decidable.decide (IntKind.wrap IntKind.i64 (IntKind.wrap IntKind.i64 (IntKind.wrap IntKind.i64 ((2 : Int) * i2) + (1 : Int)) + (1 : Int)) < a2))
                      (IxC a0 (IntKind.wrap IntKind.i64 (a3 + IntKind.wrap IntKind.i64 (IntKind.wrap IntKind.i64 ((2 : Int) * i2) + (1 : Int)))) 1 fun (b7 b8 : Nat) =>
                        ∃ (i9 : Int),
                          cellsAt h3 b7 b8 [Lf.int IntKind.u64 i9] ∧
                            IxC a0
                              (IntKind.wrap IntKind.i64
                                (IntKind.wrap IntKind.i64 (a3 + IntKind.wrap IntKind.i64 (IntKind.wrap IntKind.i64 ((2 : Int) * i2) + (1 : Int))) + (1 : Int)))
                              1 fun (b10 b11 : Nat) =>
                              ∃ (i12 : Int),
                                cellsAt h3 b10 b11 [Lf.int IntKind.u64 i12] ∧
                                  Call Go.Proofs.Try.prog 150 [VV.lf (Lf.int IntKind.u64 i9), VV.lf (Lf.int IntKind.u64 i12)] h3 [VT.one LT.bool]
                                    fun (c13 : Bool) (h14 : Heap) => I6 c13 h14)
                      (I6 Bool.false h3) ∧
                    ∀ (c15 : Bool) (h16 : Heap),
                      I6 c15 h16 →
                        Br c15 (I5 (IntKind.wrap IntKind.i64 (IntKind.wrap IntKind.i64 (IntKind.wrap IntKind.i64 ((2 : Int) * i2) + (1 : Int)) + (1 : Int))) h16)
                          (I5 (IntKind.wrap IntKind.i64 (IntKind.wrap IntKind.i64 ((2 : Int) * i2) + (1 : Int))) h16)) ∧
                ∀ (i17 : Int) (h18 : Heap),
                  I5 i17 h18 →
                    IxC a0 (IntKind.wrap IntKind.i64 (a3 + i2)) 1 fun (b19 b20 : Nat) =>
                      ∃ (i21 : Int),
                        cellsAt h18 b19 b20 [Lf.int IntKind.u64 i21] ∧
                          IxC a0 (IntKind.wrap IntKind.i64 (a3 + i17)) 1 fun (b22 b23 : Nat) =>
                            ∃ (i24 : Int),
                              cellsAt h18 b22 b23 [Lf.int IntKind.u64 i24] ∧
                                Call Go.Proofs.Try.prog 150 [VV.lf (Lf.int IntKind.u64 i21), VV.lf (Lf.int IntKind.u64 i24)] h18 [VT.one LT.bool]
                                  fun (c25 : Bool) (h26 : Heap) =>
                                  Br (!c25) (R h26)
                                    (IxC a0 (IntKind.wrap IntKind.i64 (a3 + i17)) 1 fun (b27 b28 : Nat) =>
                                      ∃ (i29 : Int),
                                        cellsAt h26 b27 b28 [Lf.int IntKind.u64 i29] ∧
                                          IxC a0 (IntKind.wrap IntKind.i64 (a3 + i2)) 1 fun (b30 b31 : Nat) =>
                                            ∃ (i32 : Int),
                                              cellsAt h26 b30 b31 [Lf.int IntKind.u64 i32] ∧
                                                IxC a0 (IntKind.wrap IntKind.i64 (a3 + i2)) 1 fun (b33 b34 : Nat) =>
                                                  StC h26 b33 b34 [Lf.int IntKind.u64 i29] fun (h35 : Heap) =>
                                                    IxC a0 (IntKind.wrap IntKind.i64 (a3 + i17)) 1 fun (b36 b37 : Nat) =>
                                                      StC h35 b36 b37 [Lf.int IntKind.u64 i32] fun (h38 : Heap) => ∃ (b39 : Nat), b39 < b4 ∧ I0 i17 h38 b39))
theorem eq164 (a0 : Slc) (a1 : Int) (a2 : Int) (a3 : Int) (h : Heap) (R : Heap → Prop) : vc164 a0 a1 a2 a3 h R = vcFn Go.Proofs.Try.prog pl164 Go.Proofs.Try.f164 [.lf (.slc a0), .lf (.int .i64 a1), .lf (.int .i64 a2), .lf (.int .i64 a3)] h [] R := by kernel_rfl
theorem ok164 {a0 : Slc} {a1 : Int} {a2 : Int} {a3 : Int} {h : Heap} {R : Heap → Prop} (hv : vc164 a0 a1 a2 a3 h R) : Call Go.Proofs.Try.prog 164 [.lf (.slc a0), .lf (.int .i64 a1), .lf (.int .i64 a2), .lf (.int .i64 a3)] h [] R := call_eq hng hmix Go.Proofs.Try.func164 (eq164 a0 a1 a2 a3 h R) hv
/- 145: slices.heapSortOrdered[uint64] (data, a, b) · loop 4: i · loop 8: i -/
def pl145 : Plan := {
  blk := fun _ => none
  seq := fun _ => none
  loop := fun | 4 => some ⟨[(9, .one (.int .i64))], [], []⟩ | 8 => some ⟨[(10, .one (.int .i64))], [], []⟩ | _ => none
  live := fun | 0 => some [0, 1, 2, 6] | 1 => some [0, 1, 2, 6, 7] | 2 => some [0, 6, 7, 8] | 3 => some [0, 6, 7, 8, 9] | 4 => some [0, 6, 7, 8, 9, 19] | 5 => some [0, 6, 7, 8, 9] | 6 => some [0, 6, 7, 8, 9] | 7 => some [0, 6, 7, 10] | 8 => some [0, 6, 7, 10, 30] | 9 => some [0, 6, 7, 10] | 10 => some [0, 6, 7, 10] | 11 => some [0, 6, 7, 10] | _ => none
  track := fun | _ => false
  draw := fun | 10 => .still 0 (.still 1 (.still 2 (.still 3 (.still 4 (.still 5 (.still 6 (.still 7 (.still 8 (.still 9 (.still 10 (.still 11 (.still 12 (.still 13 (.still 14 (.still 15 (.still 16 (.mem 17 (.still 18 (.mem 19 (.done)))))))))))))))))))) | _ => .done
  iter := fun | _ => none }
def vc145 (a0 : Slc) (a1 : Int) (a2 : Int) (h : Heap) (R : Heap → Prop) : Prop :=
  ((2 : Int) = (0 : Int) → False) ∧
    ∃ (I0 : Int → Heap → Nat → Prop),
      (∃ (b1 : Nat), I0 (IntKind.wrap IntKind.i64 (Int.tdiv (IntKind.wrap IntKind.i64 (IntKind.wrap IntKind.i64 (a2 - a1) - (1 : Int))) (2 : Int))) h b1) ∧
        ∀ (i2 : Int) (h3 : Heap) (b4 : Nat),
          I0 i2 h3 b4 →
            Br (Decidable.decide (i2 ≥ (0 : Int)))
              (Call Go.Proofs.Try.prog 164
                [VV.lf (Lf.slc a0), VV.lf (Lf.int IntKind.i64 i2), VV.lf (Lf.int IntKind.i64 (IntKind.wrap IntKind.i64 (a2 - a1))),
                  VV.lf (Lf.int IntKind.i64 a1)]
                h3 [] fun (h5 : Heap) => ∃ (b6 : Nat), b6 < b4 ∧ I0 (IntKind.wrap IntKind.i64 (i2 - (1 : Int))) h5 b6)
              (∃ (I7 : Int → Heap → Nat → Prop),
                (∃ (b8 : Nat), I7 (IntKind.wrap IntKind.i64 (IntKind.wrap IntKind.i64 (a2 - a1) - (1 : Int))) h3 b8) ∧
                  ∀ (i9 : Int) (h10 : Heap) (b11 : Nat),
                    I7 i9 h10 b11 →
                      Br (Decidable.decide (i9 ≥ (0 : Int)))
                        (IxC a0 (IntKind.wrap IntKind.i64 (a1 + i9)) 1 fun (b12 b13 : Nat) =>
                          ∃ (i14 : Int),
                            cellsAt h10 b12 b13 [Lf.int IntKind.u64 i14] ∧
                              IxC a0 a1 1 fun (b15 b16 : Nat) =>
                                ∃ (i17 : Int),
                                  cellsAt h10 b15 b16 [Lf.int IntKind.u64 i17] ∧
                                    IxC a0 a1 1 fun (b18 b19 : Nat) =>
                                      StC h10 b18 b19 [Lf.int IntKind.u64 i14] fun (h20 : Heap) =>
                                        IxC a0 (IntKind.wrap IntKind.i64 (a1 + i9)) 1 fun (b21 b22 : Nat) =>
                                          StC h20 b21 b22 [Lf.int IntKind.u64 i17] fun (h23 : Heap) =>
                                            Call Go.Proofs.Try.prog 164
                                              [VV.lf (Lf.slc a0), VV.lf (Lf.int IntKind.i64 (0 : Int)), VV.lf (Lf.int IntKind.i64 i9),
                                                VV.lf (Lf.int IntKind.i64 a1)]
                                              h23 [] fun (h24 : Heap) => ∃ (b25 : Nat), b25 < b11 ∧ I7 (IntKind.wrap IntKind.i64 (i9 - (1 : Int))) h24 b25)
                        (R h10))
theorem eq145 (a0 : Slc) (a1 : Int) (a2 : Int) (h : Heap) (R : Heap → Prop) : vc145 a0 a1 a2 h R = vcFn Go.Proofs.Try.prog pl145 Go.Proofs.Try.f145 [.lf (.slc a0), .lf (.int .i64 a1), .lf (.int .i64 a2)] h [] R := by kernel_rfl
theorem ok145 {a0 : Slc} {a1 : Int} {a2 : Int} {h : Heap} {R : Heap → Prop} (hv : vc145 a0 a1 a2 h R) : Call Go.Proofs.Try.prog 145 [.lf (.slc a0), .lf (.int .i64 a1), .lf (.int .i64 a2)] h [] R := call_eq hng hmix Go.Proofs.Try.func145 (eq145 a0 a1 a2 h R) hv
/- 149: slices.partialInsertionSortOrdered[uint64] () · blk 2: #7 · blk 4:  · seq 18:  · loop 3: #7, #8 · loop 5: #7 · loop 14: #9 · loop 20: #10 -/
def pl149 : Plan := {
  blk := fun | 2 => some ⟨[(7, .one (.int .i64))], [], []⟩ | 4 => some ⟨[], [], []⟩ | _ => none
  seq := fun | 18 => some ⟨[], [], []⟩ | _ => none
  loop := fun | 3 => some ⟨[(7, .one (.int .i64)), (8, .one (.int .i64))], [], []⟩ | 5 => some ⟨[(7, .one (.int .i64))], [], []⟩ | 14 => some ⟨[(9, .one (.int .i64))], [], []⟩ | 20 => some ⟨[(10, .one (.int .i64))], [], []⟩ | _ => none
  live := fun | 0 => some [0, 1, 2] | 1 => some [0, 1, 2, 7] | 2 => some [0, 1, 2, 7, 8] | 3 => some [0, 1, 2, 7, 8, 14] | 4 => some [0, 1, 2, 7, 8] | 5 => some [0, 1, 2, 7, 8, 32] | 6 => some [0, 1, 2, 7, 8] | 7 => some [0, 1, 2, 7, 8, 37] | 8 => some [6] | 9 => some [0, 1, 2, 7, 8, 41] | 10 => some [6] | 11 => some [0, 1, 2, 7, 8] | 12 => some [0, 1, 2, 7, 8, 61] | 13 => some [0, 1, 2, 7, 8, 9] | 14 => some [0, 1, 2, 7, 8, 9, 65] | 15 => some [0, 1, 2, 7, 8, 9] | 16 => some [0, 1, 2, 7, 8, 9, 78] | 17 => some [0, 1, 2, 7, 8, 9] | 18 => some [0, 1, 2, 7, 8, 98] | 19 => some [0, 1, 2, 7, 8, 10] | 20 => some [0, 1, 2, 7, 8, 10, 103] | 21 => some [0, 1, 2, 7, 8, 10] | 22 => some [0, 1, 2, 7, 8, 10, 116] | 23 => some [0, 1, 2, 7, 8, 10] | 24 => some [6] | _ => none
  track := fun | _ => false
  draw := fun | 5 => .still 0 (.still 1 (.still 2 (.still 3 (.still 4 (.still 5 (.still 6 (.still 7 (.still 8 (.still 9 (.still 10 (.still 11 (.still 12 (.mem 13 (.still 14 (.still 15 (.done)))))))))))))))) | 11 => .still 0 (.still 1 (.still 2 (.still 3 (.still 4 (.still 5 (.still 6 (.still 7 (.still 8 (.still 9 (.still 10 (.still 11 (.still 12 (.still 13 (.still 14 (.mem 15 (.still 16 (.mem 17 (.done)))))))))))))))))) | 16 => .still 0 (.still 1 (.still 2 (.still 3 (.still 4 (.still 5 (.still 6 (.still 7 (.still 8 (.mem 9 (.still 10 (.done))))))))))) | 17 => .still 0 (.still 1 (.still 2 (.still 3 (.still 4 (.still 5 (.still 6 (.still 7 (.still 8 (.still 9 (.still 10 (.still 11 (.still 12 (.still 13 (.still 14 (.mem 15 (.still 16 (.mem 17 (.done)))))))))))))))))) | 22 => .still 0 (.still 1 (.still 2 (.still 3 (.still 4 (.still 5 (.still 6 (.still 7 (.still 8 (.mem 9 (.still 10 (.done))))))))))) | 23 => .still 0 (.still 1 (.still 2 (.still 3 (.still 4 (.still 5 (.still 6 (.still 7 (.still 8 (.still 9 (.still 10 (.still 11 (.still 12 (.still 13 (.still 14 (.mem 15 (.still 16 (.mem 17 (.done)))))))))))))))))) | _ => .done
  iter := fun | _ => none }
def vc149 (a0 : Slc) (a1 : Int) (a2 : Int) (h : Heap) (R : Bool → Heap → Prop) : Prop :=
  ∃ (I0 : Int → Int → Heap → Nat → Prop),
    (∃ (b1 : Nat), I0 (IntKind.wrap IntKind.i64 (a1 + (1 : Int))) (0 : Int) h b1) ∧
      ∀ (i2 i3 : Int) (h4 : Heap) (b5 : Nat),
        I0 i2 i3 h4 b5 →
          Br (Decidable.decide (i3 < (5 : Int)))
            (∃ (I6 : Int → Heap → Prop),
              (∃ (I7 : Int → Heap → Nat → Prop),
                  (∃ (b8 : Nat), I7 i2 h4 b8) ∧
                    ∀ (i9 : Int) (h10 : Heap) (b11 : Nat),
                      I7 i9 h10 b11 →
                        Br (Decidable.decide (i9 < a2))
                          (IxC a0 i9 1 fun (b12 b13 : Nat) =>
                            ∃ (i14 : Int),
                              cellsAt h10 b12 b13 [Lf.int IntKind.u64 i14] ∧
                                IxC a0 (IntKind.wrap IntKind.i64 (i9 - (1 : Int))) 1 fun (b15 b16 : Nat) =>
                                  ∃ (i17 : Int),
                                    cellsAt h10 b15 b16 [Lf.int IntKind.u64 i17] ∧
                                      Call Go.Proofs.Try.prog 150 [VV.lf (Lf.int IntKind.u64 i14), VV.lf (Lf.int IntKind.u64 i17)] h10 [VT.one LT.bool]
                                        fun (c18 : Bool) (h19 : Heap) => Br (!c18) (∃ (b20 : Nat), b20 < b11 ∧ I7 (IntKind.wrap IntKind.i64 (i9 + (1 : Int))) h19 b20) (I6 i9 h19))
                          (I6 i9 h10)) ∧
                ∀ (i21 : Int) (h22 : Heap),
                  I6 i21 h22 →
                    Br (i21 == a2) (R Bool.true h22)
                      (Br (Decidable.decide (IntKind.wrap IntKind.i64 (a2 - a1) < (50 : Int))) (R Bool.false h22)
                        (IxC a0 (IntKind.wrap IntKind.i64 (i21 - (1 : Int))) 1 fun (b23 b24 : Nat) =>
                          ∃ (i25 : Int),
                            cellsAt h22 b23 b24 [Lf.int IntKind.u64 i25] ∧
                              IxC a0 i21 1 fun (b26 b27 : Nat) =>
                                ∃ (i28 : Int),
                                  cellsAt h22 b26 b27 [Lf.int IntKind.u64 i28] ∧
                                    IxC a0 i21 1 fun (b29 b30 : Nat) =>
                                      StC h22 b29 b30 [Lf.int IntKind.u64 i25] fun (h31 : Heap) =>
                                        IxC a0 (IntKind.wrap IntKind.i64 (i21 - (1 : Int))) 1 fun (b32 b33 : Nat) =>
                                          StC h31 b32 b33 [Lf.int IntKind.u64 i28] fun (h34 : Heap) =>
                                            ∃ (I35 : Heap → Prop),
                                              Br (Decidable.decide (IntKind.wrap IntKind.i64 (i21 - a1) ≥ (2 : Int)))
                                                  (∃ (I36 : Heap → Prop),
                                                    (∃ (I37 : Int → Heap → Nat → Prop),
                                                        (∃ (b38 : Nat), I37 (IntKind.wrap IntKind.i64 (i21 - (1 : Int))) h34 b38) ∧
                                                          ∀ (i39 : Int) (h40 : Heap) (b41 : Nat),
                                                            I37 i39 h40 b41 →
                                                              Br (Decidable.decide (i39 ≥ (1 : Int)))
                                                                (IxC a0 i39 1 fun (b42 b43 : Nat) =>
                                                                  ∃ (i44 : Int),
                                                                    cellsAt h40 b42 b43 [Lf.int IntKind.u64 i44] ∧
                                                                      IxC a0 (IntKind.wrap IntKind.i64 (i39 - (1 : Int))) 1 fun (b45 b46 : Nat) =>
                                                                        ∃ (i47 : Int),
                                                                          cellsAt h40 b45 b46 [Lf.int IntKind.u64 i47] ∧
                                                                            Call Go.Proofs.Try.prog 150
                                                                              [VV.lf (Lf.int IntKind.u64 i44), VV.lf (Lf.int IntKind.u64 i47)] h40 [VT.one LT.bool]
                                                                              fun (c48 : Bool) (h49 : Heap) =>
                                                                              Br (!c48) (I36 h49)
                                                                                (IxC a0 (IntKind.wrap IntKind.i64 (i39 - (1 : Int))) 1 fun (b50 b51 : Nat) =>
                                                                                  ∃ (i52 : Int),
                                                                                    cellsAt h49 b50 b51 [Lf.int IntKind.u64 i52] ∧
                                                                                      IxC a0 i39 1 fun (b53 b54 : Nat) =>
                                                                                        ∃ (i55 : Int),
                                                                                          cellsAt h49 b53 b54 [Lf.int IntKind.u64 i55] ∧
                                                                                            IxC a0 i39 1 fun (b56 b57 : Nat) =>
                                                                                              StC h49 b56 b57 [Lf.int IntKind.u64 i52] fun (h58 : Heap) =>
                                                                                                IxC a0 (IntKind.wrap IntKind.i64 (i39 - (1 : Int))) 1 fun (b59 b60 : Nat) =>
                                                                                                  StC h58 b59 b60 [Lf.int IntKind.u64 i55] fun (h61 : Heap) =>
                                                                                                    ∃ (b62 : Nat), b62 < b41 ∧ I37 (IntKind.wrap IntKind.i64 (i39 - (1 : Int))) h61 b62))
                                                                (I36 h40)) ∧
                                                      ∀ (h63 : Heap), I36 h63 → I35 h63)
                                                  (I35 h34) ∧
                                                ∀ (h64 : Heap),
                                                  I35 h64 →
                                                    Br (Decidable.decide (IntKind.wrap IntKind.i64 (a2 - i21) ≥ (2 : Int)))
                                                      (∃ (I65 : Int → Heap → Nat → Prop),
                                                        (∃ (b66 : Nat), I65 (IntKind.wrap IntKind.i64 (i21 + (1 : Int))) h64 b66) ∧
                                                          ∀ (i67 : Int) (h68 : Heap) (b69 : Nat),
                                                            I65 i67 h68 b69 →
                                                              Br (Decidable.decide (i67 < a2))
                                                                (IxC a0 i67 1 fun (b70 b71 : Nat) =>
                                                                  ∃ (i72 : Int),
                                                                    cellsAt h68 b70 b71 [Lf.int IntKind.u64 i72] ∧
                                                                      IxC a0 (IntKind.wrap IntKind.i64 (i67 - (1 : Int))) 1 fun (b73 b74 : Nat) =>
                                                                        ∃ (i75 : Int),
                                                                          cellsAt h68 b73 b74 [Lf.int IntKind.u64 i75] ∧
                                                                            Call Go.Proofs.Try.prog 150
                                                                              [VV.lf (Lf.int IntKind.u64 i72), VV.lf (Lf.int IntKind.u64 i75)] h68 [VT.one LT.bool]
                                                                              fun (c76 : Bool) (h77 : Heap) =>
                                                                              Br (!c76) (∃ (b78 : Nat), b78 < b5 ∧ I0 i21 (IntKind.wrap IntKind.i64 (i3 + (1 : Int))) h77 b78)
                                                                                (IxC a0 (IntKind.wrap IntKind.i64 (i67 - (1 : Int))) 1 fun (b79 b80 : Nat) =>
                                                                                  ∃ (i81 : Int),
                                                                                    cellsAt h77 b79 b80 [Lf.int IntKind.u64 i81] ∧
                                                                                      IxC a0 i67 1 fun (b82 b83 : Nat) =>
                                                                                        ∃ (i84 : Int),
                                                                                          cellsAt h77 b82 b83 [Lf.int IntKind.u64 i84] ∧
                                                                                            IxC a0 i67 1 fun (b85 b86 : Nat) =>
                                                                                              StC h77 b85 b86 [Lf.int IntKind.u64 i81] fun (h87 : Heap) =>
                                                                                                IxC a0 (IntKind.wrap IntKind.i64 (i67 - (1 : Int))) 1 fun (b88 b89 : Nat) =>
                                                                                                  StC h87 b88 b89 [Lf.int IntKind.u64 i84] fun (h90 : Heap) =>
                                                                                                    ∃ (b91 : Nat), b91 < b69 ∧ I65 (IntKind.wrap IntKind.i64 (i67 + (1 : Int))) h90 b91))
                                                                (∃ (b92 : Nat), b92 < b5 ∧ I0 i21 (IntKind.wrap IntKind.i64 (i3 + (1 : Int))) h68 b92))
                                                      (∃ (b93 : Nat), b93 < b5 ∧ I0 i21 (IntKind.wrap IntKind.i64 (i3 + (1 : Int))) h64 b93))))
            (R Bool.false h4)
theorem eq149 (a0 : Slc) (a1 : Int) (a2 : Int) (h : Heap) (R : Bool → Heap → Prop) : vc149 a0 a1 a2 h R = vcFn Go.Proofs.Try.prog pl149 Go.Proofs.Try.f149 [.lf (.slc a0), .lf (.int .i64 a1), .lf (.int .i64 a2)] h [.one .bool] R := by kernel_rfl
theorem ok149 {a0 : Slc} {a1 : Int} {a2 : Int} {h : Heap} {R : Bool → Heap → Prop} (hv : vc149 a0 a1 a2 h R) : Call Go.Proofs.Try.prog 149 [.lf (.slc a0), .lf (.int .i64 a1), .lf (.int .i64 a2)] h [.one .bool] R := call_eq hng hmix Go.Proofs.Try.func149 (eq149 a0 a1 a2 h R) hv
/- 148: slices.reverseRangeOrdered[uint64] (data, a, b) · loop 2: i, j -/
def pl148 : Plan := {
  blk := fun _ => none
  seq := fun _ => none
  loop := fun | 2 => some ⟨[(6, .one (.int .i64)), (7, .one (.int .i64))], [], []⟩ | _ => none
  live := fun | 0 => some [0, 2, 6] | 1 => some [0, 6, 7] | 2 => some [0, 6, 7, 13] | 3 => some [0, 6, 7] | 4 => some [0, 6, 7] | 5 => some [0, 6, 7] | _ => none
  track := fun | _ => false
  draw := fun | 3 => .still 0 (.still 1 (.still 2 (.still 3 (.still 4 (.still 5 (.still 6 (.still 7 (.still 8 (.still 9 (.still 10 (.still 11 (.still 12 (.mem 13 (.still 14 (.mem 15 (.done)))))))))))))))) | _ => .done
  iter := fun | _ => none }
def vc148 (a0 : Slc) (a1 : Int) (a2 : Int) (h : Heap) (R : Heap → Prop) : Prop :=
  ∃ (I0 : Int → Int → Heap → Nat → Prop),
    (∃ (b1 : Nat), I0 a1 (IntKind.wrap IntKind.i64 (a2 - (1 : Int))) h b1) ∧
      ∀ (i2 i3 : Int) (h4 : Heap) (b5 : Nat),
        I0 i2 i3 h4 b5 →
          Br (Decidable.decide (i2 < i3))
            (IxC a0 i3 1 fun (b6 b7 : Nat) =>
              ∃ (i8 : Int),
                cellsAt h4 b6 b7 [Lf.int IntKind.u64 i8] ∧
                  IxC a0 i2 1 fun (b9 b10 : Nat) =>
                    ∃ (i11 : Int),
                      cellsAt h4 b9 b10 [Lf.int IntKind.u64 i11] ∧
                        IxC a0 i2 1 fun (b12 b13 : Nat) =>
                          StC h4 b12 b13 [Lf.int IntKind.u64 i8] fun (h14 : Heap) =>
                            IxC a0 i3 1 fun (b15 b16 : Nat) =>
                              StC h14 b15 b16 [Lf.int IntKind.u64 i11] fun (h17 : Heap) =>
                                ∃ (b18 : Nat), b18 < b5 ∧ I0 (IntKind.wrap IntKind.i64 (i2 + (1 : Int))) (IntKind.wrap IntKind.i64 (i3 - (1 : Int))) h17 b18)
            (R h4)
theorem eq148 (a0 : Slc) (a1 : Int) (a2 : Int) (h : Heap) (R : Heap → Prop) : vc148 a0 a1 a2 h R = vcFn Go.Proofs.Try.prog pl148 Go.Proofs.Try.f148 [.lf (.slc a0), .lf (.int .i64 a1), .lf (.int .i64 a2)] h [] R := by kernel_rfl
theorem ok148 {a0 : Slc} {a1 : Int} {a2 : Int} {h : Heap} {R : Heap → Prop} (hv : vc148 a0 a1 a2 h R) : Call Go.Proofs.Try.prog 148 [.lf (.slc a0), .lf (.int .i64 a1), .lf (.int .i64 a2)] h [] R := call_eq hng hmix Go.Proofs.Try.func148 (eq148 a0 a1 a2 h R) hv
end Go.V.Yteojmnnobmpdiaa
set_option linter.unusedVariables false
set_option maxRecDepth 100000
namespace Go.V.Yteojmnnobmpdiaa
open Go Go.V
/- 171: slices.order2Ordered[uint64] (data, a, b, swaps) -/
def pl171 : Plan := {
  blk := fun _ => none
  seq := fun _ => none
  loop := fun _ => none
  live := fun | 0 => some [0, 1, 2, 3] | 1 => some [1, 2, 3, 18] | 2 => some [1, 2] | 3 => some [8, 9] | 4 => some [8, 9] | _ => none
  track := fun | _ => false
  draw := fun | 1 => .still 0 (.still 1 (.still 2 (.still 3 (.still 4 (.still 5 (.still 6 (.still 7 (.mem 8 (.done))))))))) | _ => .done
  iter := fun | _ => none }
def vc171 (a0 : Slc) (a1 : Int) (a2 : Int) (a3 : Option (Nat × Nat)) (h : Heap) (R : Int → Int → Heap → Prop) : Prop :=
  IxC a0 a2 1 fun (b0 b1 : Nat) =>
    ∃ (i2 : Int),
      cellsAt h b0 b1 [Lf.int IntKind.u64 i2] ∧
        IxC a0 a1 1 fun (b3 b4 : Nat) =>
          ∃ (i5 : Int),
            cellsAt h b3 b4 [Lf.int IntKind.u64 i5] ∧
              Call Go.Proofs.Try.prog 150 [VV.lf (Lf.int IntKind.u64 i2), VV.lf (Lf.int IntKind.u64 i5)] h [VT.one LT.bool]
                fun (c6 : Bool) (h7 : Heap) =>
                Br c6
                  (NilC a3 fun (b8 b9 : Nat) =>
                    ∃ (i10 : Int),
                      cellsAt h7 b8 b9 [Lf.int IntKind.i64 i10] ∧
                        NilC a3 fun (b11 b12 : Nat) => StC h7 b11 b12 [Lf.int IntKind.i64 (IntKind.wrap IntKind.i64 (i10 + (1 : Int)))] fun (h13 : Heap) => R a2 a1 h13)
                  (R a1 a2 h7)
theorem eq171 (a0 : Slc) (a1 : Int) (a2 : Int) (a3 : Option (Nat × Nat)) (h : Heap) (R : Int → Int → Heap → Prop) : vc171 a0 a1 a2 a3 h R = vcFn Go.Proofs.Try.prog pl171 Go.Proofs.Try.f171 [.lf (.slc a0), .lf (.int .i64 a1), .lf (.int .i64 a2), .lf (.ptr a3)] h [.one (.int .i64), .one (.int .i64)] R := by kernel_rfl
theorem ok171 {a0 : Slc} {a1 : Int} {a2 : Int} {a3 : Option (Nat × Nat)} {h : Heap} {R : Int → Int → Heap → Prop} (hv : vc171 a0 a1 a2 a3 h R) : Call Go.Proofs.Try.prog 171 [.lf (.slc a0), .lf (.int .i64 a1), .lf (.int .i64 a2), .lf (.ptr a3)] h [.one (.int .i64), .one (.int .i64)] R := call_eq hng hmix Go.Proofs.Try.func171 (eq171 a0 a1 a2 a3 h R) hv
/- 168: slices.medianOrdered[uint64] (data, a, b, c, swaps) -/
def pl168 : Plan := {
  blk := fun _ => none
  seq := fun _ => none
  loop := fun _ => none
  live := fun | 0 => some [0, 1, 2, 3, 4] | 1 => some [0, 1, 2, 3, 4] | 2 => some [0, 1, 2, 4] | 3 => some [2] | 4 => some [10] | _ => none
  track := fun | _ => false
  draw := fun | _ => .done
  iter := fun | _ => none }
def vc168 (a0 : Slc) (a1 : Int) (a2 : Int) (a3 : Int) (a4 : Option (Nat × Nat)) (h : Heap) (R : Int → Heap → Prop) : Prop :=
  Call Go.Proofs.Try.prog 171 [VV.lf (Lf.slc a0), VV.lf (Lf.int IntKind.i64 a1), VV.lf (Lf.int IntKind.i64 a2), VV.lf (Lf.ptr a4)] h
    [VT.one (LT.int IntKind.i64), VT.one (LT.int IntKind.i64)] fun (i0 i1 : Int) (h2 : Heap) =>
    Call Go.Proofs.Try.prog 171 [VV.lf (Lf.slc a0), VV.lf (Lf.int IntKind.i64 i1), VV.lf (Lf.int IntKind.i64 a3), VV.lf (Lf.ptr a4)] h2
      [VT.one (LT.int IntKind.i64), VT.one (LT.int IntKind.i64)] fun (i3 i4 : Int) (h5 : Heap) =>
      Call Go.Proofs.Try.prog 171 [VV.lf (Lf.slc a0), VV.lf (Lf.int IntKind.i64 i0), VV.lf (Lf.int IntKind.i64 i3), VV.lf (Lf.ptr a4)] h5
        [VT.one (LT.int IntKind.i64), VT.one (LT.int IntKind.i64)] fun (i6 i7 : Int) (h8 : Heap) => R i7 h8
theorem eq168 (a0 : Slc) (a1 : Int) (a2 : Int) (a3 : Int) (a4 : Option (Nat × Nat)) (h : Heap) (R : Int → Heap → Prop) : vc168 a0 a1 a2 a3 a4 h R = vcFn Go.Proofs.Try.prog pl168 Go.Proofs.Try.f168 [.lf (.slc a0), .lf (.int .i64 a1), .lf (.int .i64 a2), .lf (.int .i64 a3), .lf (.ptr a4)] h [.one (.int .i64)] R := by kernel_rfl
theorem ok168 {a0 : Slc} {a1 : Int} {a2 : Int} {a3 : Int} {a4 : Option (Nat × Nat)} {h : Heap} {R : Int → Heap → Prop} (hv : vc168 a0 a1 a2 a3 a4 h R) : Call Go.Proofs.Try.prog 168 [.lf (.slc a0), .lf (.int .i64 a1), .lf (.int .i64 a2), .lf (.int .i64 a3), .lf (.ptr a4)] h [.one (.int .i64)] R := call_eq hng hmix Go.Proofs.Try.func168 (eq168 a0 a1 a2 a3 a4 h R) hv
/- 167: slices.medianAdjacentOrdered[uint64] (data, a, swaps) -/
def pl167 : Plan := {
  blk := fun _ => none
  seq := fun _ => none
  loop := fun _ => none
  live := fun | 0 => some [0, 1, 2] | 1 => some [6] | _ => none
  track := fun | _ => false
  draw := fun | _ => .done
  iter := fun | _ => none }
def vc167 (a0 : Slc) (a1 : Int) (a2 : Option (Nat × Nat)) (h : Heap) (R : Int → Heap → Prop) : Prop :=
  Call Go.Proofs.Try.prog 168
    [VV.lf (Lf.slc a0), VV.lf (Lf.int IntKind.i64 (IntKind.wrap IntKind.i64 (a1 - (1 : Int)))), VV.lf (Lf.int IntKind.i64 a1),
      VV.lf (Lf.int IntKind.i64 (IntKind.wrap IntKind.i64 (a1 + (1 : Int)))), VV.lf (Lf.ptr a2)]
    h [VT.one (LT.int IntKind.i64)] fun (i0 : Int) (h1 : Heap) => R i0 h1
theorem eq167 (a0 : Slc) (a1 : Int) (a2 : Option (Nat × Nat)) (h : Heap) (R : Int → Heap → Prop) : vc167 a0 a1 a2 h R = vcFn Go.Proofs.Try.prog pl167 Go.Proofs.Try.f167 [.lf (.slc a0), .lf (.int .i64 a1), .lf (.ptr a2)] h [.one (.int .i64)] R := by kernel_rfl
theorem ok167 {a0 : Slc} {a1 : Int} {a2 : Option (Nat × Nat)} {h : Heap} {R : Int → Heap → Prop} (hv : vc167 a0 a1 a2 h R) : Call Go.Proofs.Try.prog 167 [.lf (.slc a0), .lf (.int .i64 a1), .lf (.ptr a2)] h [.one (.int .i64)] R := call_eq hng hmix Go.Proofs.Try.func167 (eq167 a0 a1 a2 h R) hv
/- 147: slices.choosePivotOrdered[uint64] (data, a, b) · seq 11: i, j, k -/
def pl147 : Plan := {
  blk := fun _ => none
  seq := fun | 11 => some ⟨[(10, .one (.int .i64)), (11, .one (.int .i64)), (12, .one (.int .i64))], [], []⟩ | _ => none
  loop := fun _ => none
  live := fun | 0 => some [0, 1, 2] | 1 => some [0, 1, 8] | 2 => some [0, 1, 8, 9] | 3 => some [0, 1, 8, 9, 10] | 4 => some [0, 1, 8, 9, 10, 11] | 5 => some [0, 8, 9, 10, 11, 12] | 6 => some [0, 8, 9, 10, 11, 12, 32] | 7 => some [0, 9, 10, 11, 12, 34] | 8 => some [0, 9, 10, 11, 12] | 9 => some [0, 9, 10, 11, 12] | 10 => some [0, 9, 10, 11, 12] | 11 => some [9, 11] | 12 => some [11, 49] | 13 => some [6, 7] | 14 => some [11, 49, 51] | 15 => some [6, 7] | 16 => some [11, 54] | 17 => some [6, 7] | _ => none
  track := fun | _ => false
  draw := fun | _ => .done
  iter := fun | _ => none }
def vc147 (a0 : Slc) (a1 : Int) (a2 : Int) (h : Heap) (R : Int → Int → Heap → Prop) : Prop :=
  New 3 [Lf.int IntKind.i64 (0 : Int)] h fun (b0 : Nat) (h1 : Heap) =>
    ((4 : Int) = (0 : Int) → False) ∧
      ((4 : Int) = (0 : Int) → False) ∧
        ((4 : Int) = (0 : Int) → False) ∧
          Br (Decidable.decide (IntKind.wrap IntKind.i64 (a2 - a1) ≥ (8 : Int)))
            (∃ (I2 : Int → Int → Int → Heap → Prop),
              Br (Decidable.decide (IntKind.wrap IntKind.i64 (a2 - a1) ≥ (50 : Int)))
                  (Call Go.Proofs.Try.prog 167
                    [VV.lf (Lf.slc a0),
                      VV.lf
                        (Lf.int IntKind.i64
                          (IntKind.wrap IntKind.i64
                            (a1 + IntKind.wrap IntKind.i64 (IntKind.wrap IntKind.i64 (Int.tdiv (IntKind.wrap IntKind.i64 (a2 - a1)) (4 : Int)) * (1 : Int))))),
                      VV.lf (Lf.ptr (Option.some (b0, 0)))]
                    h1 [VT.one (LT.int IntKind.i64)] fun (i3 : Int) (h4 : Heap) =>
                    Call Go.Proofs.Try.prog 167
                      [VV.lf (Lf.slc a0),
                        VV.lf
                          (Lf.int IntKind.i64
                            (IntKind.wrap IntKind.i64
                              (a1 + IntKind.wrap IntKind.i64 (IntKind.wrap IntKind.i64 (Int.tdiv (IntKind.wrap IntKind.i64 (a2 - a1)) (4 : Int)) * (2 : Int))))),
                        VV.lf (Lf.ptr (Option.some (b0, 0)))]
                      h4 [VT.one (LT.int IntKind.i64)] fun (i5 : Int) (h6 : Heap) =>
                      Call Go.Proofs.Try.prog 167
                        [VV.lf (Lf.slc a0),
                          VV.lf
                            (Lf.int IntKind.i64
                              (IntKind.wrap IntKind.i64
                                (a1 + IntKind.wrap IntKind.i64 (IntKind.wrap IntKind.i64 (Int.tdiv (IntKind.wrap IntKind.i64 (a2 - a1)) (4 : Int)) * (3 : Int))))),
                          VV.lf (Lf.ptr (Option.some (b0, 0)))]
                        h6 [VT.one (LT.int IntKind.i64)] fun (i7 : Int) (h8 : Heap) => I2 i3 i5 i7 h8)
                  (I2 (IntKind.wrap IntKind.i64 (a1 + IntKind.wrap IntKind.i64 (IntKind.wrap IntKind.i64 (Int.tdiv (IntKind.wrap IntKind.i64 (a2 - a1)) (4 : Int)) * (1 : Int))))
                    (IntKind.wrap IntKind.i64 (a1 + IntKind.wrap IntKind.i64 (IntKind.wrap IntKind.i64 (Int.tdiv (IntKind.wrap IntKind.i64 (a2 - a1)) (4 : Int)) * (2 : Int))))
                    (IntKind.wrap IntKind.i64 (a1 + IntKind.wrap IntKind.i64 (IntKind.wrap IntKind.i64 (Int.tdiv (IntKind.wrap IntKind.i64 (a2 - a1)) (4 : Int)) * (3 : Int))))
                    h1) ∧
                ∀ (i9 i10 i11 : Int) (h12 : Heap),
                  I2 i9 i10 i11 h12 →
                    Call Go.Proofs.Try.prog 168
                      [VV.lf (Lf.slc a0), VV.lf (Lf.int IntKind.i64 i9), VV.lf (Lf.int IntKind.i64 i10), VV.lf (Lf.int IntKind.i64 i11),
                        VV.lf (Lf.ptr (Option.some (b0, 0)))]
                      h12 [VT.one (LT.int IntKind.i64)] fun (i13 : Int) (h14 : Heap) =>
                      ∃ (i15 : Int),
                        cellsAt h14 b0 0 [Lf.int IntKind.i64 i15] ∧
                          Br (i15 == (0 : Int)) (R i13 (1 : Int) h14) (Br (i15 == (12 : Int)) (R i13 (2 : Int) h14) (R i13 (0 : Int) h14)))
            (∃ (i16 : Int),
              cellsAt h1 b0 0 [Lf.int IntKind.i64 i16] ∧
                Br (i16 == (0 : Int))
                  (R (IntKind.wrap IntKind.i64 (a1 + IntKind.wrap IntKind.i64 (IntKind.wrap IntKind.i64 (Int.tdiv (IntKind.wrap IntKind.i64 (a2 - a1)) (4 : Int)) * (2 : Int))))
                    (1 : Int) h1)
                  (Br (i16 == (12 : Int))
                    (R (IntKind.wrap IntKind.i64 (a1 + IntKind.wrap IntKind.i64 (IntKind.wrap IntKind.i64 (Int.tdiv (IntKind.wrap IntKind.i64 (a2 - a1)) (4 : Int)) * (2 : Int))))
                      (2 : Int) h1)
                    (R (IntKind.wrap IntKind.i64 (a1 + IntKind.wrap IntKind.i64 (IntKind.wrap IntKind.i64 (Int.tdiv (IntKind.wrap IntKind.i64 (a2 - a1)) (4 : Int)) * (2 : Int))))
                      (0 : Int) h1)))
theorem eq147 (a0 : Slc) (a1 : Int) (a2 : Int) (h : Heap) (R : Int → Int → Heap → Prop) : vc147 a0 a1 a2 h R = vcFn Go.Proofs.Try.prog pl147 Go.Proofs.Try.f147 [.lf (.slc a0), .lf (.int .i64 a1), .lf (.int .i64 a2)] h [.one (.int .i64), .one (.int .i64)] R := by kernel_rfl
theorem ok147 {a0 : Slc} {a1 : Int} {a2 : Int} {h : Heap} {R : Int → Int → Heap → Prop} (hv : vc147 a0 a1 a2 h R) : Call Go.Proofs.Try.prog 147 [.lf (.slc a0), .lf (.int .i64 a1), .lf (.int .i64 a2)] h [.one (.int .i64), .one (.int .i64)] R := call_eq hng hmix Go.Proofs.Try.func147 (eq147 a0 a1 a2 h R) hv
/- 165: slices.nextPowerOfTwo (length) -/
def pl165 : Plan := {
  blk := fun _ => none
  seq := fun _ => none
  loop := fun _ => none
  live := fun | 0 => some [0] | 1 => some [2] | _ => none
  track := fun | _ => false
  draw := fun | _ => .done
  iter := fun | _ => none }
def vc165 (a0 : Int) (h : Heap) (R : Int → Heap → Prop) : Prop :=
  Call Go.Proofs.Try.prog 127 [VV.lf (Lf.int IntKind.u64 (IntKind.wrap IntKind.u64 a0))] h [VT.one (LT.int IntKind.i64)]
    fun (i0 : Int) (h1 : Heap) => (0 : Int) ≤ i0 ∧ R (shiftL IntKind.u64 (1 : Int) i0) h1
theorem eq165 (a0 : Int) (h : Heap) (R : Int → Heap → Prop) : vc165 a0 h R = vcFn Go.Proofs.Try.prog pl165 Go.Proofs.Try.f165 [.lf (.int .i64 a0)] h [.one (.int .u64)] R := by kernel_rfl
theorem ok165 {a0 : Int} {h : Heap} {R : Int → Heap → Prop} (hv : vc165 a0 h R) : Call Go.Proofs.Try.prog 165 [.lf (.int .i64 a0)] h [.one (.int .u64)] R := call_eq hng hmix Go.Proofs.Try.func165 (eq165 a0 h R) hv
/- 166: (*slices.xorshift).Next (r) -/
def pl166 : Plan := {
  blk := fun _ => none
  seq := fun _ => none
  loop := fun _ => none
  live := fun | 0 => some [0] | 1 => some [0] | 2 => some [0] | 3 => some [0] | 4 => some [2] | _ => none
  track := fun | _ => false
  draw := fun | 1 => .still 0 (.still 1 (.still 2 (.still 3 (.still 4 (.still 5 (.still 6 (.still 7 (.still 8 (.mem 9 (.done)))))))))) | 2 => .still 0 (.still 1 (.still 2 (.still 3 (.still 4 (.still 5 (.still 6 (.still 7 (.still 8 (.mem 9 (.done)))))))))) | 3 => .still 0 (.still 1 (.still 2 (.still 3 (.still 4 (.still 5 (.still 6 (.still 7 (.still 8 (.mem 9 (.done)))))))))) | _ => .done
  iter := fun | _ => none }
def vc166 (a0 : Option (Nat × Nat)) (h : Heap) (R : Int → Heap → Prop) : Prop :=
  NilC a0 fun (b0 b1 : Nat) =>
    ∃ (i2 : Int),
      cellsAt h b0 b1 [Lf.int IntKind.u64 i2] ∧
        NilC a0 fun (b3 b4 : Nat) =>
          ∃ (i5 : Int),
            cellsAt h b3 b4 [Lf.int IntKind.u64 i5] ∧
              (0 : Int) ≤ (13 : Int) ∧
                NilC a0 fun (b6 b7 : Nat) =>
                  StC h b6 b7 [Lf.int IntKind.u64 (bitop IntKind.u64 BinOp.xor i2 (shiftL IntKind.u64 i5 (13 : Int)))] fun (h8 : Heap) =>
                    NilC a0 fun (b9 b10 : Nat) =>
                      ∃ (i11 : Int),
                        cellsAt h8 b9 b10 [Lf.int IntKind.u64 i11] ∧
                          NilC a0 fun (b12 b13 : Nat) =>
                            ∃ (i14 : Int),
                              cellsAt h8 b12 b13 [Lf.int IntKind.u64 i14] ∧
                                (0 : Int) ≤ (7 : Int) ∧
                                  NilC a0 fun (b15 b16 : Nat) =>
                                    StC h8 b15 b16 [Lf.int IntKind.u64 (bitop IntKind.u64 BinOp.xor i11 (shiftR IntKind.u64 i14 (7 : Int)))] fun (h17 : Heap) =>
                                      NilC a0 fun (b18 b19 : Nat) =>
                                        ∃ (i20 : Int),
                                          cellsAt h17 b18 b19 [Lf.int IntKind.u64 i20] ∧
                                            NilC a0 fun (b21 b22 : Nat) =>
                                              ∃ (i23 : Int),
                                                cellsAt h17 b21 b22 [Lf.int IntKind.u64 i23] ∧
                                                  (0 : Int) ≤ (17 : Int) ∧
                                                    NilC a0 fun (b24 b25 : Nat) =>
                                                      StC h17 b24 b25 [Lf.int IntKind.u64 (bitop IntKind.u64 BinOp.xor i20 (shiftL IntKind.u64 i23 (17 : Int)))]
                                                        fun (h26 : Heap) =>
                                                        NilC a0 fun (b27 b28 : Nat) => ∃ (i29 : Int), cellsAt h26 b27 b28 [Lf.int IntKind.u64 i29] ∧ R i29 h26
theorem eq166 (a0 : Option (Nat × Nat)) (h : Heap) (R : Int → Heap → Prop) : vc166 a0 h R = vcFn Go.Proofs.Try.prog pl166 Go.Proofs.Try.f166 [.lf (.ptr a0)] h [.one (.int .u64)] R := by kernel_rfl
theorem ok166 {a0 : Option (Nat × Nat)} {h : Heap} {R : Int → Heap → Prop} (hv : vc166 a0 h R) : Call Go.Proofs.Try.prog 166 [.lf (.ptr a0)] h [.one (.int .u64)] R := call_eq hng hmix Go.Proofs.Try.func166 (eq166 a0 h R) hv
/- 146: slices.breakPatternsOrdered[uint64] () · seq 10: #10 · loop 5: #9 -/
def pl146 : Plan := {
  blk := fun _ => none
  seq := fun | 10 => some ⟨[(10, .one (.int .i64))], [], []⟩ | _ => none
  loop := fun | 5 => some ⟨[(9, .one (.int .i64))], [], []⟩ | _ => none
  live := fun | 0 => some [0, 1, 6] | 1 => some [0, 1, 6, 15] | 2 => some [0, 1, 6, 7] | 3 => some [0, 1, 6, 7, 8] | 4 => some [0, 1, 6, 7, 8, 9] | 5 => some [0, 1, 6, 7, 8, 9, 33] | 6 => some [0, 1, 6, 7, 8, 9] | 7 => some [0, 1, 6, 7, 8, 9, 10] | 8 => some [0, 1, 6, 7, 8, 9, 10, 43] | 9 => some [0, 1, 6, 7, 8, 9, 10] | 10 => some [0, 1, 6, 7, 8, 9] | _ => none
  track := fun | _ => false
  draw := fun | 10 => .still 0 (.still 1 (.still 2 (.still 3 (.still 4 (.still 5 (.still 6 (.still 7 (.still 8 (.still 9 (.still 10 (.still 11 (.still 12 (.still 13 (.still 14 (.still 15 (.still 16 (.mem 17 (.still 18 (.mem 19 (.done)))))))))))))))))))) | _ => .done
  iter := fun | _ => none }
def vc146 (a0 : Slc) (a1 : Int) (a2 : Int) (h : Heap) (R : Heap → Prop) : Prop :=
  Br (Decidable.decide (IntKind.wrap IntKind.i64 (a2 - a1) ≥ (8 : Int)))
    (New 224 [Lf.int IntKind.u64 (0 : Int)] h fun (b0 : Nat) (h1 : Heap) =>
      StC h1 b0 0 [Lf.int IntKind.u64 (IntKind.wrap IntKind.u64 (IntKind.wrap IntKind.i64 (a2 - a1)))] fun (h2 : Heap) =>
        Call Go.Proofs.Try.prog 165 [VV.lf (Lf.int IntKind.i64 (IntKind.wrap IntKind.i64 (a2 - a1)))] h2 [VT.one (LT.int IntKind.u64)]
          fun (i3 : Int) (h4 : Heap) =>
          ((4 : Int) = (0 : Int) → False) ∧
            ∃ (I5 : Int → Heap → Nat → Prop),
              (∃ (b6 : Nat),
                  I5
                    (IntKind.wrap IntKind.i64
                      (IntKind.wrap IntKind.i64 (a1 + IntKind.wrap IntKind.i64 (IntKind.wrap IntKind.i64 (Int.tdiv (IntKind.wrap IntKind.i64 (a2 - a1)) (4 : Int)) * (2 : Int))) -
                        (1 : Int)))
                    h4 b6) ∧
                ∀ (i7 : Int) (h8 : Heap) (b9 : Nat),
                  I5 i7 h8 b9 →
                    ((4 : Int) = (0 : Int) → False) ∧
                      Br
                        (Decidable.decide
                          (i7 ≤
                            IntKind.wrap IntKind.i64
                              (IntKind.wrap IntKind.i64
                                  (a1 + IntKind.wrap IntKind.i64 (IntKind.wrap IntKind.i64 (Int.tdiv (IntKind.wrap IntKind.i64 (a2 - a1)) (4 : Int)) * (2 : Int))) +
                                (1 : Int))))
                        (Call Go.Proofs.Try.prog 166 [VV.lf (Lf.ptr (Option.some (b0, 0)))] h8 [VT.one (LT.int IntKind.u64)]
                          fun (i10 : Int) (h11 : Heap) =>
                          ∃ (I12 : Int → Heap → Prop),
                            Br
                                (Decidable.decide
                                  (IntKind.wrap IntKind.i64 (bitop IntKind.u64 BinOp.and i10 (IntKind.wrap IntKind.u64 (i3 - (1 : Int)))) ≥
                                    IntKind.wrap IntKind.i64 (a2 - a1)))
                                (I12
                                  (IntKind.wrap IntKind.i64
                                    (IntKind.wrap IntKind.i64 (bitop IntKind.u64 BinOp.and i10 (IntKind.wrap IntKind.u64 (i3 - (1 : Int)))) -
                                      IntKind.wrap IntKind.i64 (a2 - a1)))
                                  h11)
                                (I12 (IntKind.wrap IntKind.i64 (bitop IntKind.u64 BinOp.and i10 (IntKind.wrap IntKind.u64 (i3 - (1 : Int))))) h11) ∧
                              ∀ (i13 : Int) (h14 : Heap),
                                I12 i13 h14 →
                                  IxC a0 (IntKind.wrap IntKind.i64 (a1 + i13)) 1 fun (b15 b16 : Nat) =>
                                    ∃ (i17 : Int),
                                      cellsAt h14 b15 b16 [Lf.int IntKind.u64 i17] ∧
                                        IxC a0 i7 1 fun (b18 b19 : Nat) =>
                                          ∃ (i20 : Int),
                                            cellsAt h14 b18 b19 [Lf.int IntKind.u64 i20] ∧
                                              IxC a0 i7 1 fun (b21 b22 : Nat) =>
                                                StC h14 b21 b22 [Lf.int IntKind.u64 i17] fun (h23 : Heap) =>
                                                  IxC a0 (IntKind.wrap IntKind.i64 (a1 + i13)) 1 fun (b24 b25 : Nat) =>
                                                    StC h23 b24 b25 [Lf.int IntKind.u64 i20] fun (h26 : Heap) =>
                                                      ∃ (b27 : Nat), b27 < b9 ∧ I5 (IntKind.wrap IntKind.i64 (i7 + (1 : Int))) h26 b27)
                        (R h8))
    (R h)
theorem eq146 (a0 : Slc) (a1 : Int) (a2 : Int) (h : Heap) (R : Heap → Prop) : vc146 a0 a1 a2 h R = vcFn Go.Proofs.Try.prog pl146 Go.Proofs.Try.f146 [.lf (.slc a0), .lf (.int .i64 a1), .lf (.int .i64 a2)] h [] R := by kernel_rfl
theorem ok146 {a0 : Slc} {a1 : Int} {a2 : Int} {h : Heap} {R : Heap → Prop} (hv : vc146 a0 a1 a2 h R) : Call Go.Proofs.Try.prog 146 [.lf (.slc a0), .lf (.int .i64 a1), .lf (.int .i64 a2)] h [] R := call_eq hng hmix Go.Proofs.Try.func146 (eq146 a0 a1 a2 h R) hv
/- 153: math.bits.Len32 (x) · seq 4: x, n -/
def pl153 : Plan := {
  blk := fun _ => none
  seq := fun | 4 => some ⟨[(0, .one (.int .u32)), (2, .one (.int .i64))], [], []⟩ | _ => none
  loop := fun _ => none
  live := fun | 0 => some [0, 2] | 1 => some [0, 2, 4] | 2 => some [0] | 3 => some [0, 2] | 4 => some [0, 2, 8] | 5 => some [0, 2] | 6 => some [0, 2] | 7 => some [2] | _ => none
  track := fun | _ => false
  draw := fun | _ => .done
  iter := fun | _ => none }
def vc153 (a0 : Int) (h : Heap) (R : Int → Heap → Prop) : Prop :=
  ∃ (I0 : Int → Int → Heap → Prop),
    Br (Decidable.decide (a0 ≥ (65536 : Int))) ((0 : Int) ≤ (16 : Int) ∧ I0 (shiftR IntKind.u32 a0 (16 : Int)) (16 : Int) h) (I0 a0 (0 : Int) h) ∧
      ∀ (i1 i2 : Int) (h3 : Heap),
        I0 i1 i2 h3 →
          Br (Decidable.decide (i1 ≥ (256 : Int)))
            ((0 : Int) ≤ (8 : Int) ∧
              (0 : Int) ≤ IntKind.wrap IntKind.u8 (shiftR IntKind.u32 i1 (8 : Int)) ∧
                IntKind.wrap IntKind.u8 (shiftR IntKind.u32 i1 (8 : Int)) < (↑256 : Int) ∧
                  R
                    (IntKind.wrap IntKind.i64
                      (IntKind.wrap IntKind.i64 (i2 + (8 : Int)) +
                        IntKind.wrap IntKind.i64
                          (bt
                            (ByteArray.mk
                              #[(0 : UInt8), (1 : UInt8), (2 : UInt8), (2 : UInt8), (3 : UInt8), (3 : UInt8), (3 : UInt8), (3 : UInt8), (4 : UInt8), (4 : UInt8), (4 : UInt8), (4 : UInt8), (4 : UInt8),
                                (4 : UInt8), (4 : UInt8), (4 : UInt8), (5 : UInt8), (5 : UInt8), (5 : UInt8), (5 : UInt8), (5 : UInt8), (5 : UInt8), (5 : UInt8), (5 : UInt8), (5 : UInt8), (5 : UInt8),
                                (5 : UInt8), (5 : UInt8), (5 : UInt8), (5 : UInt8), (5 : UInt8), (5 : UInt8), (6 : UInt8), (6 : UInt8), (6 : UInt8), (6 : UInt8), (6 : UInt8), (6 : UInt8), (6 : UInt8),
                                (6 : UInt8), (6 : UInt8), (6 : UInt8), (6 : UInt8), (6 : UInt8), (6 : UInt8), (6 : UInt8), (6 : UInt8), (6 : UInt8), (6 : UInt8), (6 : UInt8), (6 : UInt8), (6 : UInt8),
                                (6 : UInt8), (6 : UInt8), (6 : UInt8), (6 : UInt8), (6 : UInt8), (6 : UInt8), (6 : UInt8), (6 : UInt8), (6 : UInt8), (6 : UInt8), (6 : UInt8), (6 : UInt8), (7 : UInt8),
                                (7 : UInt8), (7 : UInt8), (7 : UInt8), (7 : UInt8), (7 : UInt8), (7 : UInt8), (7 : UInt8), (7 : UInt8), (7 : UInt8), (7 : UInt8), (7 : UInt8), (7 : UInt8), (7 : UInt8),
                                (7 : UInt8), (7 : UInt8), (7 : UInt8), (7 : UInt8), (7 : UInt8), (7 : UInt8), (7 : UInt8), (7 : UInt8), (7 : UInt8), (7 : UInt8), (7 : UInt8), (7 : UInt8), (7 : UInt8),
                                (7 : UInt8), (7 : UInt8), (7 : UInt8), (7 : UInt8), (7 : UInt8), (7 : UInt8), (7 : UInt8), (7 : UInt8), (7 : UInt8), (7 : UInt8), (7 : UInt8), (7 : UInt8), (7 : UInt8),
                                (7 : UInt8), (7 : UInt8), (7 : UInt8), (7 : UInt8), (7 : UInt8), (7 : UInt8), (7 : UInt8), (7 : UInt8), (7 : UInt8), (7 : UInt8), (7 : UInt8), (7 : UInt8), (7 : UInt8),
                                (7 : UInt8), (7 : UInt8), (7 : UInt8), (7 : UInt8), (7 : UInt8), (7 : UInt8), (7 : UInt8), (7 : UInt8), (7 : UInt8), (7 : UInt8), (7 : UInt8), (8 : UInt8), (8 : UInt8),
                                (8 : UInt8), (8 : UInt8), (8 : UInt8), (8 : UInt8), (8 : UInt8), (8 : UInt8), (8 : UInt8), (8 : UInt8), (8 : UInt8), (8 : UInt8), (8 : UInt8), (8 : UInt8), (8 : UInt8),
                                (8 : UInt8), (8 : UInt8), (8 : UInt8), (8 : UInt8), (8 : UInt8), (8 : UInt8), (8 : UInt8), (8 : UInt8), (8 : UInt8), (8 : UInt8), (8 : UInt8), (8 : UInt8), (8 : UInt8),
                                (8 : UInt8), (8 : UInt8), (8 : UInt8), (8 : UInt8), (8 : UInt8), (8 : UInt8), (8 : UInt8), (8 : UInt8), (8 : UInt8), (8 : UInt8), (8 : UInt8), (8 : UInt8), (8 : UInt8),
                                (8 : UInt8), (8 : UInt8), (8 : UInt8), (8 : UInt8), (8 : UInt8), (8 : UInt8), (8 : UInt8), (8 : UInt8), (8 : UInt8), (8 : UInt8), (8 : UInt8), (8 : UInt8), (8 : UInt8),
                                (8 : UInt8), (8 : UInt8), (8 : UInt8), (8 : UInt8), (8 : UInt8), (8 : UInt8), (8 : UInt8), (8 : UInt8), (8 : UInt8), (8 : UInt8), (8 : UInt8), (8 : UInt8), (8 : UInt8),
                                (8 : UInt8), (8 : UInt8), (8 : UInt8), (8 : UInt8), (8 : UInt8), (8 : UInt8), (8 : UInt8), (8 : UInt8), (8 : UInt8), (8 : UInt8), (8 : UInt8), (8 : UInt8), (8 : UInt8),
                                (8 : UInt8), (8 : UInt8), (8 : UInt8), (8 : UInt8), (8 : UInt8), (8 : UInt8), (8 : UInt8), (8 : UInt8), (8 : UInt8), (8 : UInt8), (8 : UInt8), (8 : UInt8), (8 : UInt8),
                                (8 : UInt8), (8 : UInt8), (8 : UInt8), (8 : UInt8), (8 : UInt8), (8 : UInt8), (8 : UInt8), (8 : UInt8), (8 : UInt8), (8 : UInt8), (8 : UInt8), (8 : UInt8), (8 : UInt8),
                                (8 : UInt8), (8 : UInt8), (8 : UInt8), (8 : UInt8), (8 : UInt8), (8 : UInt8), (8 : UInt8), (8 : UInt8), (8 : UInt8), (8 : UInt8), (8 : UInt8), (8 : UInt8), (8 : UInt8),
                                (8 : UInt8), (8 : UInt8), (8 : UInt8), (8 : UInt8), (8 : UInt8), (8 : UInt8), (8 : UInt8), (8 : UInt8), (8 : UInt8)])
                            (IntKind.wrap IntKind.u8 (shiftR IntKind.u32 i1 (8 : Int))))))
                    h3)
            ((0 : Int) ≤ IntKind.wrap IntKind.u8 i1 ∧
              IntKind.wrap IntKind.u8 i1 < (↑256 : Int) ∧
                R
                  (IntKind.wrap IntKind.i64
                    (i2 +
                      IntKind.wrap IntKind.i64
                        (bt
                          (ByteArray.mk
                            #[(0 : UInt8), (1 : UInt8), (2 : UInt8), (2 : UInt8), (3 : UInt8), (3 : UInt8), (3 : UInt8), (3 : UInt8), (4 : UInt8), (4 : UInt8), (4 : UInt8), (4 : UInt8), (4 : UInt8),
                              (4 : UInt8), (4 : UInt8), (4 : UInt8), (5 : UInt8), (5 : UInt8), (5 : UInt8), (5 : UInt8), (5 : UInt8), (5 : UInt8), (5 : UInt8), (5 : UInt8), (5 : UInt8), (5 : UInt8),
                              (5 : UInt8), (5 : UInt8), (5 : UInt8), (5 : UInt8), (5 : UInt8), (5 : UInt8), (6 : UInt8), (6 : UInt8), (6 : UInt8), (6 : UInt8), (6 : UInt8), (6 : UInt8), (6 : UInt8),
                              (6 : UInt8), (6 : UInt8), (6 : UInt8), (6 : UInt8), (6 : UInt8), (6 : UInt8), (6 : UInt8), (6 : UInt8), (6 : UInt8), (6 : UInt8), (6 : UInt8), (6 : UInt8), (6 : UInt8),
                              (6 : UInt8), (6 : UInt8), (6 : UInt8), (6 : UInt8), (6 : UInt8), (6 : UInt8), (6 : UInt8), (6 : UInt8), (6 : UInt8), (6 : UInt8), (6 : UInt8), (6 : UInt8), (7 : UInt8),
                              (7 : UInt8), (7 : UInt8), (7 : UInt8), (7 : UInt8), (7 : UInt8), (7 : UInt8), (7 : UInt8), (7 : UInt8), (7 : UInt8), (7 : UInt8), (7 : UInt8), (7 : UInt8), (7 : UInt8),
                              (7 : UInt8), (7 : UInt8), (7 : UInt8), (7 : UInt8), (7 : UInt8), (7 : UInt8), (7 : UInt8), (7 : UInt8), (7 : UInt8), (7 : UInt8), (7 : UInt8), (7 : UInt8), (7 : UInt8),
                              (7 : UInt8), (7 : UInt8), (7 : UInt8), (7 : UInt8), (7 : UInt8), (7 : UInt8), (7 : UInt8), (7 : UInt8), (7 : UInt8), (7 : UInt8), (7 : UInt8), (7 : UInt8), (7 : UInt8),
                              (7 : UInt8), (7 : UInt8), (7 : UInt8), (7 : UInt8), (7 : UInt8), (7 : UInt8), (7 : UInt8), (7 : UInt8), (7 : UInt8), (7 : UInt8), (7 : UInt8), (7 : UInt8), (7 : UInt8),
                              (7 : UInt8), (7 : UInt8), (7 : UInt8), (7 : UInt8), (7 : UInt8), (7 : UInt8), (7 : UInt8), (7 : UInt8), (7 : UInt8), (7 : UInt8), (7 : UInt8), (8 : UInt8), (8 : UInt8),
                              (8 : UInt8), (8 : UInt8), (8 : UInt8), (8 : UInt8), (8 : UInt8), (8 : UInt8), (8 : UInt8), (8 : UInt8), (8 : UInt8), (8 : UInt8), (8 : UInt8), (8 : UInt8), (8 : UInt8),
                              (8 : UInt8), (8 : UInt8), (8 : UInt8), (8 : UInt8), (8 : UInt8), (8 : UInt8), (8 : UInt8), (8 : UInt8), (8 : UInt8), (8 : UInt8), (8 : UInt8), (8 : UInt8), (8 : UInt8),
                              (8 : UInt8), (8 : UInt8), (8 : UInt8), (8 : UInt8), (8 : UInt8), (8 : UInt8), (8 : UInt8), (8 : UInt8), (8 : UInt8), (8 : UInt8), (8 : UInt8), (8 : UInt8), (8 : UInt8),
                              (8 : UInt8), (8 : UInt8), (8 : UInt8), (8 : UInt8), (8 : UInt8), (8 : UInt8), (8 : UInt8), (8 : UInt8), (8 : UInt8), (8 : UInt8), (8 : UInt8), (8 : UInt8), (8 : UInt8),
                              (8 : UInt8), (8 : UInt8), (8 : UInt8), (8 : UInt8), (8 : UInt8), (8 : UInt8), (8 : UInt8), (8 : UInt8), (8 : UInt8), (8 : UInt8), (8 : UInt8), (8 : UInt8), (8 : UInt8),
                              (8 : UInt8), (8 : UInt8), (8 : UInt8), (8 : UInt8), (8 : UInt8), (8 : UInt8), (8 : UInt8), (8 : UInt8), (8 : UInt8), (8 : UInt8), (8 : UInt8), (8 : UInt8), (8 : UInt8),
                              (8 : UInt8), (8 : UInt8), (8 : UInt8), (8 : UInt8), (8 : UInt8), (8 : UInt8), (8 : UInt8), (8 : UInt8), (8 : UInt8), (8 : UInt8), (8 : UInt8), (8 : UInt8), (8 : UInt8),
                              (8 : UInt8), (8 : UInt8), (8 : UInt8), (8 : UInt8), (8 : UInt8), (8 : UInt8), (8 : UInt8), (8 : UInt8), (8 : UInt8), (8 : UInt8), (8 : UInt8), (8 : UInt8), (8 : UInt8),
                              (8 : UInt8), (8 : UInt8), (8 : UInt8), (8 : UInt8), (8 : UInt8), (8 : UInt8), (8 : UInt8), (8 : UInt8), (8 : UInt8), (8 : UInt8), (8 : UInt8), (8 : UInt8), (8 : UInt8),
                              (8 : UInt8), (8 : UInt8), (8 : UInt8), (8 : UInt8), (8 : UInt8), (8 : UInt8), (8 : UInt8), (8 : UInt8), (8 : UInt8)])
                          (IntKind.wrap IntKind.u8 i1))))
                  h3)
theorem eq153 (a0 : Int) (h : Heap) (R : Int → Heap → Prop) : vc153 a0 h R = vcFn Go.Proofs.Try.prog pl153 Go.Proofs.Try.f153 [.lf (.int .u32 a0)] h [.one (.int .i64)] R := by kernel_rfl
theorem ok153 {a0 : Int} {h : Heap} {R : Int → Heap → Prop} (hv : vc153 a0 h R) : Call Go.Proofs.Try.prog 153 [.lf (.int .u32 a0)] h [.one (.int .i64)] R := call_eq hng hmix Go.Proofs.Try.func153 (eq153 a0 h R) hv
/- 154: math.bits.Len64 (x) · seq 4: x, n · seq 7: x, n -/
def pl154 : Plan := {
  blk := fun _ => none
  seq := fun | 4 => some ⟨[(0, .one (.int .u64)), (2, .one (.int .i64))], [], []⟩ | 7 => some ⟨[(0, .one (.int .u64)), (2, .one (.int .i64))], [], []⟩ | _ => none
  loop := fun _ => none
  live := fun | 0 => some [0, 2] | 1 => some [0, 2, 4] | 2 => some [0] | 3 => some [0, 2] | 4 => some [0, 2, 8] | 5 => some [0, 2] | 6 => some [0, 2] | 7 => some [0, 2, 14] | 8 => some [0, 2] | 9 => some [0, 2] | 10 => some [2] | _ => none
  track := fun | _ => false
  draw := fun | _ => .done
  iter := fun | _ => none }
def vc154 (a0 : Int) (h : Heap) (R : Int → Heap → Prop) : Prop :=
  ∃ (I0 : Int → Int → Heap → Prop),
    Br (Decidable.decide (a0 ≥ (4294967296 : Int))) ((0 : Int) ≤ (32 : Int) ∧ I0 (shiftR IntKind.u64 a0 (32 : Int)) (32 : Int) h) (I0 a0 (0 : Int) h) ∧
      ∀ (i1 i2 : Int) (h3 : Heap),
        I0 i1 i2 h3 →
          ∃ (I4 : Int → Int → Heap → Prop),
            Br (Decidable.decide (i1 ≥ (65536 : Int))) ((0 : Int) ≤ (16 : Int) ∧ I4 (shiftR IntKind.u64 i1 (16 : Int)) (IntKind.wrap IntKind.i64 (i2 + (16 : Int))) h3) (I4 i1 i2 h3) ∧
              ∀ (i5 i6 : Int) (h7 : Heap),
                I4 i5 i6 h7 →
                  Br (Decidable.decide (i5 ≥ (256 : Int)))
                    ((0 : Int) ≤ (8 : Int) ∧
                      (0 : Int) ≤ IntKind.wrap IntKind.u8 (shiftR IntKind.u64 i5 (8 : Int)) ∧
                        IntKind.wrap IntKind.u8 (shiftR IntKind.u64 i5 (8 : Int)) < (↑256 : Int) ∧
                          R
                            (IntKind.wrap IntKind.i64
                              (IntKind.wrap IntKind.i64 (i6 + (8 : Int)) +
                                IntKind.wrap IntKind.i64
                                  (bt
                                    (ByteArray.mk
                                      #[(0 : UInt8), (1 : UInt8), (2 : UInt8), (2 : UInt8), (3 : UInt8), (3 : UInt8), (3 : UInt8), (3 : UInt8), (4 : UInt8), (4 : UInt8), (4 : UInt8), (4 : UInt8),
                                        (4 : UInt8), (4 : UInt8), (4 : UInt8), (4 : UInt8), (5 : UInt8), (5 : UInt8), (5 : UInt8), (5 : UInt8), (5 : UInt8), (5 : UInt8), (5 : UInt8), (5 : UInt8),
                                        (5 : UInt8), (5 : UInt8), (5 : UInt8), (5 : UInt8), (5 : UInt8), (5 : UInt8), (5 : UInt8), (5 : UInt8), (6 : UInt8), (6 : UInt8), (6 : UInt8), (6 : UInt8),
                                        (6 : UInt8), (6 : UInt8), (6 : UInt8), (6 : UInt8), (6 : UInt8), (6 : UInt8), (6 : UInt8), (6 : UInt8), (6 : UInt8), (6 : UInt8), (6 : UInt8), (6 : UInt8),
                                        (6 : UInt8), (6 : UInt8), (6 : UInt8), (6 : UInt8), (6 : UInt8), (6 : UInt8), (6 : UInt8), (6 : UInt8), (6 : UInt8), (6 : UInt8), (6 : UInt8), (6 : UInt8),
                                        (6 : UInt8), (6 : UInt8), (6 : UInt8), (6 : UInt8), (7 : UInt8), (7 : UInt8), (7 : UInt8), (7 : UInt8), (7 : UInt8), (7 : UInt8), (7 : UInt8), (7 : UInt8),
                                        (7 : UInt8), (7 : UInt8), (7 : UInt8), (7 : UInt8), (7 : UInt8), (7 : UInt8), (7 : UInt8), (7 : UInt8), (7 : UInt8), (7 : UInt8), (7 : UInt8), (7 : UInt8),
                                        (7 : UInt8), (7 : UInt8), (7 : UInt8), (7 : UInt8), (7 : UInt8), (7 : UInt8), (7 : UInt8), (7 : UInt8), (7 : UInt8), (7 : UInt8), (7 : UInt8), (7 : UInt8),
                                        (7 : UInt8), (7 : UInt8), (7 : UInt8), (7 : UInt8), (7 : UInt8), (7 : UInt8), (7 : UInt8), (7 : UInt8), (7 : UInt8), (7 : UInt8), (7 : UInt8), (7 : UInt8),
                                        (7 : UInt8), (7 : UInt8), (7 : UInt8), (7 : UInt8), (7 : UInt8), (7 : UInt8), (7 : UInt8), (7 : UInt8), (7 : UInt8), (7 : UInt8), (7 : UInt8), (7 : UInt8),
                                        (7 : UInt8), (7 : UInt8), (7 : UInt8), (7 : UInt8), (7 : UInt8), (7 : UInt8), (7 : UInt8), (7 : UInt8), (8 : UInt8), (8 : UInt8), (8 : UInt8), (8 : UInt8),
                                        (8 : UInt8), (8 : UInt8), (8 : UInt8), (8 : UInt8), (8 : UInt8), (8 : UInt8), (8 : UInt8), (8 : UInt8), (8 : UInt8), (8 : UInt8), (8 : UInt8), (8 : UInt8),
                                        (8 : UInt8), (8 : UInt8), (8 : UInt8), (8 : UInt8), (8 : UInt8), (8 : UInt8), (8 : UInt8), (8 : UInt8), (8 : UInt8), (8 : UInt8), (8 : UInt8), (8 : UInt8),
                                        (8 : UInt8), (8 : UInt8), (8 : UInt8), (8 : UInt8), (8 : UInt8), (8 : UInt8), (8 : UInt8), (8 : UInt8), (8 : UInt8), (8 : UInt8), (8 : UInt8), (8 : UInt8),
                                        (8 : UInt8), (8 : UInt8), (8 : UInt8), (8 : UInt8), (8 : UInt8), (8 : UInt8), (8 : UInt8), (8 : UInt8), (8 : UInt8), (8 : UInt8), (8 : UInt8), (8 : UInt8),
                                        (8 : UInt8), (8 : UInt8), (8 : UInt8), (8 : UInt8), (8 : UInt8), (8 : UInt8), (8 : UInt8), (8 : UInt8), (8 : UInt8), (8 : UInt8), (8 : UInt8), (8 : UInt8),
                                        (8 : UInt8), (8 : UInt8), (8 : UInt8), (8 : UInt8), (8 : UInt8), (8 : UInt8), (8 : UInt8), (8 : UInt8), (8 : UInt8), (8 : UInt8), (8 : UInt8), (8 : UInt8),
                                        (8 : UInt8), (8 : UInt8), (8 : UInt8), (8 : UInt8), (8 : UInt8), (8 : UInt8), (8 : UInt8), (8 : UInt8), (8 : UInt8), (8 : UInt8), (8 : UInt8), (8 : UInt8),
                                        (8 : UInt8), (8 : UInt8), (8 : UInt8), (8 : UInt8), (8 : UInt8), (8 : UInt8), (8 : UInt8), (8 : UInt8), (8 : UInt8), (8 : UInt8), (8 : UInt8), (8 : UInt8),
                                        (8 : UInt8), (8 : UInt8), (8 : UInt8), (8 : UInt8), (8 : UInt8), (8 : UInt8), (8 : UInt8), (8 : UInt8), (8 : UInt8), (8 : UInt8), (8 : UInt8), (8 : UInt8),
                                        (8 : UInt8), (8 : UInt8), (8 : UInt8), (8 : UInt8), (8 : UInt8), (8 : UInt8), (8 : UInt8), (8 : UInt8), (8 : UInt8), (8 : UInt8), (8 : UInt8), (8 : UInt8),
                                        (8 : UInt8), (8 : UInt8), (8 : UInt8), (8 : UInt8)])
                                    (IntKind.wrap IntKind.u8 (shiftR IntKind.u64 i5 (8 : Int))))))
                            h7)
                    ((0 : Int) ≤ IntKind.wrap IntKind.u8 i5 ∧
                      IntKind.wrap IntKind.u8 i5 < (↑256 : Int) ∧
                        R
                          (IntKind.wrap IntKind.i64
                            (i6 +
                              IntKind.wrap IntKind.i64
                                (bt
                                  (ByteArray.mk
                                    #[(0 : UInt8), (1 : UInt8), (2 : UInt8), (2 : UInt8), (3 : UInt8), (3 : UInt8), (3 : UInt8), (3 : UInt8), (4 : UInt8), (4 : UInt8), (4 : UInt8), (4 : UInt8),
                                      (4 : UInt8), (4 : UInt8), (4 : UInt8), (4 : UInt8), (5 : UInt8), (5 : UInt8), (5 : UInt8), (5 : UInt8), (5 : UInt8), (5 : UInt8), (5 : UInt8), (5 : UInt8),
                                      (5 : UInt8), (5 : UInt8), (5 : UInt8), (5 : UInt8), (5 : UInt8), (5 : UInt8), (5 : UInt8), (5 : UInt8), (6 : UInt8), (6 : UInt8), (6 : UInt8), (6 : UInt8),
                                      (6 : UInt8), (6 : UInt8), (6 : UInt8), (6 : UInt8), (6 : UInt8), (6 : UInt8), (6 : UInt8), (6 : UInt8), (6 : UInt8), (6 : UInt8), (6 : UInt8), (6 : UInt8),
                                      (6 : UInt8), (6 : UInt8), (6 : UInt8), (6 : UInt8), (6 : UInt8), (6 : UInt8), (6 : UInt8), (6 : UInt8), (6 : UInt8), (6 : UInt8), (6 : UInt8), (6 : UInt8),
                                      (6 : UInt8), (6 : UInt8), (6 : UInt8), (6 : UInt8), (7 : UInt8), (7 : UInt8), (7 : UInt8), (7 : UInt8), (7 : UInt8), (7 : UInt8), (7 : UInt8), (7 : UInt8),
                                      (7 : UInt8), (7 : UInt8), (7 : UInt8), (7 : UInt8), (7 : UInt8), (7 : UInt8), (7 : UInt8), (7 : UInt8), (7 : UInt8), (7 : UInt8), (7 : UInt8), (7 : UInt8),
                                      (7 : UInt8), (7 : UInt8), (7 : UInt8), (7 : UInt8), (7 : UInt8), (7 : UInt8), (7 : UInt8), (7 : UInt8), (7 : UInt8), (7 : UInt8), (7 : UInt8), (7 : UInt8),
                                      (7 : UInt8), (7 : UInt8), (7 : UInt8), (7 : UInt8), (7 : UInt8), (7 : UInt8), (7 : UInt8), (7 : UInt8), (7 : UInt8), (7 : UInt8), (7 : UInt8), (7 : UInt8),
                                      (7 : UInt8), (7 : UInt8), (7 : UInt8), (7 : UInt8), (7 : UInt8), (7 : UInt8), (7 : UInt8), (7 : UInt8), (7 : UInt8), (7 : UInt8), (7 : UInt8), (7 : UInt8),
                                      (7 : UInt8), (7 : UInt8), (7 : UInt8), (7 : UInt8), (7 : UInt8), (7 : UInt8), (7 : UInt8), (7 : UInt8), (8 : UInt8), (8 : UInt8), (8 : UInt8), (8 : UInt8),
                                      (8 : UInt8), (8 : UInt8), (8 : UInt8), (8 : UInt8), (8 : UInt8), (8 : UInt8), (8 : UInt8), (8 : UInt8), (8 : UInt8), (8 : UInt8), (8 : UInt8), (8 : UInt8),
                                      (8 : UInt8), (8 : UInt8), (8 : UInt8), (8 : UInt8), (8 : UInt8), (8 : UInt8), (8 : UInt8), (8 : UInt8), (8 : UInt8), (8 : UInt8), (8 : UInt8), (8 : UInt8),
                                      (8 : UInt8), (8 : UInt8), (8 : UInt8), (8 : UInt8), (8 : UInt8), (8 : UInt8), (8 : UInt8), (8 : UInt8), (8 : UInt8), (8 : UInt8), (8 : UInt8), (8 : UInt8),
                                      (8 : UInt8), (8 : UInt8), (8 : UInt8), (8 : UInt8), (8 : UInt8), (8 : UInt8), (8 : UInt8), (8 : UInt8), (8 : UInt8), (8 : UInt8), (8 : UInt8), (8 : UInt8),
                                      (8 : UInt8), (8 : UInt8), (8 : UInt8), (8 : UInt8), (8 : UInt8), (8 : UInt8), (8 : UInt8), (8 : UInt8), (8 : UInt8), (8 : UInt8), (8 : UInt8), (8 : UInt8),
                                      (8 : UInt8), (8 : UInt8), (8 : UInt8), (8 : UInt8), (8 : UInt8), (8 : UInt8), (8 : UInt8), (8 : UInt8), (8 : UInt8), (8 : UInt8), (8 : UInt8), (8 : UInt8),
                                      (8 : UInt8), (8 : UInt8), (8 : UInt8), (8 : UInt8), (8 : UInt8), (8 : UInt8), (8 : UInt8), (8 : UInt8), (8 : UInt8), (8 : UInt8), (8 : UInt8), (8 : UInt8),
                                      (8 : UInt8), (8 : UInt8), (8 : UInt8), (8 : UInt8), (8 : UInt8), (8 : UInt8), (8 : UInt8), (8 : UInt8), (8 : UInt8), (8 : UInt8), (8 : UInt8), (8 : UInt8),
                                      (8 : UInt8), (8 : UInt8), (8 : UInt8), (8 : UInt8), (8 : UInt8), (8 : UInt8), (8 : UInt8), (8 : UInt8), (8 : UInt8), (8 : UInt8), (8 : UInt8), (8 : UInt8),
                                      (8 : UInt8), (8 : UInt8), (8 : UInt8), (8 : UInt8), (8 : UInt8), (8 : UInt8), (8 : UInt8), (8 : UInt8), (8 : UInt8), (8 : UInt8), (8 : UInt8), (8 : UInt8),
                                      (8 : UInt8), (8 : UInt8), (8 : UInt8), (8 : UInt8)])
                                  (IntKind.wrap IntKind.u8 i5))))
                          h7)
theorem eq154 (a0 : Int) (h : Heap) (R : Int → Heap → Prop) : vc154 a0 h R = vcFn Go.Proofs.Try.prog pl154 Go.Proofs.Try.f154 [.lf (.int .u64 a0)] h [.one (.int .i64)] R := by kernel_rfl
theorem ok154 {a0 : Int} {h : Heap} {R : Int → Heap → Prop} (hv : vc154 a0 h R) : Call Go.Proofs.Try.prog 154 [.lf (.int .u64 a0)] h [.one (.int .i64)] R := call_eq hng hmix Go.Proofs.Try.func154 (eq154 a0 h R) hv
/- 127: math.bits.Len (x) -/
def pl127 : Plan := {
  blk := fun _ => none
  seq := fun _ => none
  loop := fun _ => none
  live := fun | 0 => some [0] | 1 => some [2] | 2 => some [2] | _ => none
  track := fun | _ => false
  draw := fun | _ => .done
  iter := fun | _ => none }
def vc127 (a0 : Int) (h : Heap) (R : Int → Heap → Prop) : Prop :=
  Call Go.Proofs.Try.prog 154 [VV.lf (Lf.int IntKind.u64 a0)] h [VT.one (LT.int IntKind.i64)] fun (i0 : Int) (h1 : Heap) => R i0 h1
theorem eq127 (a0 : Int) (h : Heap) (R : Int → Heap → Prop) : vc127 a0 h R = vcFn Go.Proofs.Try.prog pl127 Go.Proofs.Try.f127 [.lf (.int .u64 a0)] h [.one (.int .i64)] R := by kernel_rfl
theorem ok127 {a0 : Int} {h : Heap} {R : Int → Heap → Prop} (hv : vc127 a0 h R) : Call Go.Proofs.Try.prog 127 [.lf (.int .u64 a0)] h [.one (.int .i64)] R := call_eq hng hmix Go.Proofs.Try.func127 (eq127 a0 h R) hv
end Go.V.Yteojmnnobmpdiaa
set_option linter.unusedVariables false
set_option maxRecDepth 100000
namespace Go.V.Yteojmnnobmpdiaa
open Go Go.V
/- 126: slices.pdqsortOrdered[uint64] () · seq 10: #3 · seq 15: #11, #12 · seq 16: #68 · seq 17:  · seq 18: #87 · loop 2: #1, #2, #3, #8, #9 -/
def pl126 : Plan := {
  blk := fun _ => none
  seq := fun | 10 => some ⟨[(3, .one (.int .i64))], [], []⟩ | 15 => some ⟨[(11, .one (.int .i64)), (12, .one (.int .i64))], [], []⟩ | 16 => some ⟨[(68, .one .bool)], [], []⟩ | 17 => some ⟨[], [], []⟩ | 18 => some ⟨[(87, .one .bool)], [], []⟩ | _ => none
  loop := fun | 2 => some ⟨[(1, .one (.int .i64)), (2, .one (.int .i64)), (3, .one (.int .i64)), (8, .one .bool), (9, .one .bool)], [], []⟩ | _ => none
  live := fun | 0 => some [0, 1, 2, 3, 8] | 1 => some [0, 1, 2, 3, 8, 9] | 2 => some [0, 1, 2, 3, 8, 9, 10] | 3 => some [0, 1, 2, 3, 8, 9, 10, 23] | 4 => some [] | 5 => some [0, 1, 2, 3, 8, 9, 10, 29] | 6 => some [] | 7 => some [0, 1, 2, 3, 8, 9, 10, 35] | 8 => some [0, 1, 2, 3, 8, 9, 10] | 9 => some [0, 1, 2, 3, 8, 9, 10] | 10 => some [0, 1, 2, 3, 8, 9, 10, 11, 12] | 11 => some [0, 1, 2, 3, 8, 9, 10, 11, 12, 50] | 12 => some [0, 1, 2, 3, 8, 9, 10, 11] | 13 => some [0, 1, 2, 3, 8, 9, 10, 11] | 14 => some [0, 1, 2, 3, 8, 9, 10, 11, 12] | 15 => some [0, 1, 2, 3, 8, 9, 10, 11, 68] | 16 => some [0, 1, 2, 3, 8, 9, 10, 11, 72] | 17 => some [0, 1, 2, 3, 8, 9, 10, 11, 87] | 18 => some [0, 2, 3, 8, 9, 13] | 19 => some [0, 1, 2, 3, 8, 9] | 20 => some [0, 1, 2, 3, 10, 14, 15] | 21 => some [0, 1, 2, 3, 9, 10, 14] | 22 => some [0, 1, 2, 3, 9, 10, 14, 16, 17] | 23 => some [0, 1, 2, 3, 9, 14, 16, 17, 18] | 24 => some [0, 1, 2, 3, 9, 14, 16, 17, 18, 113] | 25 => some [0, 1, 2, 3, 8, 9, 14] | 26 => some [0, 2, 3, 8, 9, 14] | 27 => some [0, 1, 2, 3, 8, 9] | 28 => some [0, 1, 2, 3, 8, 9, 14] | 29 => some [0, 1, 3, 8, 9, 14] | 30 => some [0, 1, 2, 3, 8, 9] | _ => none
  track := fun | _ => false
  draw := fun | 17 => .still 0 (.still 1 (.still 2 (.still 3 (.still 4 (.still 5 (.still 6 (.still 7 (.still 8 (.still 9 (.still 10 (.still 11 (.mem 12 (.still 13 (.still 14 (.done))))))))))))))) | _ => .done
  iter := fun | _ => none }
def vc126 (a0 : Slc) (a1 : Int) (a2 : Int) (a3 : Int) (h : Heap) (R : Heap → Prop) : Prop :=
  ∃ (I0 : Int → Int → Int → Bool → Bool → Heap → Nat → Prop),
    (∃ (b1 : Nat), I0 a1 a2 a3 Bool.true Bool.true h b1) ∧
      ∀ (i2 i3 i4 : Int) (c5 c6 : Bool) (h7 : Heap) (b8 : Nat),
        I0 i2 i3 i4 c5 c6 h7 b8 →
          Br (Decidable.decide (IntKind.wrap IntKind.i64 (i3 - i2) ≤ (12 : Int)))
            (Call Go.Proofs.Try.prog 144 [VV.lf (Lf.slc a0), VV.lf (Lf.int IntKind.i64 i2), VV.lf (Lf.int IntKind.i64 i3)] h7 []
              fun (h9 : Heap) => R h9)
            (Br (i4 == (0 : Int))
              (Call Go.Proofs.Try.prog 145 [VV.lf (Lf.slc a0), VV.lf (Lf.int IntKind.i64 i2), VV.lf (Lf.int IntKind.i64 i3)] h7 []
                fun (h10 : Heap) => R h10)
              (∃ (I11 : Int → Heap → Prop),
                Br (!c5)
                    (Call Go.Proofs.Try.prog 146 [VV.lf (Lf.slc a0), VV.lf (Lf.int IntKind.i64 i2), VV.lf (Lf.int IntKind.i64 i3)] h7 []
                      fun (h12 : Heap) => I11 (IntKind.wrap IntKind.i64 (i4 - (1 : Int))) h12)
                    (I11 i4 h7) ∧
                  ∀ (i13 : Int) (h14 : Heap),
                    I11 i13 h14 →
                      Call Go.Proofs.Try.prog 147 [VV.lf (Lf.slc a0), VV.lf (Lf.int IntKind.i64 i2), VV.lf (Lf.int IntKind.i64 i3)] h14
                        [VT.one (LT.int IntKind.i64), VT.one (LT.int IntKind.i64)] fun (i15 i16 : Int) (h17 : Heap) =>
                        ∃ (I18 : Int → Int → Heap → Prop),
                          Br (i16 == (2 : Int))
                              (Call Go.Proofs.Try.prog 148 [VV.lf (Lf.slc a0), VV.lf (Lf.int IntKind.i64 i2), VV.lf (Lf.int IntKind.i64 i3)] h17 []
                                fun (h19 : Heap) =>
                                I18 (IntKind.wrap IntKind.i64 (IntKind.wrap IntKind.i64 (i3 - (1 : Int)) - IntKind.wrap IntKind.i64 (i15 - i2))) (1 : Int) h19)
                              (I18 i15 i16 h17) ∧
                            ∀ (i20 i21 : Int) (h22 : Heap),
                              I18 i20 i21 h22 →
                                ∃ (I23 : Heap → Prop),
                                  (∃ (I24 : Bool → Heap → Prop),
                                      Br c5 (Br c6 (I24 (i21 == (1 : Int)) h22) (I24 Bool.false h22)) (I24 Bool.false h22) ∧
                                        ∀ (c25 : Bool) (h26 : Heap),
                                          I24 c25 h26 →
                                            Br c25
                                              (Call Go.Proofs.Try.prog 149
                                                [VV.lf (Lf.slc a0), VV.lf (Lf.int IntKind.i64 i2), VV.lf (Lf.int IntKind.i64 i3)] h26 [VT.one LT.bool]
                                                fun (c27 : Bool) (h28 : Heap) => Br c27 (R h28) (I23 h28))
                                              (I23 h26)) ∧
                                    ∀ (h29 : Heap),
                                      I23 h29 →
                                        ∃ (I30 : Bool → Heap → Prop),
                                          Br (Decidable.decide (i2 > (0 : Int)))
                                              (IxC a0 (IntKind.wrap IntKind.i64 (i2 - (1 : Int))) 1 fun (b31 b32 : Nat) =>
                                                ∃ (i33 : Int),
                                                  cellsAt h29 b31 b32 [Lf.int IntKind.u64 i33] ∧
                                                    IxC a0 i20 1 fun (b34 b35 : Nat) =>
                                                      ∃ (i36 : Int),
                                                        cellsAt h29 b34 b35 [Lf.int IntKind.u64 i36] ∧
                                                          Call Go.Proofs.Try.prog 150 [VV.lf (Lf.int IntKind.u64 i33), VV.lf (Lf.int IntKind.u64 i36)] h29
                                                            [VT.one LT.bool] fun (c37 : Bool) (h38 : Heap) => I30 (!c37) h38)
                                              (I30 Bool.false h29) ∧
                                            ∀ (c39 : Bool) (h40 : Heap),
                                              I30 c39 h40 →
                                                Br c39
                                                  (Call Go.Proofs.Try.prog 151
                                                    [VV.lf (Lf.slc a0), VV.lf (Lf.int IntKind.i64 i2), VV.lf (Lf.int IntKind.i64 i3),
                                                      VV.lf (Lf.int IntKind.i64 i20)]
                                                    h40 [VT.one (LT.int IntKind.i64)] fun (i41 : Int) (h42 : Heap) => ∃ (b43 : Nat), b43 < b8 ∧ I0 i41 i3 i13 c5 c6 h42 b43)
                                                  (Call Go.Proofs.Try.prog 152
                                                    [VV.lf (Lf.slc a0), VV.lf (Lf.int IntKind.i64 i2), VV.lf (Lf.int IntKind.i64 i3),
                                                      VV.lf (Lf.int IntKind.i64 i20)]
                                                    h40 [VT.one (LT.int IntKind.i64), VT.one LT.bool] fun (i44 : Int) (c45 : Bool) (h46 : Heap) =>
                                                    ((8 : Int) = (0 : Int) → False) ∧
                                                      Br (Decidable.decide (IntKind.wrap IntKind.i64 (i44 - i2) < IntKind.wrap IntKind.i64 (i3 - i44)))
                                                        (Call Go.Proofs.Try.prog 126
                                                          [VV.lf (Lf.slc a0), VV.lf (Lf.int IntKind.i64 i2), VV.lf (Lf.int IntKind.i64 i44),
                                                            VV.lf (Lf.int IntKind.i64 i13)]
                                                          h46 [] fun (h47 : Heap) =>
                                                          ∃ (b48 : Nat),
                                                            b48 < b8 ∧
                                                              I0 (IntKind.wrap IntKind.i64 (i44 + (1 : Int))) i3 i13
                                                                (Decidable.decide
                                                                  (IntKind.wrap IntKind.i64 (i44 - i2) ≥
                                                                    IntKind.wrap IntKind.i64 (Int.tdiv (IntKind.wrap IntKind.i64 (i3 - i2)) (8 : Int))))
                                                                c45 h47 b48)
                                                        (Call Go.Proofs.Try.prog 126
                                                          [VV.lf (Lf.slc a0), VV.lf (Lf.int IntKind.i64 (IntKind.wrap IntKind.i64 (i44 + (1 : Int)))),
                                                            VV.lf (Lf.int IntKind.i64 i3), VV.lf (Lf.int IntKind.i64 i13)]
                                                          h46 [] fun (h49 : Heap) =>
                                                          ∃ (b50 : Nat),
                                                            b50 < b8 ∧
                                                              I0 i2 i44 i13
                                                                (Decidable.decide
                                                                  (IntKind.wrap IntKind.i64 (i3 - i44) ≥
                                                                    IntKind.wrap IntKind.i64 (Int.tdiv (IntKind.wrap IntKind.i64 (i3 - i2)) (8 : Int))))
                                                                c45 h49 b50))))
theorem eq126 (a0 : Slc) (a1 : Int) (a2 : Int) (a3 : Int) (h : Heap) (R : Heap → Prop) : vc126 a0 a1 a2 a3 h R = vcFn Go.Proofs.Try.prog pl126 Go.Proofs.Try.f126 [.lf (.slc a0), .lf (.int .i64 a1), .lf (.int .i64 a2), .lf (.int .i64 a3)] h [] R := by kernel_rfl
theorem ok126 {a0 : Slc} {a1 : Int} {a2 : Int} {a3 : Int} {h : Heap} {R : Heap → Prop} (hv : vc126 a0 a1 a2 a3 h R) : Call Go.Proofs.Try.prog 126 [.lf (.slc a0), .lf (.int .i64 a1), .lf (.int .i64 a2), .lf (.int .i64 a3)] h [] R := call_eq hng hmix Go.Proofs.Try.func126 (eq126 a0 a1 a2 a3 h R) hv
/- 93: slices.Sort[[]uint64,uint64] (x) -/
def pl93 : Plan := {
  blk := fun _ => none
  seq := fun _ => none
  loop := fun _ => none
  live := fun | 0 => some [0, 2] | 1 => some [] | _ => none
  track := fun | _ => false
  draw := fun | _ => .done
  iter := fun | _ => none }
def vc93 (a0 : Slc) (h : Heap) (R : Heap → Prop) : Prop :=
  Call Go.Proofs.Try.prog 127 [VV.lf (Lf.int IntKind.u64 (IntKind.wrap IntKind.u64 (↑(Slc.len a0) : Int)))] h [VT.one (LT.int IntKind.i64)]
    fun (i0 : Int) (h1 : Heap) =>
    Call Go.Proofs.Try.prog 126
      [VV.lf (Lf.slc a0), VV.lf (Lf.int IntKind.i64 (0 : Int)), VV.lf (Lf.int IntKind.i64 (↑(Slc.len a0) : Int)), VV.lf (Lf.int IntKind.i64 i0)] h1
      [] fun (h2 : Heap) => R h2
theorem eq93 (a0 : Slc) (h : Heap) (R : Heap → Prop) : vc93 a0 h R = vcFn Go.Proofs.Try.prog pl93 Go.Proofs.Try.f93 [.lf (.slc a0)] h [] R := by kernel_rfl
theorem ok93 {a0 : Slc} {h : Heap} {R : Heap → Prop} (hv : vc93 a0 h R) : Call Go.Proofs.Try.prog 93 [.lf (.slc a0)] h [] R := call_eq hng hmix Go.Proofs.Try.func93 (eq93 a0 h R) hv
end Go.V.Yteojmnnobmpdiaa
