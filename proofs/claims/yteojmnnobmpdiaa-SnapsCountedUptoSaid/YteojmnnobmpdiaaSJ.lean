/- This text proves a part of the laws of seat Yteojmnnobmpdiaa, under no condition: N22a N22b. -/
import Derived.Test.YteojmnnobmpdiaaSC
import Derived.Eval
import Derived.Test.YteojmnnobmpdiaaChecked
import Derived.Test.YteojmnnobmpdiaaSE
set_option linter.unusedVariables false
set_option maxRecDepth 100000
namespace Go.V.Yteojmnnobmpdiaa
open Go Go.V
/- 35: sediment.snaps.NewRefs () -/
def pl35 : Plan := {
  blk := fun _ => none
  seq := fun _ => none
  loop := fun _ => none
  live := fun | 0 => some [] | 1 => some [0] | _ => none
  track := fun | _ => false
  draw := fun | _ => .done
  iter := fun | _ => none }
def vc35  (h : Heap) (R : Option (Nat × Nat) → Heap → Prop) : Prop :=
  NewM h fun (b0 : Nat) (h1 : Heap) =>
    NewM h1 fun (b2 : Nat) (h3 : Heap) =>
      New 152 [Lf.map (Option.some b0), Lf.map (Option.some b2), Lf.int IntKind.i64 (0 : Int)] h3 fun (b4 : Nat) (h5 : Heap) => R (Option.some (b4, 0)) h5
theorem eq35  (h : Heap) (R : Option (Nat × Nat) → Heap → Prop) : vc35  h R = vcFn Go.Proofs.Try.prog pl35 Go.Proofs.Try.f35 [] h [.one .ptr] R := by kernel_rfl
theorem ok35  {h : Heap} {R : Option (Nat × Nat) → Heap → Prop} (hv : vc35  h R) : Call Go.Proofs.Try.prog 35 [] h [.one .ptr] R := call_eq hng hmix Go.Proofs.Try.func35 (eq35  h R) hv
/- 36: (*sediment.snaps.Refs).Add (r, files) · loop 4: #26 -/
def pl36 : Plan := {
  blk := fun _ => none
  seq := fun _ => none
  loop := fun | 4 => some ⟨[(26, .one (.int .i64))], [], []⟩ | _ => none
  live := fun | 0 => some [0, 1] | 1 => some [0, 1] | 2 => some [0, 1] | 3 => some [0, 24, 25, 26] | 4 => some [0, 24, 25, 26, 27] | 5 => some [0, 6, 24, 25, 26] | 6 => some [0, 24, 25, 26] | 7 => some [0, 24, 25, 26] | 8 => some [4] | _ => none
  track := fun | _ => false
  draw := fun | 2 => .still 0 (.still 1 (.still 2 (.still 3 (.still 4 (.still 5 (.still 6 (.still 7 (.still 8 (.mem 9 (.mem 10 (.done))))))))))) | _ => .done
  iter := fun | _ => none }
def vc36 (a0 : Option (Nat × Nat)) (a1 : Slc) (h : Heap) (R : Int → Heap → Prop) : Prop :=
  NilC a0 fun (b0 b1 : Nat) =>
    ∃ (i2 : Int),
      cellsAt h b0 (b1 + 2) [Lf.int IntKind.i64 i2] ∧
        NilC a0 fun (b3 b4 : Nat) =>
          StC h b3 (b4 + 2) [Lf.int IntKind.i64 (IntKind.wrap IntKind.i64 (i2 + (1 : Int)))] fun (h5 : Heap) =>
            NilC a0 fun (b6 b7 : Nat) =>
              ∃ (p8 : Option Nat),
                cellsAt h5 b6 (b7 + 0) [Lf.map p8] ∧
                  NilC a0 fun (b9 b10 : Nat) =>
                    ∃ (i11 : Int),
                      cellsAt h5 b9 (b10 + 2) [Lf.int IntKind.i64 i11] ∧
                        Call Go.Proofs.Try.prog 92 [VV.lf (Lf.slc a1)] h5 [VT.one LT.slc] fun (s12 : Slc) (h13 : Heap) =>
                          cellsAt h13 b9 (b10 + 2) [Lf.int IntKind.i64 i11] ∧
                            cellsAt h13 b6 (b7 + 0) [Lf.map p8] ∧
                              UpdC (LT.int IntKind.i64) (VT.one LT.slc) h13 p8 i11 [Lf.slc s12] fun (h14 : Heap) =>
                                ∃ (I15 : Int → Heap → Nat → Prop),
                                  (∃ (b16 : Nat), I15 (0 : Int) h14 b16) ∧
                                    ∀ (i17 : Int) (h18 : Heap) (b19 : Nat),
                                      I15 i17 h18 b19 →
                                        Br (Decidable.decide (i17 < (↑(Slc.len a1) : Int)))
                                          (IxC a1 i17 1 fun (b20 b21 : Nat) =>
                                            ∃ (i22 : Int),
                                              cellsAt h18 b20 b21 [Lf.int IntKind.u64 i22] ∧
                                                NilC a0 fun (b23 b24 : Nat) =>
                                                  ∃ (p25 : Option Nat),
                                                    cellsAt h18 b23 (b24 + 1) [Lf.map p25] ∧
                                                      ∃ (i26 : Int),
                                                        ∃ (c27 : Bool),
                                                          LookR h18 (LT.int IntKind.u64) (VT.one (LT.int IntKind.i64)) [Lf.int IntKind.i64 (0 : Int)] p25 i22
                                                              [Lf.int IntKind.i64 i26] c27 ∧
                                                            UpdC (LT.int IntKind.u64) (VT.one (LT.int IntKind.i64)) h18 p25 i22
                                                              [Lf.int IntKind.i64 (IntKind.wrap IntKind.i64 (i26 + (1 : Int)))] fun (h28 : Heap) =>
                                                              ∃ (b29 : Nat), b29 < b19 ∧ I15 (IntKind.wrap IntKind.i64 (i17 + (1 : Int))) h28 b29)
                                          (NilC a0 fun (b30 b31 : Nat) => ∃ (i32 : Int), cellsAt h18 b30 (b31 + 2) [Lf.int IntKind.i64 i32] ∧ R i32 h18)
theorem eq36 (a0 : Option (Nat × Nat)) (a1 : Slc) (h : Heap) (R : Int → Heap → Prop) : vc36 a0 a1 h R = vcFn Go.Proofs.Try.prog pl36 Go.Proofs.Try.f36 [.lf (.ptr a0), .lf (.slc a1)] h [.one (.int .i64)] R := by kernel_rfl
theorem ok36 {a0 : Option (Nat × Nat)} {a1 : Slc} {h : Heap} {R : Int → Heap → Prop} (hv : vc36 a0 a1 h R) : Call Go.Proofs.Try.prog 36 [.lf (.ptr a0), .lf (.slc a1)] h [.one (.int .i64)] R := call_eq hng hmix Go.Proofs.Try.func36 (eq36 a0 a1 h R) hv
/- 38: (*sediment.snaps.Refs).Drop (r, handle) · loop 7: gone, #29 -/
def pl38 : Plan := {
  blk := fun _ => none
  seq := fun _ => none
  loop := fun | 7 => some ⟨[(8, .one .slc), (29, .one (.int .i64))], [], []⟩ | _ => none
  live := fun | 0 => some [0, 1] | 1 => some [0, 1, 6, 7] | 2 => some [0, 1, 6, 21] | 3 => some [4, 5] | 4 => some [0, 6] | 5 => some [0, 6, 8] | 6 => some [0, 8, 27, 28, 29] | 7 => some [0, 8, 27, 28, 29, 30] | 8 => some [0, 8, 10, 27, 28, 29] | 9 => some [0, 8, 10, 27, 28, 29] | 10 => some [0, 8, 10, 27, 28, 29, 46] | 11 => some [0, 8, 10, 27, 28, 29] | 12 => some [0, 8, 27, 28, 29] | 13 => some [0, 8, 27, 28, 29] | 14 => some [8] | 15 => some [4, 5] | _ => none
  track := fun | _ => false
  draw := fun | _ => .done
  iter := fun | _ => none }
def vc38 (a0 : Option (Nat × Nat)) (a1 : Int) (h : Heap) (R : Slc → Int → Heap → Prop) : Prop :=
  NilC a0 fun (b0 b1 : Nat) =>
    ∃ (p2 : Option Nat),
      cellsAt h b0 (b1 + 0) [Lf.map p2] ∧
        ∃ (s3 : Slc),
          ∃ (c4 : Bool),
            LookR h (LT.int IntKind.i64) (VT.one LT.slc) [Lf.slc (Slc.mk Option.none 0 0)] p2 a1 [Lf.slc s3] c4 ∧
              Br (!c4) (R (Slc.mk Option.none 0 0) (220 : Int) h)
                (NilC a0 fun (b5 b6 : Nat) =>
                  ∃ (p7 : Option Nat),
                    cellsAt h b5 (b6 + 0) [Lf.map p7] ∧
                      DelC (LT.int IntKind.i64) (VT.one LT.slc) h p7 a1 fun (h8 : Heap) =>
                        ∃ (I9 : Slc → Int → Heap → Nat → Prop),
                          (∃ (b10 : Nat), I9 (Slc.mk Option.none 0 0) (0 : Int) h8 b10) ∧
                            ∀ (s11 : Slc) (i12 : Int) (h13 : Heap) (b14 : Nat),
                              I9 s11 i12 h13 b14 →
                                Br (Decidable.decide (i12 < (↑(Slc.len s3) : Int)))
                                  (IxC s3 i12 1 fun (b15 b16 : Nat) =>
                                    ∃ (i17 : Int),
                                      cellsAt h13 b15 b16 [Lf.int IntKind.u64 i17] ∧
                                        NilC a0 fun (b18 b19 : Nat) =>
                                          ∃ (p20 : Option Nat),
                                            cellsAt h13 b18 (b19 + 1) [Lf.map p20] ∧
                                              ∃ (i21 : Int),
                                                ∃ (c22 : Bool),
                                                  LookR h13 (LT.int IntKind.u64) (VT.one (LT.int IntKind.i64)) [Lf.int IntKind.i64 (0 : Int)] p20 i17
                                                      [Lf.int IntKind.i64 i21] c22 ∧
                                                    UpdC (LT.int IntKind.u64) (VT.one (LT.int IntKind.i64)) h13 p20 i17
                                                      [Lf.int IntKind.i64 (IntKind.wrap IntKind.i64 (i21 - (1 : Int)))] fun (h23 : Heap) =>
                                                      NilC a0 fun (b24 b25 : Nat) =>
                                                        ∃ (p26 : Option Nat),
                                                          cellsAt h23 b24 (b25 + 1) [Lf.map p26] ∧
                                                            ∃ (i27 : Int),
                                                              ∃ (c28 : Bool),
                                                                LookR h23 (LT.int IntKind.u64) (VT.one (LT.int IntKind.i64)) [Lf.int IntKind.i64 (0 : Int)] p26 i17
                                                                    [Lf.int IntKind.i64 i27] c28 ∧
                                                                  Br (i27 == (0 : Int))
                                                                    (NilC a0 fun (b29 b30 : Nat) =>
                                                                      ∃ (p31 : Option Nat),
                                                                        cellsAt h23 b29 (b30 + 1) [Lf.map p31] ∧
                                                                          DelC (LT.int IntKind.u64) (VT.one (LT.int IntKind.i64)) h23 p31 i17 fun (h32 : Heap) =>
                                                                            New 22 [Lf.int IntKind.u64 i17] h32 fun (b33 : Nat) (h34 : Heap) =>
                                                                              AppC 22 [Lf.int IntKind.u64 (0 : Int)] 1 8 s11
                                                                                (Slc.mk (Option.some (b33, 0)) 1 1) h34 fun (s35 : Slc) (h36 : Heap) =>
                                                                                ∃ (b37 : Nat), b37 < b14 ∧ I9 s35 (IntKind.wrap IntKind.i64 (i12 + (1 : Int))) h36 b37)
                                                                    (∃ (b38 : Nat), b38 < b14 ∧ I9 s11 (IntKind.wrap IntKind.i64 (i12 + (1 : Int))) h23 b38))
                                  (Call Go.Proofs.Try.prog 93 [VV.lf (Lf.slc s11)] h13 [] fun (h39 : Heap) => R s11 (0 : Int) h39))
theorem eq38 (a0 : Option (Nat × Nat)) (a1 : Int) (h : Heap) (R : Slc → Int → Heap → Prop) : vc38 a0 a1 h R = vcFn Go.Proofs.Try.prog pl38 Go.Proofs.Try.f38 [.lf (.ptr a0), .lf (.int .i64 a1)] h [.one .slc, .one (.int .i64)] R := by kernel_rfl
theorem ok38 {a0 : Option (Nat × Nat)} {a1 : Int} {h : Heap} {R : Slc → Int → Heap → Prop} (hv : vc38 a0 a1 h R) : Call Go.Proofs.Try.prog 38 [.lf (.ptr a0), .lf (.int .i64 a1)] h [.one .slc, .one (.int .i64)] R := call_eq hng hmix Go.Proofs.Try.func38 (eq38 a0 a1 h R) hv
/- 41: (*sediment.snaps.Refs).Needed (r) -/
def pl41 : Plan := {
  blk := fun _ => none
  seq := fun _ => none
  loop := fun _ => none
  live := fun | 0 => some [0] | 1 => some [2] | _ => none
  track := fun | _ => false
  draw := fun | _ => .done
  iter := fun | _ => none }
def vc41 (a0 : Option (Nat × Nat)) (h : Heap) (R : Slc → Heap → Prop) : Prop :=
  NilC a0 fun (b0 b1 : Nat) =>
    ∃ (p2 : Option Nat),
      cellsAt h b0 (b1 + 1) [Lf.map p2] ∧
        Call Go.Proofs.Try.prog 96 [VV.lf (Lf.map p2)] h [VT.one LT.raw] fun (x3 : Value) (h4 : Heap) =>
          Call Go.Proofs.Try.prog 95 [VV.lf (Lf.raw x3)] h4 [VT.one LT.slc] fun (s5 : Slc) (h6 : Heap) => R s5 h6
theorem eq41 (a0 : Option (Nat × Nat)) (h : Heap) (R : Slc → Heap → Prop) : vc41 a0 h R = vcFn Go.Proofs.Try.prog pl41 Go.Proofs.Try.f41 [.lf (.ptr a0)] h [.one .slc] R := by kernel_rfl
theorem ok41 {a0 : Option (Nat × Nat)} {h : Heap} {R : Slc → Heap → Prop} (hv : vc41 a0 h R) : Call Go.Proofs.Try.prog 41 [.lf (.ptr a0)] h [.one .slc] R := call_eq hng hmix Go.Proofs.Try.func41 (eq41 a0 h R) hv
/- 43: (*sediment.snaps.Refs).Times (r, file) -/
def pl43 : Plan := {
  blk := fun _ => none
  seq := fun _ => none
  loop := fun _ => none
  live := fun | 0 => some [0, 1] | 1 => some [4] | _ => none
  track := fun | _ => false
  draw := fun | _ => .done
  iter := fun | _ => none }
def vc43 (a0 : Option (Nat × Nat)) (a1 : Int) (h : Heap) (R : Int → Heap → Prop) : Prop :=
  NilC a0 fun (b0 b1 : Nat) =>
    ∃ (p2 : Option Nat),
      cellsAt h b0 (b1 + 1) [Lf.map p2] ∧
        ∃ (i3 : Int),
          ∃ (c4 : Bool), LookR h (LT.int IntKind.u64) (VT.one (LT.int IntKind.i64)) [Lf.int IntKind.i64 (0 : Int)] p2 a1 [Lf.int IntKind.i64 i3] c4 ∧ R i3 h
theorem eq43 (a0 : Option (Nat × Nat)) (a1 : Int) (h : Heap) (R : Int → Heap → Prop) : vc43 a0 a1 h R = vcFn Go.Proofs.Try.prog pl43 Go.Proofs.Try.f43 [.lf (.ptr a0), .lf (.int .u64 a1)] h [.one (.int .i64)] R := by kernel_rfl
theorem ok43 {a0 : Option (Nat × Nat)} {a1 : Int} {h : Heap} {R : Int → Heap → Prop} (hv : vc43 a0 a1 h R) : Call Go.Proofs.Try.prog 43 [.lf (.ptr a0), .lf (.int .u64 a1)] h [.one (.int .i64)] R := call_eq hng hmix Go.Proofs.Try.func43 (eq43 a0 a1 h R) hv
/- 46: sediment.snaps.New () -/
def pl46 : Plan := {
  blk := fun _ => none
  seq := fun _ => none
  loop := fun _ => none
  live := fun | 0 => some [] | 1 => some [0] | _ => none
  track := fun | _ => false
  draw := fun | _ => .done
  iter := fun | _ => none }
def vc46  (h : Heap) (R : Option (Nat × Nat) → Heap → Prop) : Prop :=
  NewM h fun (b0 : Nat) (h1 : Heap) =>
    New 161 [Lf.map (Option.some b0), Lf.int IntKind.i64 (0 : Int)] h1 fun (b2 : Nat) (h3 : Heap) => R (Option.some (b2, 0)) h3
theorem eq46  (h : Heap) (R : Option (Nat × Nat) → Heap → Prop) : vc46  h R = vcFn Go.Proofs.Try.prog pl46 Go.Proofs.Try.f46 [] h [.one .ptr] R := by kernel_rfl
theorem ok46  {h : Heap} {R : Option (Nat × Nat) → Heap → Prop} (hv : vc46  h R) : Call Go.Proofs.Try.prog 46 [] h [.one .ptr] R := call_eq hng hmix Go.Proofs.Try.func46 (eq46  h R) hv
/- 47: (*sediment.snaps.List).Hold (l, seq) -/
def pl47 : Plan := {
  blk := fun _ => none
  seq := fun _ => none
  loop := fun _ => none
  live := fun | 0 => some [0, 1] | 1 => some [0, 1, 7] | 2 => some [4, 5] | 3 => some [0, 1, 13] | 4 => some [4, 5] | 5 => some [0, 1] | 6 => some [0] | 7 => some [4, 5] | _ => none
  track := fun | _ => false
  draw := fun | 6 => .still 0 (.still 1 (.still 2 (.still 3 (.still 4 (.still 5 (.still 6 (.still 7 (.still 8 (.mem 9 (.done)))))))))) | _ => .done
  iter := fun | _ => none }
def vc47 (a0 : Option (Nat × Nat)) (a1 : Int) (h : Heap) (R : Int → Int → Heap → Prop) : Prop :=
  Br (Decidable.decide (a1 > (72057594037927935 : Int))) (R (0 : Int) (1 : Int) h)
    (NilC a0 fun (b0 b1 : Nat) =>
      ∃ (p2 : Option Nat),
        cellsAt h b0 (b1 + 0) [Lf.map p2] ∧
          ∃ (i3 : Int),
            LenR h p2 i3 ∧
              Br (Decidable.decide (i3 ≥ (4096 : Int))) (R (0 : Int) (2 : Int) h)
                (NilC a0 fun (b4 b5 : Nat) =>
                  ∃ (i6 : Int),
                    cellsAt h b4 (b5 + 1) [Lf.int IntKind.i64 i6] ∧
                      NilC a0 fun (b7 b8 : Nat) =>
                        StC h b7 (b8 + 1) [Lf.int IntKind.i64 (IntKind.wrap IntKind.i64 (i6 + (1 : Int)))] fun (h9 : Heap) =>
                          NilC a0 fun (b10 b11 : Nat) =>
                            ∃ (p12 : Option Nat),
                              cellsAt h9 b10 (b11 + 0) [Lf.map p12] ∧
                                NilC a0 fun (b13 b14 : Nat) =>
                                  ∃ (i15 : Int),
                                    cellsAt h9 b13 (b14 + 1) [Lf.int IntKind.i64 i15] ∧
                                      UpdC (LT.int IntKind.i64) (VT.one (LT.int IntKind.u64)) h9 p12 i15 [Lf.int IntKind.u64 a1] fun (h16 : Heap) =>
                                        NilC a0 fun (b17 b18 : Nat) => ∃ (i19 : Int), cellsAt h16 b17 (b18 + 1) [Lf.int IntKind.i64 i19] ∧ R i19 (0 : Int) h16))
theorem eq47 (a0 : Option (Nat × Nat)) (a1 : Int) (h : Heap) (R : Int → Int → Heap → Prop) : vc47 a0 a1 h R = vcFn Go.Proofs.Try.prog pl47 Go.Proofs.Try.f47 [.lf (.ptr a0), .lf (.int .u64 a1)] h [.one (.int .i64), .one (.int .i64)] R := by kernel_rfl
theorem ok47 {a0 : Option (Nat × Nat)} {a1 : Int} {h : Heap} {R : Int → Int → Heap → Prop} (hv : vc47 a0 a1 h R) : Call Go.Proofs.Try.prog 47 [.lf (.ptr a0), .lf (.int .u64 a1)] h [.one (.int .i64), .one (.int .i64)] R := call_eq hng hmix Go.Proofs.Try.func47 (eq47 a0 a1 h R) hv
/- 48: (*sediment.snaps.List).Free (l, handle) -/
def pl48 : Plan := {
  blk := fun _ => none
  seq := fun _ => none
  loop := fun _ => none
  live := fun | 0 => some [0, 1] | 1 => some [0, 1, 6] | 2 => some [0, 1, 17] | 3 => some [4] | 4 => some [] | 5 => some [4] | _ => none
  track := fun | _ => false
  draw := fun | _ => .done
  iter := fun | _ => none }
def vc48 (a0 : Option (Nat × Nat)) (a1 : Int) (h : Heap) (R : Int → Heap → Prop) : Prop :=
  NilC a0 fun (b0 b1 : Nat) =>
    ∃ (p2 : Option Nat),
      cellsAt h b0 (b1 + 0) [Lf.map p2] ∧
        ∃ (i3 : Int),
          ∃ (c4 : Bool),
            LookR h (LT.int IntKind.i64) (VT.one (LT.int IntKind.u64)) [Lf.int IntKind.u64 (0 : Int)] p2 a1 [Lf.int IntKind.u64 i3] c4 ∧
              Br (!c4) (R (220 : Int) h)
                (NilC a0 fun (b5 b6 : Nat) =>
                  ∃ (p7 : Option Nat),
                    cellsAt h b5 (b6 + 0) [Lf.map p7] ∧
                      DelC (LT.int IntKind.i64) (VT.one (LT.int IntKind.u64)) h p7 a1 fun (h8 : Heap) => R (0 : Int) h8)
theorem eq48 (a0 : Option (Nat × Nat)) (a1 : Int) (h : Heap) (R : Int → Heap → Prop) : vc48 a0 a1 h R = vcFn Go.Proofs.Try.prog pl48 Go.Proofs.Try.f48 [.lf (.ptr a0), .lf (.int .i64 a1)] h [.one (.int .i64)] R := by kernel_rfl
theorem ok48 {a0 : Option (Nat × Nat)} {a1 : Int} {h : Heap} {R : Int → Heap → Prop} (hv : vc48 a0 a1 h R) : Call Go.Proofs.Try.prog 48 [.lf (.ptr a0), .lf (.int .i64 a1)] h [.one (.int .i64)] R := call_eq hng hmix Go.Proofs.Try.func48 (eq48 a0 a1 h R) hv
/- 49: (*sediment.snaps.List).All (l) -/
def pl49 : Plan := {
  blk := fun _ => none
  seq := fun _ => none
  loop := fun _ => none
  live := fun | 0 => some [0] | 1 => some [2] | _ => none
  track := fun | _ => false
  draw := fun | _ => .done
  iter := fun | _ => none }
def vc49 (a0 : Option (Nat × Nat)) (h : Heap) (R : Slc → Heap → Prop) : Prop :=
  Call Go.Proofs.Try.prog 97 [VV.lf (Lf.ptr a0)] h [VT.one LT.slc] fun (s0 : Slc) (h1 : Heap) => R s0 h1
theorem eq49 (a0 : Option (Nat × Nat)) (h : Heap) (R : Slc → Heap → Prop) : vc49 a0 h R = vcFn Go.Proofs.Try.prog pl49 Go.Proofs.Try.f49 [.lf (.ptr a0)] h [.one .slc] R := by kernel_rfl
theorem ok49 {a0 : Option (Nat × Nat)} {h : Heap} {R : Slc → Heap → Prop} (hv : vc49 a0 h R) : Call Go.Proofs.Try.prog 49 [.lf (.ptr a0)] h [.one .slc] R := call_eq hng hmix Go.Proofs.Try.func49 (eq49 a0 h R) hv
/- 50: (*sediment.snaps.List).Seq (l, handle) -/
def pl50 : Plan := {
  blk := fun _ => none
  seq := fun _ => none
  loop := fun _ => none
  live := fun | 0 => some [0, 1] | 1 => some [6, 7] | 2 => some [6, 18] | 3 => some [4, 5] | 4 => some [4, 5] | _ => none
  track := fun | _ => false
  draw := fun | _ => .done
  iter := fun | _ => none }
def vc50 (a0 : Option (Nat × Nat)) (a1 : Int) (h : Heap) (R : Int → Int → Heap → Prop) : Prop :=
  NilC a0 fun (b0 b1 : Nat) =>
    ∃ (p2 : Option Nat),
      cellsAt h b0 (b1 + 0) [Lf.map p2] ∧
        ∃ (i3 : Int),
          ∃ (c4 : Bool),
            LookR h (LT.int IntKind.i64) (VT.one (LT.int IntKind.u64)) [Lf.int IntKind.u64 (0 : Int)] p2 a1 [Lf.int IntKind.u64 i3] c4 ∧
              Br (!c4) (R (0 : Int) (220 : Int) h) (R i3 (0 : Int) h)
theorem eq50 (a0 : Option (Nat × Nat)) (a1 : Int) (h : Heap) (R : Int → Int → Heap → Prop) : vc50 a0 a1 h R = vcFn Go.Proofs.Try.prog pl50 Go.Proofs.Try.f50 [.lf (.ptr a0), .lf (.int .i64 a1)] h [.one (.int .u64), .one (.int .i64)] R := by kernel_rfl
theorem ok50 {a0 : Option (Nat × Nat)} {a1 : Int} {h : Heap} {R : Int → Int → Heap → Prop} (hv : vc50 a0 a1 h R) : Call Go.Proofs.Try.prog 50 [.lf (.ptr a0), .lf (.int .i64 a1)] h [.one (.int .u64), .one (.int .i64)] R := call_eq hng hmix Go.Proofs.Try.func50 (eq50 a0 a1 h R) hv
/- 51: (*sediment.snaps.List).Stripe (l, seq) -/
def pl51 : Plan := {
  blk := fun _ => none
  seq := fun _ => none
  loop := fun _ => none
  live := fun | 0 => some [0, 1] | 1 => some [4, 5] | _ => none
  track := fun | _ => false
  draw := fun | _ => .done
  iter := fun | _ => none }
def vc51 (a0 : Option (Nat × Nat)) (a1 : Int) (h : Heap) (R : Int → Bool → Heap → Prop) : Prop :=
  Call Go.Proofs.Try.prog 98 [VV.lf (Lf.ptr a0), VV.lf (Lf.int IntKind.u64 a1)] h [VT.one (LT.int IntKind.u64), VT.one LT.bool]
    fun (i0 : Int) (c1 : Bool) (h2 : Heap) => R i0 c1 h2
theorem eq51 (a0 : Option (Nat × Nat)) (a1 : Int) (h : Heap) (R : Int → Bool → Heap → Prop) : vc51 a0 a1 h R = vcFn Go.Proofs.Try.prog pl51 Go.Proofs.Try.f51 [.lf (.ptr a0), .lf (.int .u64 a1)] h [.one (.int .u64), .one .bool] R := by kernel_rfl
theorem ok51 {a0 : Option (Nat × Nat)} {a1 : Int} {h : Heap} {R : Int → Bool → Heap → Prop} (hv : vc51 a0 a1 h R) : Call Go.Proofs.Try.prog 51 [.lf (.ptr a0), .lf (.int .u64 a1)] h [.one (.int .u64), .one .bool] R := call_eq hng hmix Go.Proofs.Try.func51 (eq51 a0 a1 h R) hv
/- 57: (*sediment.snaps.List).Oldest (l) -/
def pl57 : Plan := {
  blk := fun _ => none
  seq := fun _ => none
  loop := fun _ => none
  live := fun | 0 => some [0] | 1 => some [2, 3] | _ => none
  track := fun | _ => false
  draw := fun | _ => .done
  iter := fun | _ => none }
def vc57 (a0 : Option (Nat × Nat)) (h : Heap) (R : Int → Bool → Heap → Prop) : Prop :=
  Call Go.Proofs.Try.prog 98 [VV.lf (Lf.ptr a0), VV.lf (Lf.int IntKind.u64 (0 : Int))] h [VT.one (LT.int IntKind.u64), VT.one LT.bool]
    fun (i0 : Int) (c1 : Bool) (h2 : Heap) => R i0 c1 h2
theorem eq57 (a0 : Option (Nat × Nat)) (h : Heap) (R : Int → Bool → Heap → Prop) : vc57 a0 h R = vcFn Go.Proofs.Try.prog pl57 Go.Proofs.Try.f57 [.lf (.ptr a0)] h [.one (.int .u64), .one .bool] R := by kernel_rfl
theorem ok57 {a0 : Option (Nat × Nat)} {h : Heap} {R : Int → Bool → Heap → Prop} (hv : vc57 a0 h R) : Call Go.Proofs.Try.prog 57 [.lf (.ptr a0)] h [.one (.int .u64), .one .bool] R := call_eq hng hmix Go.Proofs.Try.func57 (eq57 a0 h R) hv
/- 58: (*sediment.snaps.List).Len (l) -/
def pl58 : Plan := {
  blk := fun _ => none
  seq := fun _ => none
  loop := fun _ => none
  live := fun | 0 => some [0] | 1 => some [2] | _ => none
  track := fun | _ => false
  draw := fun | _ => .done
  iter := fun | _ => none }
def vc58 (a0 : Option (Nat × Nat)) (h : Heap) (R : Int → Heap → Prop) : Prop :=
  NilC a0 fun (b0 b1 : Nat) => ∃ (p2 : Option Nat), cellsAt h b0 (b1 + 0) [Lf.map p2] ∧ ∃ (i3 : Int), LenR h p2 i3 ∧ R i3 h
theorem eq58 (a0 : Option (Nat × Nat)) (h : Heap) (R : Int → Heap → Prop) : vc58 a0 h R = vcFn Go.Proofs.Try.prog pl58 Go.Proofs.Try.f58 [.lf (.ptr a0)] h [.one (.int .i64)] R := by kernel_rfl
theorem ok58 {a0 : Option (Nat × Nat)} {h : Heap} {R : Int → Heap → Prop} (hv : vc58 a0 h R) : Call Go.Proofs.Try.prog 58 [.lf (.ptr a0)] h [.one (.int .i64)] R := call_eq hng hmix Go.Proofs.Try.func58 (eq58 a0 h R) hv
/- 92: slices.Clone[[]uint64,uint64] (s) -/
def pl92 : Plan := {
  blk := fun _ => none
  seq := fun _ => none
  loop := fun _ => none
  live := fun | 0 => some [0] | 1 => some [0, 4] | 2 => some [2] | 3 => some [2] | _ => none
  track := fun | _ => false
  draw := fun | _ => .done
  iter := fun | _ => none }
def vc92 (a0 : Slc) (h : Heap) (R : Slc → Heap → Prop) : Prop :=
  Br (Option.isNone (Slc.a a0)) (R (Slc.mk Option.none 0 0) h)
    (New 22 [] h fun (b0 : Nat) (h1 : Heap) =>
      AppC 22 [Lf.int IntKind.u64 (0 : Int)] 1 8 (Slc.mk (Option.some (b0, 0)) 0 0) a0 h1 fun (s2 : Slc) (h3 : Heap) =>
        R s2 h3)
theorem eq92 (a0 : Slc) (h : Heap) (R : Slc → Heap → Prop) : vc92 a0 h R = vcFn Go.Proofs.Try.prog pl92 Go.Proofs.Try.f92 [.lf (.slc a0)] h [.one .slc] R := by kernel_rfl
theorem ok92 {a0 : Slc} {h : Heap} {R : Slc → Heap → Prop} (hv : vc92 a0 h R) : Call Go.Proofs.Try.prog 92 [.lf (.slc a0)] h [.one .slc] R := call_eq hng hmix Go.Proofs.Try.func92 (eq92 a0 h R) hv
/- 96: maps.Keys[map[uint64]int,uint64,int] (m) -/
def pl96 : Plan := {
  blk := fun _ => none
  seq := fun _ => none
  loop := fun _ => none
  live := fun | 0 => some [1] | 1 => some [2] | _ => none
  track := fun | _ => false
  draw := fun | _ => .done
  iter := fun | _ => none }
def vc96 (a0 : Option Nat) (h : Heap) (R : Value → Heap → Prop) : Prop :=
  New 150 [Lf.map a0] h fun (b0 : Nat) (h1 : Heap) => R (Value.func (Fn.func 129) #[] #[Value.pointer (Option.some (Addr.mk b0 0 Option.none))]) h1
theorem eq96 (a0 : Option Nat) (h : Heap) (R : Value → Heap → Prop) : vc96 a0 h R = vcFn Go.Proofs.Try.prog pl96 Go.Proofs.Try.f96 [.lf (.map a0)] h [.one .raw] R := by kernel_rfl
theorem ok96 {a0 : Option Nat} {h : Heap} {R : Value → Heap → Prop} (hv : vc96 a0 h R) : Call Go.Proofs.Try.prog 96 [.lf (.map a0)] h [.one .raw] R := call_eq hng hmix Go.Proofs.Try.func96 (eq96 a0 h R) hv
/- 131: maps.Values[map[int]uint64,int,uint64] (m) -/
def pl131 : Plan := {
  blk := fun _ => none
  seq := fun _ => none
  loop := fun _ => none
  live := fun | 0 => some [1] | 1 => some [2] | _ => none
  track := fun | _ => false
  draw := fun | _ => .done
  iter := fun | _ => none }
def vc131 (a0 : Option Nat) (h : Heap) (R : Value → Heap → Prop) : Prop :=
  New 89 [Lf.map a0] h fun (b0 : Nat) (h1 : Heap) => R (Value.func (Fn.func 156) #[] #[Value.pointer (Option.some (Addr.mk b0 0 Option.none))]) h1
theorem eq131 (a0 : Option Nat) (h : Heap) (R : Value → Heap → Prop) : vc131 a0 h R = vcFn Go.Proofs.Try.prog pl131 Go.Proofs.Try.f131 [.lf (.map a0)] h [.one .raw] R := by kernel_rfl
theorem ok131 {a0 : Option Nat} {h : Heap} {R : Value → Heap → Prop} (hv : vc131 a0 h R) : Call Go.Proofs.Try.prog 131 [.lf (.map a0)] h [.one .raw] R := call_eq hng hmix Go.Proofs.Try.func131 (eq131 a0 h R) hv
/- 129: maps.Keys[map[uint64]int,uint64,int]$1 (yield) · loop 1:  -/
def pl129 : Plan := {
  blk := fun _ => none
  seq := fun _ => none
  loop := fun | 1 => some ⟨[], [], []⟩ | _ => none
  live := fun | 0 => some [0, 5] | 1 => some [0, 5, 7] | 2 => some [0, 3, 5] | 3 => some [0, 5, 13] | _ => none
  track := fun | _ => false
  draw := fun | _ => .done
  iter := fun | 5 => some 150 | _ => none }
def vc129 (a0 : Value) (f0 : Nat) (o0 : Nat) (h : Heap) (R : Heap → Prop) : Prop :=
  ∃ (p0 : Option Nat),
    cellsAt h f0 o0 [Lf.map p0] ∧
      RngC h p0 fun (b1 : Nat) (h2 : Heap) =>
        ∃ (I3 : Heap → Nat → Prop),
          (∃ (b4 : Nat), I3 h2 b4) ∧
            ∀ (h5 : Heap) (b6 : Nat),
              I3 h5 b6 →
                NextC (LT.int IntKind.u64) (VT.one (LT.int IntKind.i64)) h5 b1 (fun (h7 : Heap) => R h7) fun (i8 : Int) (x9 : List Lf) (h10 : Heap) =>
                  ∃ (i11 : Int),
                    ∃ (i12 : Int),
                      EntryR h10 b1 (LT.int IntKind.u64) (VT.one (LT.int IntKind.i64)) i11 [Lf.int IntKind.i64 i12] ∧
                        CallV Go.Proofs.Try.prog a0 [VV.lf (Lf.int IntKind.u64 i11)] h10 [VT.one LT.bool] fun (c13 : Bool) (h14 : Heap) =>
                          Br (!c13) (R h14) (∃ (b15 : Nat), b15 < b6 ∧ I3 h14 b15)
theorem eq129 (a0 : Value) (f0 : Nat) (o0 : Nat) (h : Heap) (R : Heap → Prop) : vc129 a0 f0 o0 h R = vcFn Go.Proofs.Try.prog pl129 Go.Proofs.Try.f129 [.lf (.raw a0), .lf (.ptr (some (f0, o0)))] h [] R := by kernel_rfl
theorem ok129 {a0 : Value} {f0 : Nat} {o0 : Nat} {h : Heap} {R : Heap → Prop} (hv : vc129 a0 f0 o0 h R) : Call Go.Proofs.Try.prog 129 [.lf (.raw a0), .lf (.ptr (some (f0, o0)))] h [] R := call_eq hng hmix Go.Proofs.Try.func129 (eq129 a0 f0 o0 h R) hv
/- 156: maps.Values[map[int]uint64,int,uint64]$1 (yield) · loop 1:  -/
def pl156 : Plan := {
  blk := fun _ => none
  seq := fun _ => none
  loop := fun | 1 => some ⟨[], [], []⟩ | _ => none
  live := fun | 0 => some [0, 6] | 1 => some [0, 6, 8] | 2 => some [0, 4, 6] | 3 => some [0, 6, 14] | _ => none
  track := fun | _ => false
  draw := fun | _ => .done
  iter := fun | 6 => some 89 | _ => none }
def vc156 (a0 : Value) (f0 : Nat) (o0 : Nat) (h : Heap) (R : Heap → Prop) : Prop :=
  ∃ (p0 : Option Nat),
    cellsAt h f0 o0 [Lf.map p0] ∧
      RngC h p0 fun (b1 : Nat) (h2 : Heap) =>
        ∃ (I3 : Heap → Nat → Prop),
          (∃ (b4 : Nat), I3 h2 b4) ∧
            ∀ (h5 : Heap) (b6 : Nat),
              I3 h5 b6 →
                NextC (LT.int IntKind.i64) (VT.one (LT.int IntKind.u64)) h5 b1 (fun (h7 : Heap) => R h7) fun (i8 : Int) (x9 : List Lf) (h10 : Heap) =>
                  ∃ (i11 : Int),
                    ∃ (i12 : Int),
                      EntryR h10 b1 (LT.int IntKind.i64) (VT.one (LT.int IntKind.u64)) i11 [Lf.int IntKind.u64 i12] ∧
                        CallV Go.Proofs.Try.prog a0 [VV.lf (Lf.int IntKind.u64 i12)] h10 [VT.one LT.bool] fun (c13 : Bool) (h14 : Heap) =>
                          Br (!c13) (R h14) (∃ (b15 : Nat), b15 < b6 ∧ I3 h14 b15)
theorem eq156 (a0 : Value) (f0 : Nat) (o0 : Nat) (h : Heap) (R : Heap → Prop) : vc156 a0 f0 o0 h R = vcFn Go.Proofs.Try.prog pl156 Go.Proofs.Try.f156 [.lf (.raw a0), .lf (.ptr (some (f0, o0)))] h [] R := by kernel_rfl
theorem ok156 {a0 : Value} {f0 : Nat} {o0 : Nat} {h : Heap} {R : Heap → Prop} (hv : vc156 a0 f0 o0 h R) : Call Go.Proofs.Try.prog 156 [.lf (.raw a0), .lf (.ptr (some (f0, o0)))] h [] R := call_eq hng hmix Go.Proofs.Try.func156 (eq156 a0 f0 o0 h R) hv
/- 97: (*sediment.snaps.List).all (l) -/
def pl97 : Plan := {
  blk := fun _ => none
  seq := fun _ => none
  loop := fun _ => none
  live := fun | 0 => some [0] | 1 => some [2] | _ => none
  track := fun | _ => false
  draw := fun | _ => .done
  iter := fun | _ => none }
def vc97 (a0 : Option (Nat × Nat)) (h : Heap) (R : Slc → Heap → Prop) : Prop :=
  NilC a0 fun (b0 b1 : Nat) =>
    ∃ (p2 : Option Nat),
      cellsAt h b0 (b1 + 0) [Lf.map p2] ∧
        Call Go.Proofs.Try.prog 131 [VV.lf (Lf.map p2)] h [VT.one LT.raw] fun (x3 : Value) (h4 : Heap) =>
          Call Go.Proofs.Try.prog 95 [VV.lf (Lf.raw x3)] h4 [VT.one LT.slc] fun (s5 : Slc) (h6 : Heap) =>
            Call Go.Proofs.Try.prog 130 [VV.lf (Lf.slc s5)] h6 [VT.one LT.slc] fun (s7 : Slc) (h8 : Heap) => R s7 h8
theorem eq97 (a0 : Option (Nat × Nat)) (h : Heap) (R : Slc → Heap → Prop) : vc97 a0 h R = vcFn Go.Proofs.Try.prog pl97 Go.Proofs.Try.f97 [.lf (.ptr a0)] h [.one .slc] R := by kernel_rfl
theorem ok97 {a0 : Option (Nat × Nat)} {h : Heap} {R : Slc → Heap → Prop} (hv : vc97 a0 h R) : Call Go.Proofs.Try.prog 97 [.lf (.ptr a0)] h [.one .slc] R := call_eq hng hmix Go.Proofs.Try.func97 (eq97 a0 h R) hv
/- 98: (*sediment.snaps.List).stripe (l, seq) -/
def pl98 : Plan := {
  blk := fun _ => none
  seq := fun _ => none
  loop := fun _ => none
  live := fun | 0 => some [0, 1] | 1 => some [1, 6] | 2 => some [6, 7] | 3 => some [6, 7, 20] | 4 => some [4, 5] | 5 => some [4, 5] | _ => none
  track := fun | _ => false
  draw := fun | _ => .done
  iter := fun | _ => none }
def vc98 (a0 : Option (Nat × Nat)) (a1 : Int) (h : Heap) (R : Int → Bool → Heap → Prop) : Prop :=
  Call Go.Proofs.Try.prog 97 [VV.lf (Lf.ptr a0)] h [VT.one LT.slc] fun (s0 : Slc) (h1 : Heap) =>
    Call Go.Proofs.Try.prog 132 [VV.lf (Lf.slc s0), VV.lf (Lf.int IntKind.u64 a1)] h1 [VT.one (LT.int IntKind.i64), VT.one LT.bool]
      fun (i2 : Int) (c3 : Bool) (h4 : Heap) =>
      Br (i2 == (↑(Slc.len s0) : Int)) (R (0 : Int) Bool.false h4)
        (IxC s0 i2 1 fun (b5 b6 : Nat) => ∃ (i7 : Int), cellsAt h4 b5 b6 [Lf.int IntKind.u64 i7] ∧ R i7 Bool.true h4)
theorem eq98 (a0 : Option (Nat × Nat)) (a1 : Int) (h : Heap) (R : Int → Bool → Heap → Prop) : vc98 a0 a1 h R = vcFn Go.Proofs.Try.prog pl98 Go.Proofs.Try.f98 [.lf (.ptr a0), .lf (.int .u64 a1)] h [.one (.int .u64), .one .bool] R := by kernel_rfl
theorem ok98 {a0 : Option (Nat × Nat)} {a1 : Int} {h : Heap} {R : Int → Bool → Heap → Prop} (hv : vc98 a0 a1 h R) : Call Go.Proofs.Try.prog 98 [.lf (.ptr a0), .lf (.int .u64 a1)] h [.one (.int .u64), .one .bool] R := call_eq hng hmix Go.Proofs.Try.func98 (eq98 a0 a1 h R) hv
/- 130: slices.Compact[[]uint64,uint64] (s) · loop 4: k · loop 9: k, k2 -/
def pl130 : Plan := {
  blk := fun _ => none
  seq := fun _ => none
  loop := fun | 4 => some ⟨[(3, .one (.int .i64))], [], []⟩ | 9 => some ⟨[(3, .one (.int .i64)), (5, .one (.int .i64))], [], []⟩ | _ => none
  live := fun | 0 => some [0] | 1 => some [0, 8] | 2 => some [2] | 3 => some [0, 3] | 4 => some [0, 3, 13] | 5 => some [0, 3] | 6 => some [0, 3, 25] | 7 => some [0, 3, 4] | 8 => some [0, 3, 4, 5] | 9 => some [0, 3, 4, 5, 32] | 10 => some [0, 3, 4, 5] | 11 => some [0, 3, 4, 5, 44] | 12 => some [0, 3, 4, 5] | 13 => some [0, 3, 4, 5] | 14 => some [0, 3] | 15 => some [2] | 16 => some [2] | _ => none
  track := fun | _ => false
  draw := fun | 6 => .still 0 (.still 1 (.still 2 (.still 3 (.still 4 (.still 5 (.still 6 (.still 7 (.still 8 (.still 9 (.done)))))))))) | 11 => .still 0 (.still 1 (.still 2 (.still 3 (.still 4 (.still 5 (.still 6 (.still 7 (.still 8 (.still 9 (.done)))))))))) | _ => .done
  iter := fun | _ => none }
def vc130 (a0 : Slc) (h : Heap) (R : Slc → Heap → Prop) : Prop :=
  Br (Decidable.decide ((↑(Slc.len a0) : Int) < (2 : Int))) (R a0 h)
    (∃ (I0 : Int → Heap → Nat → Prop),
      (∃ (b1 : Nat), I0 (1 : Int) h b1) ∧
        ∀ (i2 : Int) (h3 : Heap) (b4 : Nat),
          I0 i2 h3 b4 →
            Br (Decidable.decide (i2 < (↑(Slc.len a0) : Int)))
              (IxC a0 i2 1 fun (b5 b6 : Nat) =>
                ∃ (i7 : Int),
                  cellsAt h3 b5 b6 [Lf.int IntKind.u64 i7] ∧
                    IxC a0 (IntKind.wrap IntKind.i64 (i2 - (1 : Int))) 1 fun (b8 b9 : Nat) =>
                      ∃ (i10 : Int),
                        cellsAt h3 b8 b9 [Lf.int IntKind.u64 i10] ∧
                          Br (i7 == i10)
                            ((0 : Int) ≤ i2 ∧
                              i2 ≤ (↑(Slc.len a0) : Int) ∧
                                ∃ (I11 : Int → Int → Heap → Nat → Prop),
                                  (∃ (b12 : Nat), I11 i2 (1 : Int) h3 b12) ∧
                                    ∀ (i13 i14 : Int) (h15 : Heap) (b16 : Nat),
                                      I11 i13 i14 h15 b16 →
                                        Br (Decidable.decide (i14 < (↑(Slc.len (Slc.sub a0 1 (Int.toNat i2) (Slc.len a0) (Slc.cap a0))) : Int)))
                                          (IxC (Slc.sub a0 1 (Int.toNat i2) (Slc.len a0) (Slc.cap a0)) i14 1 fun (b17 b18 : Nat) =>
                                            ∃ (i19 : Int),
                                              cellsAt h15 b17 b18 [Lf.int IntKind.u64 i19] ∧
                                                IxC (Slc.sub a0 1 (Int.toNat i2) (Slc.len a0) (Slc.cap a0)) (IntKind.wrap IntKind.i64 (i14 - (1 : Int))) 1
                                                  fun (b20 b21 : Nat) =>
                                                  ∃ (i22 : Int),
                                                    cellsAt h15 b20 b21 [Lf.int IntKind.u64 i22] ∧
                                                      Br (i19 != i22)
                                                        (IxC (Slc.sub a0 1 (Int.toNat i2) (Slc.len a0) (Slc.cap a0)) i14 1 fun (b23 b24 : Nat) =>
                                                          ∃ (i25 : Int),
                                                            cellsAt h15 b23 b24 [Lf.int IntKind.u64 i25] ∧
                                                              IxC a0 i13 1 fun (b26 b27 : Nat) =>
                                                                StC h15 b26 b27 [Lf.int IntKind.u64 i25] fun (h28 : Heap) =>
                                                                  ∃ (b29 : Nat),
                                                                    b29 < b16 ∧ I11 (IntKind.wrap IntKind.i64 (i13 + (1 : Int))) (IntKind.wrap IntKind.i64 (i14 + (1 : Int))) h28 b29)
                                                        (∃ (b30 : Nat), b30 < b16 ∧ I11 i13 (IntKind.wrap IntKind.i64 (i14 + (1 : Int))) h15 b30))
                                          ((0 : Int) ≤ i13 ∧
                                            i13 ≤ (↑(Slc.len a0) : Int) ∧
                                              ClrC [Lf.int IntKind.u64 (0 : Int)] (Slc.sub a0 1 (Int.toNat i13) (Slc.len a0) (Slc.cap a0)) h15
                                                fun (h31 : Heap) =>
                                                (0 : Int) ≤ i13 ∧ i13 ≤ (↑(Slc.cap a0) : Int) ∧ R (Slc.sub a0 1 0 (Int.toNat i13) (Slc.cap a0)) h31))
                            (∃ (b32 : Nat), b32 < b4 ∧ I0 (IntKind.wrap IntKind.i64 (i2 + (1 : Int))) h3 b32))
              (R a0 h3))
theorem eq130 (a0 : Slc) (h : Heap) (R : Slc → Heap → Prop) : vc130 a0 h R = vcFn Go.Proofs.Try.prog pl130 Go.Proofs.Try.f130 [.lf (.slc a0)] h [.one .slc] R := by kernel_rfl
theorem ok130 {a0 : Slc} {h : Heap} {R : Slc → Heap → Prop} (hv : vc130 a0 h R) : Call Go.Proofs.Try.prog 130 [.lf (.slc a0)] h [.one .slc] R := call_eq hng hmix Go.Proofs.Try.func130 (eq130 a0 h R) hv
/- 132: slices.BinarySearch[[]uint64,uint64] (x, target) · loop 3: i, j -/
def pl132 : Plan := {
  blk := fun _ => none
  seq := fun _ => none
  loop := fun | 3 => some ⟨[(7, .one (.int .i64)), (8, .one (.int .i64))], [], []⟩ | _ => none
  live := fun | 0 => some [0, 1] | 1 => some [0, 1, 6] | 2 => some [0, 1, 6, 7, 8] | 3 => some [0, 1, 6, 7, 8, 15] | 4 => some [0, 1, 6, 7, 8, 9] | 5 => some [0, 1, 6, 7, 8, 9, 27] | 6 => some [0, 1, 6, 7, 8] | 7 => some [0, 1, 6, 7, 8] | 8 => some [4, 5] | _ => none
  track := fun | _ => false
  draw := fun | _ => .done
  iter := fun | _ => none }
def vc132 (a0 : Slc) (a1 : Int) (h : Heap) (R : Int → Bool → Heap → Prop) : Prop :=
  ∃ (I0 : Int → Int → Heap → Nat → Prop),
    (∃ (b1 : Nat), I0 (0 : Int) (↑(Slc.len a0) : Int) h b1) ∧
      ∀ (i2 i3 : Int) (h4 : Heap) (b5 : Nat),
        I0 i2 i3 h4 b5 →
          Br (Decidable.decide (i2 < i3))
            ((0 : Int) ≤ (1 : Int) ∧
              IxC a0 (IntKind.wrap IntKind.i64 (shiftR IntKind.u64 (IntKind.wrap IntKind.u64 (IntKind.wrap IntKind.i64 (i2 + i3))) (1 : Int))) 1
                fun (b6 b7 : Nat) =>
                ∃ (i8 : Int),
                  cellsAt h4 b6 b7 [Lf.int IntKind.u64 i8] ∧
                    Call Go.Proofs.Try.prog 150 [VV.lf (Lf.int IntKind.u64 i8), VV.lf (Lf.int IntKind.u64 a1)] h4 [VT.one LT.bool]
                      fun (c9 : Bool) (h10 : Heap) =>
                      Br c9
                        (∃ (b11 : Nat),
                          b11 < b5 ∧
                            I0
                              (IntKind.wrap IntKind.i64
                                (IntKind.wrap IntKind.i64 (shiftR IntKind.u64 (IntKind.wrap IntKind.u64 (IntKind.wrap IntKind.i64 (i2 + i3))) (1 : Int)) + (1 : Int)))
                              i3 h10 b11)
                        (∃ (b12 : Nat),
                          b12 < b5 ∧ I0 i2 (IntKind.wrap IntKind.i64 (shiftR IntKind.u64 (IntKind.wrap IntKind.u64 (IntKind.wrap IntKind.i64 (i2 + i3))) (1 : Int))) h10 b12))
            (Br (Decidable.decide (i2 < (↑(Slc.len a0) : Int)))
              (IxC a0 i2 1 fun (b13 b14 : Nat) =>
                ∃ (i15 : Int),
                  cellsAt h4 b13 b14 [Lf.int IntKind.u64 i15] ∧
                    Br (i15 == a1) (R i2 Bool.true h4)
                      (IxC a0 i2 1 fun (b16 b17 : Nat) =>
                        ∃ (i18 : Int),
                          cellsAt h4 b16 b17 [Lf.int IntKind.u64 i18] ∧
                            Call Go.Proofs.Try.prog 157 [VV.lf (Lf.int IntKind.u64 i18)] h4 [VT.one LT.bool] fun (c19 : Bool) (h20 : Heap) =>
                              Br c19
                                (Call Go.Proofs.Try.prog 157 [VV.lf (Lf.int IntKind.u64 a1)] h20 [VT.one LT.bool] fun (c21 : Bool) (h22 : Heap) =>
                                  R i2 c21 h22)
                                (R i2 Bool.false h20)))
              (R i2 Bool.false h4))
theorem eq132 (a0 : Slc) (a1 : Int) (h : Heap) (R : Int → Bool → Heap → Prop) : vc132 a0 a1 h R = vcFn Go.Proofs.Try.prog pl132 Go.Proofs.Try.f132 [.lf (.slc a0), .lf (.int .u64 a1)] h [.one (.int .i64), .one .bool] R := by kernel_rfl
theorem ok132 {a0 : Slc} {a1 : Int} {h : Heap} {R : Int → Bool → Heap → Prop} (hv : vc132 a0 a1 h R) : Call Go.Proofs.Try.prog 132 [.lf (.slc a0), .lf (.int .u64 a1)] h [.one (.int .i64), .one .bool] R := call_eq hng hmix Go.Proofs.Try.func132 (eq132 a0 a1 h R) hv
/- 128: slices.Collect[uint64] (seq) -/
def pl128 : Plan := {
  blk := fun _ => none
  seq := fun _ => none
  loop := fun _ => none
  live := fun | 0 => some [0] | 1 => some [2] | _ => none
  track := fun | _ => false
  draw := fun | _ => .done
  iter := fun | _ => none }
def vc128 (a0 : Value) (h : Heap) (R : Slc → Heap → Prop) : Prop :=
  Call Go.Proofs.Try.prog 155 [VV.lf (Lf.slc (Slc.mk Option.none 0 0)), VV.lf (Lf.raw a0)] h [VT.one LT.slc]
    fun (s0 : Slc) (h1 : Heap) => R s0 h1
theorem eq128 (a0 : Value) (h : Heap) (R : Slc → Heap → Prop) : vc128 a0 h R = vcFn Go.Proofs.Try.prog pl128 Go.Proofs.Try.f128 [.lf (.raw a0)] h [.one .slc] R := by kernel_rfl
theorem ok128 {a0 : Value} {h : Heap} {R : Slc → Heap → Prop} (hv : vc128 a0 h R) : Call Go.Proofs.Try.prog 128 [.lf (.raw a0)] h [.one .slc] R := call_eq hng hmix Go.Proofs.Try.func128 (eq128 a0 h R) hv
/- 95: slices.Sorted[uint64] (seq) -/
def pl95 : Plan := {
  blk := fun _ => none
  seq := fun _ => none
  loop := fun _ => none
  live := fun | 0 => some [0] | 1 => some [3] | 2 => some [3] | 3 => some [2] | _ => none
  track := fun | _ => false
  draw := fun | _ => .done
  iter := fun | _ => none }
def vc95 (a0 : Value) (h : Heap) (R : Slc → Heap → Prop) : Prop :=
  Call Go.Proofs.Try.prog 128 [VV.lf (Lf.raw a0)] h [VT.one LT.slc] fun (s0 : Slc) (h1 : Heap) =>
    Call Go.Proofs.Try.prog 93 [VV.lf (Lf.slc s0)] h1 [] fun (h2 : Heap) => R s0 h2
theorem eq95 (a0 : Value) (h : Heap) (R : Slc → Heap → Prop) : vc95 a0 h R = vcFn Go.Proofs.Try.prog pl95 Go.Proofs.Try.f95 [.lf (.raw a0)] h [.one .slc] R := by kernel_rfl
theorem ok95 {a0 : Value} {h : Heap} {R : Slc → Heap → Prop} (hv : vc95 a0 h R) : Call Go.Proofs.Try.prog 95 [.lf (.raw a0)] h [.one .slc] R := call_eq hng hmix Go.Proofs.Try.func95 (eq95 a0 h R) hv
/- 155: slices.AppendSeq[[]uint64,uint64] (s, seq) -/
def pl155 : Plan := {
  blk := fun _ => none
  seq := fun _ => none
  loop := fun _ => none
  live := fun | 0 => some [1, 2] | 1 => some [2, 6] | 2 => some [2, 5] | 3 => some [] | 4 => some [4] | _ => none
  track := fun | _ => false
  draw := fun | _ => .done
  iter := fun | _ => none
  yt := fun | 2 => some [.one (.int .u64)] | _ => none }
def vc155 (a0 : Slc) (a1 : Value) (h : Heap) (R : Slc → Heap → Prop) : Prop :=
  New 77 [Lf.slc a0] h fun (b0 : Nat) (h1 : Heap) =>
    ∀ (lp2 : Loop),
      LoopC lp2 h1 fun (b3 b4 : Nat) (h5 : Heap) =>
        (∀ (h6 : Heap) (I7 : Bool → Heap → Prop),
            LAt h6 b4 lp2 →
              ∀ (i8 : Int),
                (LBusy h6 b4 lp2 fun (h9 : Heap) =>
                    ∃ (s10 : Slc),
                      cellsAt h9 b0 0 [Lf.slc s10] ∧
                        New 22 [Lf.int IntKind.u64 i8] h9 fun (b11 : Nat) (h12 : Heap) =>
                          AppC 22 [Lf.int IntKind.u64 (0 : Int)] 1 8 s10 (Slc.mk (Option.some (b11, 0)) 1 1) h12
                            fun (s13 : Slc) (h14 : Heap) =>
                            StC h14 b0 0 [Lf.slc s13] fun (h15 : Heap) => LReady h15 b4 lp2 fun (h16 : Heap) => I7 Bool.true h16) →
                  CallV Go.Proofs.Try.prog (yv b4) [VV.lf (Lf.int IntKind.u64 i8)] h6 [VT.one LT.bool] fun (c17 : Bool) (h18 : Heap) => I7 c17 h18) →
          CallF Go.Proofs.Try.prog a1 [VV.lf (Lf.raw (yv b4))] h5 [] fun (h19 : Heap) =>
            LEnd h19 b4 lp2 fun (h20 : Heap) => ∃ (s21 : Slc), cellsAt h20 b0 0 [Lf.slc s21] ∧ CollC h20 b3 fun (h22 : Heap) => R s21 h22
theorem eq155 (a0 : Slc) (a1 : Value) (h : Heap) (R : Slc → Heap → Prop) : vc155 a0 a1 h R = vcFn Go.Proofs.Try.prog pl155 Go.Proofs.Try.f155 [.lf (.slc a0), .lf (.raw a1)] h [.one .slc] R := by kernel_rfl
theorem ok155 {a0 : Slc} {a1 : Value} {h : Heap} {R : Slc → Heap → Prop} (hv : vc155 a0 a1 h R) : Call Go.Proofs.Try.prog 155 [.lf (.slc a0), .lf (.raw a1)] h [.one .slc] R := call_eq hng hmix Go.Proofs.Try.func155 (eq155 a0 a1 h R) hv
/- 157: slices.isNaN[uint64] (x) -/
def pl157 : Plan := {
  blk := fun _ => none
  seq := fun _ => none
  loop := fun _ => none
  live := fun | 0 => some [0] | 1 => some [2] | _ => none
  track := fun | _ => false
  draw := fun | _ => .done
  iter := fun | _ => none }
def vc157 (a0 : Int) (h : Heap) (R : Bool → Heap → Prop) : Prop :=
  R (a0 != a0) h
theorem eq157 (a0 : Int) (h : Heap) (R : Bool → Heap → Prop) : vc157 a0 h R = vcFn Go.Proofs.Try.prog pl157 Go.Proofs.Try.f157 [.lf (.int .u64 a0)] h [.one .bool] R := by kernel_rfl
theorem ok157 {a0 : Int} {h : Heap} {R : Bool → Heap → Prop} (hv : vc157 a0 h R) : Call Go.Proofs.Try.prog 157 [.lf (.int .u64 a0)] h [.one .bool] R := call_eq hng hmix Go.Proofs.Try.func157 (eq157 a0 h R) hv
end Go.V.Yteojmnnobmpdiaa
set_option linter.unusedVariables false
set_option maxRecDepth 100000
namespace Go.V.Yteojmnnobmpdiaa
open Go Go.V
/- 37: (*sediment.sedimentref22.Refs).Add (r, files) -/
def pl37 : Plan := {
  blk := fun _ => none
  seq := fun _ => none
  loop := fun _ => none
  live := fun | 0 => some [0, 1] | 1 => some [0] | 2 => some [4] | _ => none
  track := fun | _ => false
  draw := fun | 1 => .still 0 (.still 1 (.still 2 (.still 3 (.still 4 (.still 5 (.still 7 (.still 11 (.still 12 (.still 13 (.still 14 (.alt 6 (.alt 8 (.alt 9 (.alt 10 (.mem 15 (.mem 16 (.still 17 (.still 18 (.mem 19 (.still 20 (.still 21 (.mem 22 (.done))))))))) (.mem 15 (.mem 10 (.mem 16 (.still 17 (.still 18 (.mem 19 (.still 20 (.still 21 (.mem 22 (.done))))))))))) (.mem 15 (.mem 9 (.mem 10 (.mem 16 (.still 17 (.still 18 (.mem 19 (.still 20 (.still 21 (.mem 22 (.done)))))))))))) (.mem 15 (.mem 8 (.mem 9 (.mem 10 (.mem 16 (.still 17 (.still 18 (.mem 19 (.still 20 (.still 21 (.mem 22 (.done))))))))))))) (.mem 15 (.mem 6 (.mem 8 (.mem 9 (.mem 10 (.mem 16 (.still 17 (.still 18 (.mem 19 (.still 20 (.still 21 (.mem 22 (.done)))))))))))))))))))))))) | _ => .done
  iter := fun | _ => none }
def vc37 (a0 : Option (Nat × Nat)) (a1 : Slc) (h : Heap) (R : Int → Heap → Prop) : Prop :=
  NilC a0 fun (b0 b1 : Nat) =>
    ∃ (s2 : Slc),
      cellsAt h b0 (b1 + 0) [Lf.slc s2] ∧
        NilC a0 fun (b3 b4 : Nat) =>
          ∃ (s5 : Slc),
            cellsAt h b3 (b4 + 1) [Lf.slc s5] ∧
              (New 22 [] h fun (b6 : Nat) (h7 : Heap) =>
                  cellsAt h7 b3 (b4 + 1) [Lf.slc s5] ∧
                    cellsAt h7 b0 (b1 + 0) [Lf.slc s2] ∧
                      (AppC 22 [Lf.int IntKind.u64 (0 : Int)] 1 8 (Slc.mk (Option.some (b6, 0)) 0 0) a1 h7
                          fun (s8 : Slc) (h9 : Heap) =>
                          cellsAt h9 b3 (b4 + 1) [Lf.slc s5] ∧
                            cellsAt h9 b0 (b1 + 0) [Lf.slc s2] ∧
                              (New 77 [Lf.slc s8] h9 fun (b10 : Nat) (h11 : Heap) =>
                                  cellsAt h11 b3 (b4 + 1) [Lf.slc s5] ∧
                                    cellsAt h11 b0 (b1 + 0) [Lf.slc s2] ∧
                                      (AppC 77 [Lf.slc (Slc.mk Option.none 0 0)] 1 24 s2
                                          (Slc.mk (Option.some (b10, 0)) 1 1) h11 fun (s12 : Slc) (h13 : Heap) =>
                                          cellsAt h13 b3 (b4 + 1) [Lf.slc s5] ∧
                                            New 4 [Lf.bool Bool.true] h13 fun (b14 : Nat) (h15 : Heap) =>
                                              cellsAt h15 b3 (b4 + 1) [Lf.slc s5] ∧
                                                AppC 4 [Lf.bool Bool.false] 1 1 s5 (Slc.mk (Option.some (b14, 0)) 1 1) h15
                                                  fun (s16 : Slc) (h17 : Heap) =>
                                                  NilC a0 fun (b18 b19 : Nat) =>
                                                    StC h17 b18 (b19 + 0) [Lf.slc s12] fun (h20 : Heap) =>
                                                      NilC a0 fun (b21 b22 : Nat) =>
                                                        StC h20 b21 (b22 + 1) [Lf.slc s16] fun (h23 : Heap) =>
                                                          NilC a0 fun (b24 b25 : Nat) =>
                                                            ∃ (s26 : Slc), cellsAt h23 b24 (b25 + 0) [Lf.slc s26] ∧ R (↑(Slc.len s26) : Int) h23) ∧
                                        New 4 [Lf.bool Bool.true] h11 fun (b27 : Nat) (h28 : Heap) =>
                                          cellsAt h28 b3 (b4 + 1) [Lf.slc s5] ∧
                                            cellsAt h28 b0 (b1 + 0) [Lf.slc s2] ∧
                                              AppC 77 [Lf.slc (Slc.mk Option.none 0 0)] 1 24 s2
                                                (Slc.mk (Option.some (b10, 0)) 1 1) h28 fun (s29 : Slc) (h30 : Heap) =>
                                                cellsAt h30 b3 (b4 + 1) [Lf.slc s5] ∧
                                                  AppC 4 [Lf.bool Bool.false] 1 1 s5 (Slc.mk (Option.some (b27, 0)) 1 1) h30
                                                    fun (s31 : Slc) (h32 : Heap) =>
                                                    NilC a0 fun (b33 b34 : Nat) =>
                                                      StC h32 b33 (b34 + 0) [Lf.slc s29] fun (h35 : Heap) =>
                                                        NilC a0 fun (b36 b37 : Nat) =>
                                                          StC h35 b36 (b37 + 1) [Lf.slc s31] fun (h38 : Heap) =>
                                                            NilC a0 fun (b39 b40 : Nat) =>
                                                              ∃ (s41 : Slc), cellsAt h38 b39 (b40 + 0) [Lf.slc s41] ∧ R (↑(Slc.len s41) : Int) h38) ∧
                                New 4 [Lf.bool Bool.true] h9 fun (b42 : Nat) (h43 : Heap) =>
                                  cellsAt h43 b3 (b4 + 1) [Lf.slc s5] ∧
                                    cellsAt h43 b0 (b1 + 0) [Lf.slc s2] ∧
                                      New 77 [Lf.slc s8] h43 fun (b44 : Nat) (h45 : Heap) =>
                                        cellsAt h45 b3 (b4 + 1) [Lf.slc s5] ∧
                                          cellsAt h45 b0 (b1 + 0) [Lf.slc s2] ∧
                                            AppC 77 [Lf.slc (Slc.mk Option.none 0 0)] 1 24 s2
                                              (Slc.mk (Option.some (b44, 0)) 1 1) h45 fun (s46 : Slc) (h47 : Heap) =>
                                              cellsAt h47 b3 (b4 + 1) [Lf.slc s5] ∧
                                                AppC 4 [Lf.bool Bool.false] 1 1 s5 (Slc.mk (Option.some (b42, 0)) 1 1) h47
                                                  fun (s48 : Slc) (h49 : Heap) =>
                                                  NilC a0 fun (b50 b51 : Nat) =>
                                                    StC h49 b50 (b51 + 0) [Lf.slc s46] fun (h52 : Heap) =>
                                                      NilC a0 fun (b53 b54 : Nat) =>
                                                        StC h52 b53 (b54 + 1) [Lf.slc s48] fun (h55 : Heap) =>
                                                          NilC a0 fun (b56 b57 : Nat) =>
                                                            ∃ (s58 : Slc), cellsAt h55 b56 (b57 + 0) [Lf.slc s58] ∧ R (↑(Slc.len s58) : Int) h55) ∧
                        New 4 [Lf.bool Bool.true] h7 fun (b59 : Nat) (h60 : Heap) =>
                          cellsAt h60 b3 (b4 + 1) [Lf.slc s5] ∧
                            cellsAt h60 b0 (b1 + 0) [Lf.slc s2] ∧
                              AppC 22 [Lf.int IntKind.u64 (0 : Int)] 1 8 (Slc.mk (Option.some (b6, 0)) 0 0) a1 h60
                                fun (s61 : Slc) (h62 : Heap) =>
                                cellsAt h62 b3 (b4 + 1) [Lf.slc s5] ∧
                                  cellsAt h62 b0 (b1 + 0) [Lf.slc s2] ∧
                                    New 77 [Lf.slc s61] h62 fun (b63 : Nat) (h64 : Heap) =>
                                      cellsAt h64 b3 (b4 + 1) [Lf.slc s5] ∧
                                        cellsAt h64 b0 (b1 + 0) [Lf.slc s2] ∧
                                          AppC 77 [Lf.slc (Slc.mk Option.none 0 0)] 1 24 s2
                                            (Slc.mk (Option.some (b63, 0)) 1 1) h64 fun (s65 : Slc) (h66 : Heap) =>
                                            cellsAt h66 b3 (b4 + 1) [Lf.slc s5] ∧
                                              AppC 4 [Lf.bool Bool.false] 1 1 s5 (Slc.mk (Option.some (b59, 0)) 1 1) h66
                                                fun (s67 : Slc) (h68 : Heap) =>
                                                NilC a0 fun (b69 b70 : Nat) =>
                                                  StC h68 b69 (b70 + 0) [Lf.slc s65] fun (h71 : Heap) =>
                                                    NilC a0 fun (b72 b73 : Nat) =>
                                                      StC h71 b72 (b73 + 1) [Lf.slc s67] fun (h74 : Heap) =>
                                                        NilC a0 fun (b75 b76 : Nat) =>
                                                          ∃ (s77 : Slc), cellsAt h74 b75 (b76 + 0) [Lf.slc s77] ∧ R (↑(Slc.len s77) : Int) h74) ∧
                New 4 [Lf.bool Bool.true] h fun (b78 : Nat) (h79 : Heap) =>
                  cellsAt h79 b3 (b4 + 1) [Lf.slc s5] ∧
                    cellsAt h79 b0 (b1 + 0) [Lf.slc s2] ∧
                      New 22 [] h79 fun (b80 : Nat) (h81 : Heap) =>
                        cellsAt h81 b3 (b4 + 1) [Lf.slc s5] ∧
                          cellsAt h81 b0 (b1 + 0) [Lf.slc s2] ∧
                            AppC 22 [Lf.int IntKind.u64 (0 : Int)] 1 8 (Slc.mk (Option.some (b80, 0)) 0 0) a1 h81
                              fun (s82 : Slc) (h83 : Heap) =>
                              cellsAt h83 b3 (b4 + 1) [Lf.slc s5] ∧
                                cellsAt h83 b0 (b1 + 0) [Lf.slc s2] ∧
                                  New 77 [Lf.slc s82] h83 fun (b84 : Nat) (h85 : Heap) =>
                                    cellsAt h85 b3 (b4 + 1) [Lf.slc s5] ∧
                                      cellsAt h85 b0 (b1 + 0) [Lf.slc s2] ∧
                                        AppC 77 [Lf.slc (Slc.mk Option.none 0 0)] 1 24 s2
                                          (Slc.mk (Option.some (b84, 0)) 1 1) h85 fun (s86 : Slc) (h87 : Heap) =>
                                          cellsAt h87 b3 (b4 + 1) [Lf.slc s5] ∧
                                            AppC 4 [Lf.bool Bool.false] 1 1 s5 (Slc.mk (Option.some (b78, 0)) 1 1) h87
                                              fun (s88 : Slc) (h89 : Heap) =>
                                              NilC a0 fun (b90 b91 : Nat) =>
                                                StC h89 b90 (b91 + 0) [Lf.slc s86] fun (h92 : Heap) =>
                                                  NilC a0 fun (b93 b94 : Nat) =>
                                                    StC h92 b93 (b94 + 1) [Lf.slc s88] fun (h95 : Heap) =>
                                                      NilC a0 fun (b96 b97 : Nat) => ∃ (s98 : Slc), cellsAt h95 b96 (b97 + 0) [Lf.slc s98] ∧ R (↑(Slc.len s98) : Int) h95
theorem eq37 (a0 : Option (Nat × Nat)) (a1 : Slc) (h : Heap) (R : Int → Heap → Prop) : vc37 a0 a1 h R = vcFn Go.Proofs.Try.prog pl37 Go.Proofs.Try.f37 [.lf (.ptr a0), .lf (.slc a1)] h [.one (.int .i64)] R := by kernel_rfl
theorem ok37 {a0 : Option (Nat × Nat)} {a1 : Slc} {h : Heap} {R : Int → Heap → Prop} (hv : vc37 a0 a1 h R) : Call Go.Proofs.Try.prog 37 [.lf (.ptr a0), .lf (.slc a1)] h [.one (.int .i64)] R := call_eq hng hmix Go.Proofs.Try.func37 (eq37 a0 a1 h R) hv
/- 39: (*sediment.sedimentref22.Refs).Drop () · seq 2: #29 · loop 6: #6, #7 -/
def pl39 : Plan := {
  blk := fun _ => none
  seq := fun | 2 => some ⟨[(29, .one .bool)], [], []⟩ | _ => none
  loop := fun | 6 => some ⟨[(6, .one .slc), (7, .one (.int .i64))], [], []⟩ | _ => none
  live := fun | 0 => some [0, 1] | 1 => some [0, 1, 29] | 2 => some [4, 5] | 3 => some [0, 1] | 4 => some [0, 1, 6] | 5 => some [0, 1, 6, 7] | 6 => some [0, 1, 6, 7, 47] | 7 => some [0, 1, 6, 7] | 8 => some [0, 1, 6, 7, 63] | 9 => some [0, 1, 6, 7] | 10 => some [4, 5] | _ => none
  track := fun | _ => false
  draw := fun | _ => .done
  iter := fun | _ => none }
def vc39 (a0 : Option (Nat × Nat)) (a1 : Int) (h : Heap) (R : Slc → Int → Heap → Prop) : Prop :=
  ∃ (I0 : Bool → Heap → Prop),
    Br (Decidable.decide (a1 < (1 : Int))) (I0 Bool.true h)
        (NilC a0 fun (b1 b2 : Nat) =>
          ∃ (s3 : Slc),
            cellsAt h b1 (b2 + 0) [Lf.slc s3] ∧
              Br (Decidable.decide (a1 > (↑(Slc.len s3) : Int))) (I0 Bool.true h)
                (NilC a0 fun (b4 b5 : Nat) =>
                  ∃ (s6 : Slc),
                    cellsAt h b4 (b5 + 1) [Lf.slc s6] ∧
                      IxC s6 (IntKind.wrap IntKind.i64 (a1 - (1 : Int))) 1 fun (b7 b8 : Nat) => ∃ (c9 : Bool), cellsAt h b7 b8 [Lf.bool c9] ∧ I0 (!c9) h)) ∧
      ∀ (c10 : Bool) (h11 : Heap),
        I0 c10 h11 →
          Br c10 (R (Slc.mk Option.none 0 0) (220 : Int) h11)
            (NilC a0 fun (b12 b13 : Nat) =>
              ∃ (s14 : Slc),
                cellsAt h11 b12 (b13 + 1) [Lf.slc s14] ∧
                  IxC s14 (IntKind.wrap IntKind.i64 (a1 - (1 : Int))) 1 fun (b15 b16 : Nat) =>
                    StC h11 b15 b16 [Lf.bool Bool.false] fun (h17 : Heap) =>
                      ∃ (I18 : Slc → Int → Heap → Nat → Prop),
                        (∃ (b19 : Nat), I18 (Slc.mk Option.none 0 0) (0 : Int) h17 b19) ∧
                          ∀ (s20 : Slc) (i21 : Int) (h22 : Heap) (b23 : Nat),
                            I18 s20 i21 h22 b23 →
                              NilC a0 fun (b24 b25 : Nat) =>
                                ∃ (s26 : Slc),
                                  cellsAt h22 b24 (b25 + 0) [Lf.slc s26] ∧
                                    IxC s26 (IntKind.wrap IntKind.i64 (a1 - (1 : Int))) 1 fun (b27 b28 : Nat) =>
                                      ∃ (s29 : Slc),
                                        cellsAt h22 b27 b28 [Lf.slc s29] ∧
                                          Br (Decidable.decide (i21 < (↑(Slc.len s29) : Int)))
                                            (NilC a0 fun (b30 b31 : Nat) =>
                                              ∃ (s32 : Slc),
                                                cellsAt h22 b30 (b31 + 0) [Lf.slc s32] ∧
                                                  IxC s32 (IntKind.wrap IntKind.i64 (a1 - (1 : Int))) 1 fun (b33 b34 : Nat) =>
                                                    ∃ (s35 : Slc),
                                                      cellsAt h22 b33 b34 [Lf.slc s35] ∧
                                                        IxC s35 i21 1 fun (b36 b37 : Nat) =>
                                                          ∃ (i38 : Int),
                                                            cellsAt h22 b36 b37 [Lf.int IntKind.u64 i38] ∧
                                                              Call Go.Proofs.Try.prog 44 [VV.lf (Lf.ptr a0), VV.lf (Lf.int IntKind.u64 i38)] h22
                                                                [VT.one (LT.int IntKind.i64)] fun (i39 : Int) (h40 : Heap) =>
                                                                Br (i39 == (0 : Int))
                                                                  (NilC a0 fun (b41 b42 : Nat) =>
                                                                    ∃ (s43 : Slc),
                                                                      cellsAt h40 b41 (b42 + 0) [Lf.slc s43] ∧
                                                                        IxC s43 (IntKind.wrap IntKind.i64 (a1 - (1 : Int))) 1 fun (b44 b45 : Nat) =>
                                                                          ∃ (s46 : Slc),
                                                                            cellsAt h40 b44 b45 [Lf.slc s46] ∧
                                                                              IxC s46 i21 1 fun (b47 b48 : Nat) =>
                                                                                ∃ (i49 : Int),
                                                                                  cellsAt h40 b47 b48 [Lf.int IntKind.u64 i49] ∧
                                                                                    Call Go.Proofs.Try.prog 94 [VV.lf (Lf.slc s20), VV.lf (Lf.int IntKind.u64 i49)]
                                                                                      h40 [VT.one LT.slc] fun (s50 : Slc) (h51 : Heap) =>
                                                                                      ∃ (b52 : Nat), b52 < b23 ∧ I18 s50 (IntKind.wrap IntKind.i64 (i21 + (1 : Int))) h51 b52)
                                                                  (∃ (b53 : Nat), b53 < b23 ∧ I18 s20 (IntKind.wrap IntKind.i64 (i21 + (1 : Int))) h40 b53))
                                            (R s20 (0 : Int) h22))
theorem eq39 (a0 : Option (Nat × Nat)) (a1 : Int) (h : Heap) (R : Slc → Int → Heap → Prop) : vc39 a0 a1 h R = vcFn Go.Proofs.Try.prog pl39 Go.Proofs.Try.f39 [.lf (.ptr a0), .lf (.int .i64 a1)] h [.one .slc, .one (.int .i64)] R := by kernel_rfl
theorem ok39 {a0 : Option (Nat × Nat)} {a1 : Int} {h : Heap} {R : Slc → Int → Heap → Prop} (hv : vc39 a0 a1 h R) : Call Go.Proofs.Try.prog 39 [.lf (.ptr a0), .lf (.int .i64 a1)] h [.one .slc, .one (.int .i64)] R := call_eq hng hmix Go.Proofs.Try.func39 (eq39 a0 a1 h R) hv
/- 42: (*sediment.sedimentref22.Refs).Needed (r) · seq 8:  · loop 3: out, i · loop 6: out, k -/
def pl42 : Plan := {
  blk := fun _ => none
  seq := fun | 8 => some ⟨[], [], []⟩ | _ => none
  loop := fun | 3 => some ⟨[(3, .one .slc), (4, .one (.int .i64))], [], []⟩ | 6 => some ⟨[(3, .one .slc), (5, .one (.int .i64))], [], []⟩ | _ => none
  live := fun | 0 => some [0] | 1 => some [0, 3] | 2 => some [0, 3, 4] | 3 => some [0, 3, 4, 12] | 4 => some [0, 3, 4] | 5 => some [0, 3, 4, 5] | 6 => some [0, 3, 4, 5, 33] | 7 => some [0, 3, 4, 5] | 8 => some [0, 3, 4, 5] | 9 => some [2] | _ => none
  track := fun | _ => false
  draw := fun | _ => .done
  iter := fun | _ => none }
def vc42 (a0 : Option (Nat × Nat)) (h : Heap) (R : Slc → Heap → Prop) : Prop :=
  ∃ (I0 : Slc → Int → Heap → Nat → Prop),
    (∃ (b1 : Nat), I0 (Slc.mk Option.none 0 0) (0 : Int) h b1) ∧
      ∀ (s2 : Slc) (i3 : Int) (h4 : Heap) (b5 : Nat),
        I0 s2 i3 h4 b5 →
          NilC a0 fun (b6 b7 : Nat) =>
            ∃ (s8 : Slc),
              cellsAt h4 b6 (b7 + 0) [Lf.slc s8] ∧
                Br (Decidable.decide (i3 < (↑(Slc.len s8) : Int)))
                  (∃ (I9 : Slc → Int → Heap → Nat → Prop),
                    (∃ (b10 : Nat), I9 s2 (0 : Int) h4 b10) ∧
                      ∀ (s11 : Slc) (i12 : Int) (h13 : Heap) (b14 : Nat),
                        I9 s11 i12 h13 b14 →
                          ∃ (I15 : Heap → Prop),
                            (NilC a0 fun (b16 b17 : Nat) =>
                                ∃ (s18 : Slc),
                                  cellsAt h13 b16 (b17 + 0) [Lf.slc s18] ∧
                                    IxC s18 i3 1 fun (b19 b20 : Nat) =>
                                      ∃ (s21 : Slc),
                                        cellsAt h13 b19 b20 [Lf.slc s21] ∧
                                          Br (Decidable.decide (i12 < (↑(Slc.len s21) : Int)))
                                            (NilC a0 fun (b22 b23 : Nat) =>
                                              ∃ (s24 : Slc),
                                                cellsAt h13 b22 (b23 + 1) [Lf.slc s24] ∧
                                                  IxC s24 i3 1 fun (b25 b26 : Nat) =>
                                                    ∃ (c27 : Bool),
                                                      cellsAt h13 b25 b26 [Lf.bool c27] ∧
                                                        Br c27 (I15 h13) (∃ (b28 : Nat), b28 < b5 ∧ I0 s11 (IntKind.wrap IntKind.i64 (i3 + (1 : Int))) h13 b28))
                                            (∃ (b29 : Nat), b29 < b5 ∧ I0 s11 (IntKind.wrap IntKind.i64 (i3 + (1 : Int))) h13 b29)) ∧
                              ∀ (h30 : Heap),
                                I15 h30 →
                                  NilC a0 fun (b31 b32 : Nat) =>
                                    ∃ (s33 : Slc),
                                      cellsAt h30 b31 (b32 + 0) [Lf.slc s33] ∧
                                        IxC s33 i3 1 fun (b34 b35 : Nat) =>
                                          ∃ (s36 : Slc),
                                            cellsAt h30 b34 b35 [Lf.slc s36] ∧
                                              IxC s36 i12 1 fun (b37 b38 : Nat) =>
                                                ∃ (i39 : Int),
                                                  cellsAt h30 b37 b38 [Lf.int IntKind.u64 i39] ∧
                                                    Call Go.Proofs.Try.prog 94 [VV.lf (Lf.slc s11), VV.lf (Lf.int IntKind.u64 i39)] h30 [VT.one LT.slc]
                                                      fun (s40 : Slc) (h41 : Heap) => ∃ (b42 : Nat), b42 < b14 ∧ I9 s40 (IntKind.wrap IntKind.i64 (i12 + (1 : Int))) h41 b42)
                  (R s2 h4)
theorem eq42 (a0 : Option (Nat × Nat)) (h : Heap) (R : Slc → Heap → Prop) : vc42 a0 h R = vcFn Go.Proofs.Try.prog pl42 Go.Proofs.Try.f42 [.lf (.ptr a0)] h [.one .slc] R := by kernel_rfl
theorem ok42 {a0 : Option (Nat × Nat)} {h : Heap} {R : Slc → Heap → Prop} (hv : vc42 a0 h R) : Call Go.Proofs.Try.prog 42 [.lf (.ptr a0)] h [.one .slc] R := call_eq hng hmix Go.Proofs.Try.func42 (eq42 a0 h R) hv
/- 44: (*sediment.sedimentref22.Refs).Times (r, file) · seq 8:  · loop 3: n, i · loop 6: n, k -/
def pl44 : Plan := {
  blk := fun _ => none
  seq := fun | 8 => some ⟨[], [], []⟩ | _ => none
  loop := fun | 3 => some ⟨[(5, .one (.int .i64)), (6, .one (.int .i64))], [], []⟩ | 6 => some ⟨[(5, .one (.int .i64)), (7, .one (.int .i64))], [], []⟩ | _ => none
  live := fun | 0 => some [0, 1] | 1 => some [0, 1, 5] | 2 => some [0, 1, 5, 6] | 3 => some [0, 1, 5, 6, 14] | 4 => some [0, 1, 5, 6] | 5 => some [0, 1, 5, 6, 7] | 6 => some [0, 1, 5, 6, 7, 35] | 7 => some [0, 1, 5, 6, 7] | 8 => some [0, 1, 5, 6, 7, 49] | 9 => some [0, 1, 5, 6, 7] | 10 => some [4] | _ => none
  track := fun | _ => false
  draw := fun | _ => .done
  iter := fun | _ => none }
def vc44 (a0 : Option (Nat × Nat)) (a1 : Int) (h : Heap) (R : Int → Heap → Prop) : Prop :=
  ∃ (I0 : Int → Int → Heap → Nat → Prop),
    (∃ (b1 : Nat), I0 (0 : Int) (0 : Int) h b1) ∧
      ∀ (i2 i3 : Int) (h4 : Heap) (b5 : Nat),
        I0 i2 i3 h4 b5 →
          NilC a0 fun (b6 b7 : Nat) =>
            ∃ (s8 : Slc),
              cellsAt h4 b6 (b7 + 0) [Lf.slc s8] ∧
                Br (Decidable.decide (i3 < (↑(Slc.len s8) : Int)))
                  (∃ (I9 : Int → Int → Heap → Nat → Prop),
                    (∃ (b10 : Nat), I9 i2 (0 : Int) h4 b10) ∧
                      ∀ (i11 i12 : Int) (h13 : Heap) (b14 : Nat),
                        I9 i11 i12 h13 b14 →
                          ∃ (I15 : Heap → Prop),
                            (NilC a0 fun (b16 b17 : Nat) =>
                                ∃ (s18 : Slc),
                                  cellsAt h13 b16 (b17 + 0) [Lf.slc s18] ∧
                                    IxC s18 i3 1 fun (b19 b20 : Nat) =>
                                      ∃ (s21 : Slc),
                                        cellsAt h13 b19 b20 [Lf.slc s21] ∧
                                          Br (Decidable.decide (i12 < (↑(Slc.len s21) : Int)))
                                            (NilC a0 fun (b22 b23 : Nat) =>
                                              ∃ (s24 : Slc),
                                                cellsAt h13 b22 (b23 + 1) [Lf.slc s24] ∧
                                                  IxC s24 i3 1 fun (b25 b26 : Nat) =>
                                                    ∃ (c27 : Bool),
                                                      cellsAt h13 b25 b26 [Lf.bool c27] ∧
                                                        Br c27 (I15 h13) (∃ (b28 : Nat), b28 < b5 ∧ I0 i11 (IntKind.wrap IntKind.i64 (i3 + (1 : Int))) h13 b28))
                                            (∃ (b29 : Nat), b29 < b5 ∧ I0 i11 (IntKind.wrap IntKind.i64 (i3 + (1 : Int))) h13 b29)) ∧
                              ∀ (h30 : Heap),
                                I15 h30 →
                                  NilC a0 fun (b31 b32 : Nat) =>
                                    ∃ (s33 : Slc),
                                      cellsAt h30 b31 (b32 + 0) [Lf.slc s33] ∧
                                        IxC s33 i3 1 fun (b34 b35 : Nat) =>
                                          ∃ (s36 : Slc),
                                            cellsAt h30 b34 b35 [Lf.slc s36] ∧
                                              IxC s36 i12 1 fun (b37 b38 : Nat) =>
                                                ∃ (i39 : Int),
                                                  cellsAt h30 b37 b38 [Lf.int IntKind.u64 i39] ∧
                                                    Br (i39 == a1)
                                                      (∃ (b40 : Nat), b40 < b14 ∧ I9 (IntKind.wrap IntKind.i64 (i11 + (1 : Int))) (IntKind.wrap IntKind.i64 (i12 + (1 : Int))) h30 b40)
                                                      (∃ (b41 : Nat), b41 < b14 ∧ I9 i11 (IntKind.wrap IntKind.i64 (i12 + (1 : Int))) h30 b41))
                  (R i2 h4)
theorem eq44 (a0 : Option (Nat × Nat)) (a1 : Int) (h : Heap) (R : Int → Heap → Prop) : vc44 a0 a1 h R = vcFn Go.Proofs.Try.prog pl44 Go.Proofs.Try.f44 [.lf (.ptr a0), .lf (.int .u64 a1)] h [.one (.int .i64)] R := by kernel_rfl
theorem ok44 {a0 : Option (Nat × Nat)} {a1 : Int} {h : Heap} {R : Int → Heap → Prop} (hv : vc44 a0 a1 h R) : Call Go.Proofs.Try.prog 44 [.lf (.ptr a0), .lf (.int .u64 a1)] h [.one (.int .i64)] R := call_eq hng hmix Go.Proofs.Try.func44 (eq44 a0 a1 h R) hv
/- 52: (*sediment.sedimentref22.List).Hold (l, seq) -/
def pl52 : Plan := {
  blk := fun _ => none
  seq := fun _ => none
  loop := fun _ => none
  live := fun | 0 => some [0, 1] | 1 => some [0, 1, 6] | 2 => some [4, 5] | 3 => some [0, 1, 9] | 4 => some [4, 5] | 5 => some [0] | 6 => some [4, 5] | _ => none
  track := fun | _ => false
  draw := fun | 5 => .still 0 (.still 1 (.still 2 (.still 3 (.still 4 (.still 5 (.still 6 (.still 9 (.still 10 (.still 11 (.still 12 (.alt 7 (.alt 8 (.mem 13 (.mem 14 (.still 15 (.still 16 (.mem 17 (.still 18 (.still 19 (.mem 20 (.done))))))))) (.mem 13 (.mem 8 (.mem 14 (.still 15 (.still 16 (.mem 17 (.still 18 (.still 19 (.mem 20 (.done))))))))))) (.mem 13 (.mem 7 (.mem 8 (.mem 14 (.still 15 (.still 16 (.mem 17 (.still 18 (.still 19 (.mem 20 (.done)))))))))))))))))))))) | _ => .done
  iter := fun | _ => none }
def vc52 (a0 : Option (Nat × Nat)) (a1 : Int) (h : Heap) (R : Int → Int → Heap → Prop) : Prop :=
  Br (Decidable.decide (a1 > (72057594037927935 : Int))) (R (0 : Int) (1 : Int) h)
    (Call Go.Proofs.Try.prog 59 [VV.lf (Lf.ptr a0)] h [VT.one (LT.int IntKind.i64)] fun (i0 : Int) (h1 : Heap) =>
      Br (Decidable.decide (i0 ≥ (4096 : Int))) (R (0 : Int) (2 : Int) h1)
        (NilC a0 fun (b2 b3 : Nat) =>
          ∃ (s4 : Slc),
            cellsAt h1 b2 (b3 + 0) [Lf.slc s4] ∧
              NilC a0 fun (b5 b6 : Nat) =>
                ∃ (s7 : Slc),
                  cellsAt h1 b5 (b6 + 1) [Lf.slc s7] ∧
                    (New 22 [Lf.int IntKind.u64 a1] h1 fun (b8 : Nat) (h9 : Heap) =>
                        cellsAt h9 b5 (b6 + 1) [Lf.slc s7] ∧
                          cellsAt h9 b2 (b3 + 0) [Lf.slc s4] ∧
                            (AppC 22 [Lf.int IntKind.u64 (0 : Int)] 1 8 s4 (Slc.mk (Option.some (b8, 0)) 1 1) h9
                                fun (s10 : Slc) (h11 : Heap) =>
                                cellsAt h11 b5 (b6 + 1) [Lf.slc s7] ∧
                                  New 4 [Lf.bool Bool.true] h11 fun (b12 : Nat) (h13 : Heap) =>
                                    cellsAt h13 b5 (b6 + 1) [Lf.slc s7] ∧
                                      AppC 4 [Lf.bool Bool.false] 1 1 s7 (Slc.mk (Option.some (b12, 0)) 1 1) h13
                                        fun (s14 : Slc) (h15 : Heap) =>
                                        NilC a0 fun (b16 b17 : Nat) =>
                                          StC h15 b16 (b17 + 0) [Lf.slc s10] fun (h18 : Heap) =>
                                            NilC a0 fun (b19 b20 : Nat) =>
                                              StC h18 b19 (b20 + 1) [Lf.slc s14] fun (h21 : Heap) =>
                                                NilC a0 fun (b22 b23 : Nat) =>
                                                  ∃ (s24 : Slc), cellsAt h21 b22 (b23 + 0) [Lf.slc s24] ∧ R (↑(Slc.len s24) : Int) (0 : Int) h21) ∧
                              New 4 [Lf.bool Bool.true] h9 fun (b25 : Nat) (h26 : Heap) =>
                                cellsAt h26 b5 (b6 + 1) [Lf.slc s7] ∧
                                  cellsAt h26 b2 (b3 + 0) [Lf.slc s4] ∧
                                    AppC 22 [Lf.int IntKind.u64 (0 : Int)] 1 8 s4 (Slc.mk (Option.some (b8, 0)) 1 1) h26
                                      fun (s27 : Slc) (h28 : Heap) =>
                                      cellsAt h28 b5 (b6 + 1) [Lf.slc s7] ∧
                                        AppC 4 [Lf.bool Bool.false] 1 1 s7 (Slc.mk (Option.some (b25, 0)) 1 1) h28
                                          fun (s29 : Slc) (h30 : Heap) =>
                                          NilC a0 fun (b31 b32 : Nat) =>
                                            StC h30 b31 (b32 + 0) [Lf.slc s27] fun (h33 : Heap) =>
                                              NilC a0 fun (b34 b35 : Nat) =>
                                                StC h33 b34 (b35 + 1) [Lf.slc s29] fun (h36 : Heap) =>
                                                  NilC a0 fun (b37 b38 : Nat) =>
                                                    ∃ (s39 : Slc), cellsAt h36 b37 (b38 + 0) [Lf.slc s39] ∧ R (↑(Slc.len s39) : Int) (0 : Int) h36) ∧
                      New 4 [Lf.bool Bool.true] h1 fun (b40 : Nat) (h41 : Heap) =>
                        cellsAt h41 b5 (b6 + 1) [Lf.slc s7] ∧
                          cellsAt h41 b2 (b3 + 0) [Lf.slc s4] ∧
                            New 22 [Lf.int IntKind.u64 a1] h41 fun (b42 : Nat) (h43 : Heap) =>
                              cellsAt h43 b5 (b6 + 1) [Lf.slc s7] ∧
                                cellsAt h43 b2 (b3 + 0) [Lf.slc s4] ∧
                                  AppC 22 [Lf.int IntKind.u64 (0 : Int)] 1 8 s4 (Slc.mk (Option.some (b42, 0)) 1 1) h43
                                    fun (s44 : Slc) (h45 : Heap) =>
                                    cellsAt h45 b5 (b6 + 1) [Lf.slc s7] ∧
                                      AppC 4 [Lf.bool Bool.false] 1 1 s7 (Slc.mk (Option.some (b40, 0)) 1 1) h45
                                        fun (s46 : Slc) (h47 : Heap) =>
                                        NilC a0 fun (b48 b49 : Nat) =>
                                          StC h47 b48 (b49 + 0) [Lf.slc s44] fun (h50 : Heap) =>
                                            NilC a0 fun (b51 b52 : Nat) =>
                                              StC h50 b51 (b52 + 1) [Lf.slc s46] fun (h53 : Heap) =>
                                                NilC a0 fun (b54 b55 : Nat) =>
                                                  ∃ (s56 : Slc), cellsAt h53 b54 (b55 + 0) [Lf.slc s56] ∧ R (↑(Slc.len s56) : Int) (0 : Int) h53))
theorem eq52 (a0 : Option (Nat × Nat)) (a1 : Int) (h : Heap) (R : Int → Int → Heap → Prop) : vc52 a0 a1 h R = vcFn Go.Proofs.Try.prog pl52 Go.Proofs.Try.f52 [.lf (.ptr a0), .lf (.int .u64 a1)] h [.one (.int .i64), .one (.int .i64)] R := by kernel_rfl
theorem ok52 {a0 : Option (Nat × Nat)} {a1 : Int} {h : Heap} {R : Int → Int → Heap → Prop} (hv : vc52 a0 a1 h R) : Call Go.Proofs.Try.prog 52 [.lf (.ptr a0), .lf (.int .u64 a1)] h [.one (.int .i64), .one (.int .i64)] R := call_eq hng hmix Go.Proofs.Try.func52 (eq52 a0 a1 h R) hv
/- 53: (*sediment.sedimentref22.List).Free (l, h) -/
def pl53 : Plan := {
  blk := fun _ => none
  seq := fun _ => none
  loop := fun _ => none
  live := fun | 0 => some [0, 1] | 1 => some [0, 1, 8] | 2 => some [4] | 3 => some [] | 4 => some [4] | _ => none
  track := fun | _ => false
  draw := fun | _ => .done
  iter := fun | _ => none }
def vc53 (a0 : Option (Nat × Nat)) (a1 : Int) (h : Heap) (R : Int → Heap → Prop) : Prop :=
  Call Go.Proofs.Try.prog 99 [VV.lf (Lf.ptr a0), VV.lf (Lf.int IntKind.i64 a1)] h [VT.one LT.bool] fun (c0 : Bool) (h1 : Heap) =>
    Br (!c0) (R (220 : Int) h1)
      (NilC a0 fun (b2 b3 : Nat) =>
        ∃ (s4 : Slc),
          cellsAt h1 b2 (b3 + 1) [Lf.slc s4] ∧
            IxC s4 (IntKind.wrap IntKind.i64 (a1 - (1 : Int))) 1 fun (b5 b6 : Nat) => StC h1 b5 b6 [Lf.bool Bool.false] fun (h7 : Heap) => R (0 : Int) h7)
theorem eq53 (a0 : Option (Nat × Nat)) (a1 : Int) (h : Heap) (R : Int → Heap → Prop) : vc53 a0 a1 h R = vcFn Go.Proofs.Try.prog pl53 Go.Proofs.Try.f53 [.lf (.ptr a0), .lf (.int .i64 a1)] h [.one (.int .i64)] R := by kernel_rfl
theorem ok53 {a0 : Option (Nat × Nat)} {a1 : Int} {h : Heap} {R : Int → Heap → Prop} (hv : vc53 a0 a1 h R) : Call Go.Proofs.Try.prog 53 [.lf (.ptr a0), .lf (.int .i64 a1)] h [.one (.int .i64)] R := call_eq hng hmix Go.Proofs.Try.func53 (eq53 a0 a1 h R) hv
/- 54: (*sediment.sedimentref22.List).Seq (l, h) -/
def pl54 : Plan := {
  blk := fun _ => none
  seq := fun _ => none
  loop := fun _ => none
  live := fun | 0 => some [0, 1] | 1 => some [0, 1, 9] | 2 => some [4, 5] | 3 => some [4, 5] | _ => none
  track := fun | _ => false
  draw := fun | _ => .done
  iter := fun | _ => none }
def vc54 (a0 : Option (Nat × Nat)) (a1 : Int) (h : Heap) (R : Int → Int → Heap → Prop) : Prop :=
  Call Go.Proofs.Try.prog 99 [VV.lf (Lf.ptr a0), VV.lf (Lf.int IntKind.i64 a1)] h [VT.one LT.bool] fun (c0 : Bool) (h1 : Heap) =>
    Br (!c0) (R (0 : Int) (220 : Int) h1)
      (NilC a0 fun (b2 b3 : Nat) =>
        ∃ (s4 : Slc),
          cellsAt h1 b2 (b3 + 0) [Lf.slc s4] ∧
            IxC s4 (IntKind.wrap IntKind.i64 (a1 - (1 : Int))) 1 fun (b5 b6 : Nat) => ∃ (i7 : Int), cellsAt h1 b5 b6 [Lf.int IntKind.u64 i7] ∧ R i7 (0 : Int) h1)
theorem eq54 (a0 : Option (Nat × Nat)) (a1 : Int) (h : Heap) (R : Int → Int → Heap → Prop) : vc54 a0 a1 h R = vcFn Go.Proofs.Try.prog pl54 Go.Proofs.Try.f54 [.lf (.ptr a0), .lf (.int .i64 a1)] h [.one (.int .u64), .one (.int .i64)] R := by kernel_rfl
theorem ok54 {a0 : Option (Nat × Nat)} {a1 : Int} {h : Heap} {R : Int → Int → Heap → Prop} (hv : vc54 a0 a1 h R) : Call Go.Proofs.Try.prog 54 [.lf (.ptr a0), .lf (.int .i64 a1)] h [.one (.int .u64), .one (.int .i64)] R := call_eq hng hmix Go.Proofs.Try.func54 (eq54 a0 a1 h R) hv
/- 55: (*sediment.sedimentref22.List).Stripe (l, seq) · loop 3: i -/
def pl55 : Plan := {
  blk := fun _ => none
  seq := fun _ => none
  loop := fun | 3 => some ⟨[(7, .one (.int .i64))], [], []⟩ | _ => none
  live := fun | 0 => some [0, 1] | 1 => some [1, 6] | 2 => some [1, 6, 7] | 3 => some [1, 6, 7, 13] | 4 => some [1, 6, 7] | 5 => some [1, 6, 7, 21] | 6 => some [4, 5] | 7 => some [4, 5] | _ => none
  track := fun | _ => false
  draw := fun | _ => .done
  iter := fun | _ => none }
def vc55 (a0 : Option (Nat × Nat)) (a1 : Int) (h : Heap) (R : Int → Bool → Heap → Prop) : Prop :=
  Call Go.Proofs.Try.prog 56 [VV.lf (Lf.ptr a0)] h [VT.one LT.slc] fun (s0 : Slc) (h1 : Heap) =>
    ∃ (I2 : Int → Heap → Nat → Prop),
      (∃ (b3 : Nat), I2 (0 : Int) h1 b3) ∧
        ∀ (i4 : Int) (h5 : Heap) (b6 : Nat),
          I2 i4 h5 b6 →
            Br (Decidable.decide (i4 < (↑(Slc.len s0) : Int)))
              (IxC s0 i4 1 fun (b7 b8 : Nat) =>
                ∃ (i9 : Int),
                  cellsAt h5 b7 b8 [Lf.int IntKind.u64 i9] ∧
                    Br (Decidable.decide (i9 ≥ a1)) (IxC s0 i4 1 fun (b10 b11 : Nat) => ∃ (i12 : Int), cellsAt h5 b10 b11 [Lf.int IntKind.u64 i12] ∧ R i12 Bool.true h5)
                      (∃ (b13 : Nat), b13 < b6 ∧ I2 (IntKind.wrap IntKind.i64 (i4 + (1 : Int))) h5 b13))
              (R (0 : Int) Bool.false h5)
theorem eq55 (a0 : Option (Nat × Nat)) (a1 : Int) (h : Heap) (R : Int → Bool → Heap → Prop) : vc55 a0 a1 h R = vcFn Go.Proofs.Try.prog pl55 Go.Proofs.Try.f55 [.lf (.ptr a0), .lf (.int .u64 a1)] h [.one (.int .u64), .one .bool] R := by kernel_rfl
theorem ok55 {a0 : Option (Nat × Nat)} {a1 : Int} {h : Heap} {R : Int → Bool → Heap → Prop} (hv : vc55 a0 a1 h R) : Call Go.Proofs.Try.prog 55 [.lf (.ptr a0), .lf (.int .u64 a1)] h [.one (.int .u64), .one .bool] R := call_eq hng hmix Go.Proofs.Try.func55 (eq55 a0 a1 h R) hv
/- 56: (*sediment.sedimentref22.List).All (l) · loop 3: out, i -/
def pl56 : Plan := {
  blk := fun _ => none
  seq := fun _ => none
  loop := fun | 3 => some ⟨[(3, .one .slc), (4, .one (.int .i64))], [], []⟩ | _ => none
  live := fun | 0 => some [0] | 1 => some [0, 3] | 2 => some [0, 3, 4] | 3 => some [0, 3, 4, 11] | 4 => some [0, 3, 4] | 5 => some [0, 3, 4, 20] | 6 => some [0, 3, 4] | 7 => some [2] | _ => none
  track := fun | _ => false
  draw := fun | _ => .done
  iter := fun | _ => none }
def vc56 (a0 : Option (Nat × Nat)) (h : Heap) (R : Slc → Heap → Prop) : Prop :=
  ∃ (I0 : Slc → Int → Heap → Nat → Prop),
    (∃ (b1 : Nat), I0 (Slc.mk Option.none 0 0) (0 : Int) h b1) ∧
      ∀ (s2 : Slc) (i3 : Int) (h4 : Heap) (b5 : Nat),
        I0 s2 i3 h4 b5 →
          NilC a0 fun (b6 b7 : Nat) =>
            ∃ (s8 : Slc),
              cellsAt h4 b6 (b7 + 0) [Lf.slc s8] ∧
                Br (Decidable.decide (i3 < (↑(Slc.len s8) : Int)))
                  (NilC a0 fun (b9 b10 : Nat) =>
                    ∃ (s11 : Slc),
                      cellsAt h4 b9 (b10 + 1) [Lf.slc s11] ∧
                        IxC s11 i3 1 fun (b12 b13 : Nat) =>
                          ∃ (c14 : Bool),
                            cellsAt h4 b12 b13 [Lf.bool c14] ∧
                              Br c14
                                (NilC a0 fun (b15 b16 : Nat) =>
                                  ∃ (s17 : Slc),
                                    cellsAt h4 b15 (b16 + 0) [Lf.slc s17] ∧
                                      IxC s17 i3 1 fun (b18 b19 : Nat) =>
                                        ∃ (i20 : Int),
                                          cellsAt h4 b18 b19 [Lf.int IntKind.u64 i20] ∧
                                            Call Go.Proofs.Try.prog 94 [VV.lf (Lf.slc s2), VV.lf (Lf.int IntKind.u64 i20)] h4 [VT.one LT.slc]
                                              fun (s21 : Slc) (h22 : Heap) => ∃ (b23 : Nat), b23 < b5 ∧ I0 s21 (IntKind.wrap IntKind.i64 (i3 + (1 : Int))) h22 b23)
                                (∃ (b24 : Nat), b24 < b5 ∧ I0 s2 (IntKind.wrap IntKind.i64 (i3 + (1 : Int))) h4 b24))
                  (R s2 h4)
theorem eq56 (a0 : Option (Nat × Nat)) (h : Heap) (R : Slc → Heap → Prop) : vc56 a0 h R = vcFn Go.Proofs.Try.prog pl56 Go.Proofs.Try.f56 [.lf (.ptr a0)] h [.one .slc] R := by kernel_rfl
theorem ok56 {a0 : Option (Nat × Nat)} {h : Heap} {R : Slc → Heap → Prop} (hv : vc56 a0 h R) : Call Go.Proofs.Try.prog 56 [.lf (.ptr a0)] h [.one .slc] R := call_eq hng hmix Go.Proofs.Try.func56 (eq56 a0 h R) hv
/- 59: (*sediment.sedimentref22.List).Len (l) · loop 3: n, i -/
def pl59 : Plan := {
  blk := fun _ => none
  seq := fun _ => none
  loop := fun | 3 => some ⟨[(3, .one (.int .i64)), (4, .one (.int .i64))], [], []⟩ | _ => none
  live := fun | 0 => some [0] | 1 => some [0, 3] | 2 => some [0, 3, 4] | 3 => some [0, 3, 4, 11] | 4 => some [0, 3, 4] | 5 => some [0, 3, 4, 20] | 6 => some [0, 3, 4] | 7 => some [2] | _ => none
  track := fun | _ => false
  draw := fun | _ => .done
  iter := fun | _ => none }
def vc59 (a0 : Option (Nat × Nat)) (h : Heap) (R : Int → Heap → Prop) : Prop :=
  ∃ (I0 : Int → Int → Heap → Nat → Prop),
    (∃ (b1 : Nat), I0 (0 : Int) (0 : Int) h b1) ∧
      ∀ (i2 i3 : Int) (h4 : Heap) (b5 : Nat),
        I0 i2 i3 h4 b5 →
          NilC a0 fun (b6 b7 : Nat) =>
            ∃ (s8 : Slc),
              cellsAt h4 b6 (b7 + 1) [Lf.slc s8] ∧
                Br (Decidable.decide (i3 < (↑(Slc.len s8) : Int)))
                  (NilC a0 fun (b9 b10 : Nat) =>
                    ∃ (s11 : Slc),
                      cellsAt h4 b9 (b10 + 1) [Lf.slc s11] ∧
                        IxC s11 i3 1 fun (b12 b13 : Nat) =>
                          ∃ (c14 : Bool),
                            cellsAt h4 b12 b13 [Lf.bool c14] ∧
                              Br c14 (∃ (b15 : Nat), b15 < b5 ∧ I0 (IntKind.wrap IntKind.i64 (i2 + (1 : Int))) (IntKind.wrap IntKind.i64 (i3 + (1 : Int))) h4 b15)
                                (∃ (b16 : Nat), b16 < b5 ∧ I0 i2 (IntKind.wrap IntKind.i64 (i3 + (1 : Int))) h4 b16))
                  (R i2 h4)
theorem eq59 (a0 : Option (Nat × Nat)) (h : Heap) (R : Int → Heap → Prop) : vc59 a0 h R = vcFn Go.Proofs.Try.prog pl59 Go.Proofs.Try.f59 [.lf (.ptr a0)] h [.one (.int .i64)] R := by kernel_rfl
theorem ok59 {a0 : Option (Nat × Nat)} {h : Heap} {R : Int → Heap → Prop} (hv : vc59 a0 h R) : Call Go.Proofs.Try.prog 59 [.lf (.ptr a0)] h [.one (.int .i64)] R := call_eq hng hmix Go.Proofs.Try.func59 (eq59 a0 h R) hv
/- 94: sediment.sedimentref22.With (l, n) · blk 0: i · seq 6:  · loop 2: i -/
def pl94 : Plan := {
  blk := fun | 0 => some ⟨[(5, .one (.int .i64))], [], []⟩ | _ => none
  seq := fun | 6 => some ⟨[], [], []⟩ | _ => none
  loop := fun | 2 => some ⟨[(5, .one (.int .i64))], [], []⟩ | _ => none
  live := fun | 0 => some [0, 1] | 1 => some [0, 1, 5] | 2 => some [0, 1, 5, 18] | 3 => some [0, 1, 5] | 4 => some [0, 1, 5, 32] | 5 => some [4] | 6 => some [0, 1, 5, 6] | 7 => some [0, 5, 6] | 8 => some [4] | _ => none
  track := fun | _ => false
  draw := fun | _ => .done
  iter := fun | _ => none }
def vc94 (a0 : Slc) (a1 : Int) (h : Heap) (R : Slc → Heap → Prop) : Prop :=
  ∃ (I0 : Int → Heap → Prop),
    (∃ (I1 : Int → Heap → Nat → Prop),
        (∃ (b2 : Nat), I1 (0 : Int) h b2) ∧
          ∀ (i3 : Int) (h4 : Heap) (b5 : Nat),
            I1 i3 h4 b5 →
              Br (Decidable.decide (i3 < (↑(Slc.len a0) : Int)))
                (IxC a0 i3 1 fun (b6 b7 : Nat) =>
                  ∃ (i8 : Int),
                    cellsAt h4 b6 b7 [Lf.int IntKind.u64 i8] ∧
                      Br (Decidable.decide (i8 < a1)) (∃ (b9 : Nat), b9 < b5 ∧ I1 (IntKind.wrap IntKind.i64 (i3 + (1 : Int))) h4 b9) (I0 i3 h4))
                (I0 i3 h4)) ∧
      ∀ (i10 : Int) (h11 : Heap),
        I0 i10 h11 →
          ∃ (I12 : Heap → Prop),
            Br (Decidable.decide (i10 < (↑(Slc.len a0) : Int)))
                (IxC a0 i10 1 fun (b13 b14 : Nat) => ∃ (i15 : Int), cellsAt h11 b13 b14 [Lf.int IntKind.u64 i15] ∧ Br (i15 == a1) (R a0 h11) (I12 h11)) (I12 h11) ∧
              ∀ (h16 : Heap),
                I12 h16 →
                  New 22 [] h16 fun (b17 : Nat) (h18 : Heap) =>
                    (0 : Int) ≤ i10 ∧
                      i10 ≤ (↑(Slc.cap a0) : Int) ∧
                        AppC 22 [Lf.int IntKind.u64 (0 : Int)] 1 8 (Slc.mk (Option.some (b17, 0)) 0 0)
                          (Slc.sub a0 1 0 (Int.toNat i10) (Slc.cap a0)) h18 fun (s19 : Slc) (h20 : Heap) =>
                          New 22 [Lf.int IntKind.u64 a1] h20 fun (b21 : Nat) (h22 : Heap) =>
                            AppC 22 [Lf.int IntKind.u64 (0 : Int)] 1 8 s19 (Slc.mk (Option.some (b21, 0)) 1 1) h22
                              fun (s23 : Slc) (h24 : Heap) =>
                              (0 : Int) ≤ i10 ∧
                                i10 ≤ (↑(Slc.len a0) : Int) ∧
                                  AppC 22 [Lf.int IntKind.u64 (0 : Int)] 1 8 s23 (Slc.sub a0 1 (Int.toNat i10) (Slc.len a0) (Slc.cap a0)) h24
                                    fun (s25 : Slc) (h26 : Heap) => R s25 h26
theorem eq94 (a0 : Slc) (a1 : Int) (h : Heap) (R : Slc → Heap → Prop) : vc94 a0 a1 h R = vcFn Go.Proofs.Try.prog pl94 Go.Proofs.Try.f94 [.lf (.slc a0), .lf (.int .u64 a1)] h [.one .slc] R := by kernel_rfl
theorem ok94 {a0 : Slc} {a1 : Int} {h : Heap} {R : Slc → Heap → Prop} (hv : vc94 a0 a1 h R) : Call Go.Proofs.Try.prog 94 [.lf (.slc a0), .lf (.int .u64 a1)] h [.one .slc] R := call_eq hng hmix Go.Proofs.Try.func94 (eq94 a0 a1 h R) hv
/- 99: (*sediment.sedimentref22.List).holds (l, h) -/
def pl99 : Plan := {
  blk := fun _ => none
  seq := fun _ => none
  loop := fun _ => none
  live := fun | 0 => some [0, 1] | 1 => some [4] | _ => none
  track := fun | _ => false
  draw := fun | _ => .done
  iter := fun | _ => none }
def vc99 (a0 : Option (Nat × Nat)) (a1 : Int) (h : Heap) (R : Bool → Heap → Prop) : Prop :=
  Br (Decidable.decide (a1 ≥ (1 : Int)))
    (NilC a0 fun (b0 b1 : Nat) =>
      ∃ (s2 : Slc),
        cellsAt h b0 (b1 + 1) [Lf.slc s2] ∧
          Br (Decidable.decide (a1 ≤ (↑(Slc.len s2) : Int)))
            (NilC a0 fun (b3 b4 : Nat) =>
              ∃ (s5 : Slc),
                cellsAt h b3 (b4 + 1) [Lf.slc s5] ∧
                  IxC s5 (IntKind.wrap IntKind.i64 (a1 - (1 : Int))) 1 fun (b6 b7 : Nat) => ∃ (c8 : Bool), cellsAt h b6 b7 [Lf.bool c8] ∧ R c8 h)
            (R Bool.false h))
    (R Bool.false h)
theorem eq99 (a0 : Option (Nat × Nat)) (a1 : Int) (h : Heap) (R : Bool → Heap → Prop) : vc99 a0 a1 h R = vcFn Go.Proofs.Try.prog pl99 Go.Proofs.Try.f99 [.lf (.ptr a0), .lf (.int .i64 a1)] h [.one .bool] R := by kernel_rfl
theorem ok99 {a0 : Option (Nat × Nat)} {a1 : Int} {h : Heap} {R : Bool → Heap → Prop} (hv : vc99 a0 a1 h R) : Call Go.Proofs.Try.prog 99 [.lf (.ptr a0), .lf (.int .i64 a1)] h [.one .bool] R := call_eq hng hmix Go.Proofs.Try.func99 (eq99 a0 a1 h R) hv
/- 40: sediment.sedimentlaw22.numbers (a, b) · loop 4: i -/
def pl40 : Plan := {
  blk := fun _ => none
  seq := fun _ => none
  loop := fun | 4 => some ⟨[(5, .one (.int .i64))], [], []⟩ | _ => none
  live := fun | 0 => some [0, 1] | 1 => some [0, 1, 10] | 2 => some [4] | 3 => some [0, 1, 5] | 4 => some [0, 1, 5, 14] | 5 => some [0, 1, 5] | 6 => some [0, 1, 5, 25] | 7 => some [4] | 8 => some [0, 1, 5] | 9 => some [4] | _ => none
  track := fun | _ => false
  draw := fun | 6 => .still 0 (.still 1 (.still 2 (.still 3 (.still 4 (.still 5 (.still 6 (.still 7 (.still 8 (.done))))))))) | _ => .done
  iter := fun | _ => none }
def vc40 (a0 : Slc) (a1 : Slc) (h : Heap) (R : Bool → Heap → Prop) : Prop :=
  Br ((↑(Slc.len a0) : Int) != (↑(Slc.len a1) : Int)) (R Bool.false h)
    (∃ (I0 : Int → Heap → Nat → Prop),
      (∃ (b1 : Nat), I0 (0 : Int) h b1) ∧
        ∀ (i2 : Int) (h3 : Heap) (b4 : Nat),
          I0 i2 h3 b4 →
            Br (Decidable.decide (i2 < (↑(Slc.len a0) : Int)))
              (IxC a0 i2 1 fun (b5 b6 : Nat) =>
                ∃ (i7 : Int),
                  cellsAt h3 b5 b6 [Lf.int IntKind.u64 i7] ∧
                    IxC a1 i2 1 fun (b8 b9 : Nat) =>
                      ∃ (i10 : Int),
                        cellsAt h3 b8 b9 [Lf.int IntKind.u64 i10] ∧
                          Br (i7 != i10) (R Bool.false h3)
                            (IxC a0 i2 1 fun (b11 b12 : Nat) =>
                              StC h3 b11 b12 [Lf.int IntKind.u64 (77 : Int)] fun (h13 : Heap) =>
                                ∃ (b14 : Nat), b14 < b4 ∧ I0 (IntKind.wrap IntKind.i64 (i2 + (1 : Int))) h13 b14))
              (R Bool.true h3))
theorem eq40 (a0 : Slc) (a1 : Slc) (h : Heap) (R : Bool → Heap → Prop) : vc40 a0 a1 h R = vcFn Go.Proofs.Try.prog pl40 Go.Proofs.Try.f40 [.lf (.slc a0), .lf (.slc a1)] h [.one .bool] R := by kernel_rfl
theorem ok40 {a0 : Slc} {a1 : Slc} {h : Heap} {R : Bool → Heap → Prop} (hv : vc40 a0 a1 h R) : Call Go.Proofs.Try.prog 40 [.lf (.slc a0), .lf (.slc a1)] h [.one .bool] R := call_eq hng hmix Go.Proofs.Try.func40 (eq40 a0 a1 h R) hv
/- 45: sediment.sedimentlaw22.lives () · seq 8: #55 -/
def pl45 : Plan := {
  blk := fun _ => none
  seq := fun | 8 => some ⟨[(55, .one .bool)], [], []⟩ | _ => none
  loop := fun _ => none
  live := fun | 0 => some [] | 1 => some [1] | 2 => some [1, 12] | 3 => some [0] | 4 => some [1, 2, 3] | 5 => some [1, 2, 3, 5] | 6 => some [1, 2, 3, 5, 6, 7] | 7 => some [1, 55] | 8 => some [0] | 9 => some [1, 8, 9] | 10 => some [0] | _ => none
  track := fun | _ => false
  draw := fun | _ => .done
  iter := fun | _ => none }
def vc45  (h : Heap) (R : Bool → Heap → Prop) : Prop :=
  Call Go.Proofs.Try.prog 46 [] h [VT.one LT.ptr] fun (p0 : Option (Nat × Nat)) (h1 : Heap) =>
    Br (Option.isNone p0) (R Bool.false h1)
      (Call Go.Proofs.Try.prog 47 [VV.lf (Lf.ptr p0), VV.lf (Lf.int IntKind.u64 (5 : Int))] h1
        [VT.one (LT.int IntKind.i64), VT.one (LT.int IntKind.i64)] fun (i2 i3 : Int) (h4 : Heap) =>
        Call Go.Proofs.Try.prog 47 [VV.lf (Lf.ptr p0), VV.lf (Lf.int IntKind.u64 (9 : Int))] h4
          [VT.one (LT.int IntKind.i64), VT.one (LT.int IntKind.i64)] fun (i5 i6 : Int) (h7 : Heap) =>
          Call Go.Proofs.Try.prog 47 [VV.lf (Lf.ptr p0), VV.lf (Lf.int IntKind.u64 (5 : Int))] h7
            [VT.one (LT.int IntKind.i64), VT.one (LT.int IntKind.i64)] fun (i8 i9 : Int) (h10 : Heap) =>
            ∃ (I11 : Bool → Heap → Prop),
              Br (i3 != (0 : Int)) (I11 Bool.true h10)
                  (Br (i6 != (0 : Int)) (I11 Bool.true h10)
                    (Br (i9 != (0 : Int)) (I11 Bool.true h10)
                      (Call Go.Proofs.Try.prog 48 [VV.lf (Lf.ptr p0), VV.lf (Lf.int IntKind.i64 i2)] h10 [VT.one (LT.int IntKind.i64)]
                        fun (i12 : Int) (h13 : Heap) =>
                        Br (i12 != (0 : Int)) (I11 Bool.true h13)
                          (Call Go.Proofs.Try.prog 49 [VV.lf (Lf.ptr p0)] h13 [VT.one LT.slc] fun (s14 : Slc) (h15 : Heap) =>
                            Br ((↑(Slc.len s14) : Int) != (2 : Int)) (I11 Bool.true h15)
                              (Call Go.Proofs.Try.prog 48 [VV.lf (Lf.ptr p0), VV.lf (Lf.int IntKind.i64 i8)] h15 [VT.one (LT.int IntKind.i64)]
                                fun (i16 : Int) (h17 : Heap) => I11 (i16 != (0 : Int)) h17))))) ∧
                ∀ (c18 : Bool) (h19 : Heap),
                  I11 c18 h19 →
                    Br c18 (R Bool.false h19)
                      (Call Go.Proofs.Try.prog 51 [VV.lf (Lf.ptr p0), VV.lf (Lf.int IntKind.u64 (6 : Int))] h19
                        [VT.one (LT.int IntKind.u64), VT.one LT.bool] fun (i20 : Int) (c21 : Bool) (h22 : Heap) =>
                        Call Go.Proofs.Try.prog 49 [VV.lf (Lf.ptr p0)] h22 [VT.one LT.slc] fun (s23 : Slc) (h24 : Heap) =>
                          Br ((↑(Slc.len s23) : Int) == (1 : Int)) (Br c21 (R (i20 == (9 : Int)) h24) (R Bool.false h24)) (R Bool.false h24)))
theorem eq45  (h : Heap) (R : Bool → Heap → Prop) : vc45  h R = vcFn Go.Proofs.Try.prog pl45 Go.Proofs.Try.f45 [] h [.one .bool] R := by kernel_rfl
theorem ok45  {h : Heap} {R : Bool → Heap → Prop} (hv : vc45  h R) : Call Go.Proofs.Try.prog 45 [] h [.one .bool] R := call_eq hng hmix Go.Proofs.Try.func45 (eq45  h R) hv
end Go.V.Yteojmnnobmpdiaa
