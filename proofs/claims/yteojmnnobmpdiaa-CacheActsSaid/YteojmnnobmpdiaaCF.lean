/- This text proves a part of the laws of seat Yteojmnnobmpdiaa, under no condition: T60 T61 T100 T13. -/
import Derived.Test.YteojmnnobmpdiaaEC
import Derived.Eval
import Derived.Test.YteojmnnobmpdiaaChecked
import Derived.Test.YteojmnnobmpdiaaCA
set_option linter.unusedVariables false
set_option maxRecDepth 100000
namespace Go.V.Yteojmnnobmpdiaa
open Go Go.V
/- 60: sediment.cache.New[string] (shards, room, strict) · seq 2: #14 · loop 5: #21 -/
def pl60 : Plan := {
  blk := fun _ => none
  seq := fun | 2 => some ⟨[(14, .one .bool)], [], []⟩ | _ => none
  loop := fun | 5 => some ⟨[(21, .one (.int .i64))], [], []⟩ | _ => none
  live := fun | 0 => some [0, 1, 2] | 1 => some [0, 1, 2, 14] | 2 => some [6, 7] | 3 => some [0, 8] | 4 => some [8, 20, 21] | 5 => some [8, 20, 21, 22] | 6 => some [8, 20, 21] | 7 => some [8, 20, 21] | 8 => some [6, 7] | _ => none
  track := fun | _ => false
  draw := fun | _ => .done
  iter := fun | _ => none }
def vc60 (a0 : Int) (a1 : Int) (a2 : Bool) (h : Heap) (R : Option (Nat × Nat) → Int → Heap → Prop) : Prop :=
  ∃ (I0 : Bool → Heap → Prop),
    Br (Decidable.decide (a0 < (1 : Int))) (I0 Bool.true h) (I0 (Decidable.decide (a0 > (64 : Int))) h) ∧
      ∀ (c1 : Bool) (h2 : Heap),
        I0 c1 h2 →
          Br c1 (R Option.none (1 : Int) h2)
            (NewM h2 fun (b3 : Nat) (h4 : Heap) =>
              New 166
                [Lf.slc (Slc.mk Option.none 0 0), Lf.int IntKind.u64 a1, Lf.bool a2, Lf.map (Option.some b3), Lf.int IntKind.i64 (0 : Int)] h4
                fun (b5 : Nat) (h6 : Heap) =>
                ∃ (I7 : Int → Heap → Nat → Prop),
                  (∃ (b8 : Nat), I7 (0 : Int) h6 b8) ∧
                    ∀ (i9 : Int) (h10 : Heap) (b11 : Nat),
                      I7 i9 h10 b11 →
                        Br (Decidable.decide (i9 < a0))
                          (∃ (s12 : Slc),
                            cellsAt h10 b5 0 [Lf.slc s12] ∧
                              NewM h10 fun (b13 : Nat) (h14 : Heap) =>
                                NewM h14 fun (b15 : Nat) (h16 : Heap) =>
                                  New 172 [Lf.map (Option.some b13), Lf.map (Option.some b15), Lf.slc (Slc.mk Option.none 0 0)] h16
                                    fun (b17 : Nat) (h18 : Heap) =>
                                    New 167 [Lf.ptr (Option.some (b17, 0))] h18 fun (b19 : Nat) (h20 : Heap) =>
                                      AppC 167 [Lf.ptr Option.none] 1 8 s12 (Slc.mk (Option.some (b19, 0)) 1 1) h20
                                        fun (s21 : Slc) (h22 : Heap) =>
                                        StC h22 b5 0 [Lf.slc s21] fun (h23 : Heap) => ∃ (b24 : Nat), b24 < b11 ∧ I7 (IntKind.wrap IntKind.i64 (i9 + (1 : Int))) h23 b24)
                          (R (Option.some (b5, 0)) (0 : Int) h10))
theorem eq60 (a0 : Int) (a1 : Int) (a2 : Bool) (h : Heap) (R : Option (Nat × Nat) → Int → Heap → Prop) : vc60 a0 a1 a2 h R = vcFn Go.Proofs.Try.prog pl60 Go.Proofs.Try.f60 [.lf (.int .i64 a0), .lf (.int .u64 a1), .lf (.bool a2)] h [.one .ptr, .one (.int .i64)] R := by kernel_rfl
theorem ok60 {a0 : Int} {a1 : Int} {a2 : Bool} {h : Heap} {R : Option (Nat × Nat) → Int → Heap → Prop} (hv : vc60 a0 a1 a2 h R) : Call Go.Proofs.Try.prog 60 [.lf (.int .i64 a0), .lf (.int .u64 a1), .lf (.bool a2)] h [.one .ptr, .one (.int .i64)] R := call_sound hng hmix Go.Proofs.Try.func60 ((eq60 a0 a1 a2 h R).mp hv)
/- 62: (*sediment.cache.Cache[string]).Value (c, pin) -/
def pl62 : Plan := {
  blk := fun _ => none
  seq := fun _ => none
  loop := fun _ => none
  live := fun | 0 => some [0, 1] | 1 => some [6] | 2 => some [6, 15] | 3 => some [7] | 4 => some [4, 5] | 5 => some [4, 5] | _ => none
  track := fun | _ => false
  draw := fun | _ => .done
  iter := fun | _ => none }
def vc62 (a0 : Option (Nat × Nat)) (a1 : Int) (h : Heap) (R : ByteArray → Int → Heap → Prop) : Prop :=
  NilC a0 fun (b0 b1 : Nat) =>
    ∃ (p2 : Option Nat),
      cellsAt h b0 (b1 + 3) [Lf.map p2] ∧
        ∃ (p3 : Option (Nat × Nat)),
          ∃ (c4 : Bool),
            LookR h (LT.int IntKind.i64) (VT.one LT.ptr) [Lf.ptr Option.none] p2 a1 [Lf.ptr p3] c4 ∧
              Br (Option.isNone p3) (R (ByteArray.mk #[]) (111 : Int) h)
                (NilC p3 fun (b5 b6 : Nat) => ∃ (t7 : ByteArray), cellsAt h b5 (b6 + 1) [Lf.str t7] ∧ R t7 (0 : Int) h)
theorem eq62 (a0 : Option (Nat × Nat)) (a1 : Int) (h : Heap) (R : ByteArray → Int → Heap → Prop) : vc62 a0 a1 h R = vcFn Go.Proofs.Try.prog pl62 Go.Proofs.Try.f62 [.lf (.ptr a0), .lf (.int .i64 a1)] h [.one .str, .one (.int .i64)] R := by kernel_rfl
theorem ok62 {a0 : Option (Nat × Nat)} {a1 : Int} {h : Heap} {R : ByteArray → Int → Heap → Prop} (hv : vc62 a0 a1 h R) : Call Go.Proofs.Try.prog 62 [.lf (.ptr a0), .lf (.int .i64 a1)] h [.one .str, .one (.int .i64)] R := call_sound hng hmix Go.Proofs.Try.func62 ((eq62 a0 a1 h R).mp hv)
/- 64: (*sediment.cache.Cache[string]).Charge (c) · loop 3: n, #11 -/
def pl64 : Plan := {
  blk := fun _ => none
  seq := fun _ => none
  loop := fun | 3 => some ⟨[(3, .one (.int .u64)), (11, .one (.int .i64))], [], []⟩ | _ => none
  live := fun | 0 => some [0] | 1 => some [0, 3] | 2 => some [3, 9, 10, 11] | 3 => some [3, 9, 10, 11, 12] | 4 => some [3, 5, 9, 10, 11] | 5 => some [3, 9, 10, 11] | 6 => some [3, 9, 10, 11] | 7 => some [2] | _ => none
  track := fun | _ => false
  draw := fun | _ => .done
  iter := fun | _ => none }
def vc64 (a0 : Option (Nat × Nat)) (h : Heap) (R : Int → Heap → Prop) : Prop :=
  NilC a0 fun (b0 b1 : Nat) =>
    ∃ (s2 : Slc),
      cellsAt h b0 (b1 + 0) [Lf.slc s2] ∧
        ∃ (I3 : Int → Int → Heap → Nat → Prop),
          (∃ (b4 : Nat), I3 (0 : Int) (0 : Int) h b4) ∧
            ∀ (i5 i6 : Int) (h7 : Heap) (b8 : Nat),
              I3 i5 i6 h7 b8 →
                Br (Decidable.decide (i6 < (↑(Slc.len s2) : Int)))
                  (IxC s2 i6 1 fun (b9 b10 : Nat) =>
                    ∃ (p11 : Option (Nat × Nat)),
                      cellsAt h7 b9 b10 [Lf.ptr p11] ∧
                        Call Go.Proofs.Try.prog 103 [VV.lf (Lf.ptr p11)] h7 [VT.one (LT.int IntKind.u64)] fun (i12 : Int) (h13 : Heap) =>
                          Call Go.Proofs.Try.prog 70 [VV.lf (Lf.int IntKind.u64 i5), VV.lf (Lf.int IntKind.u64 i12)] h13 [VT.one (LT.int IntKind.u64)]
                            fun (i14 : Int) (h15 : Heap) => ∃ (b16 : Nat), b16 < b8 ∧ I3 i14 (IntKind.wrap IntKind.i64 (i6 + (1 : Int))) h15 b16)
                  (R i5 h7)
theorem eq64 (a0 : Option (Nat × Nat)) (h : Heap) (R : Int → Heap → Prop) : vc64 a0 h R = vcFn Go.Proofs.Try.prog pl64 Go.Proofs.Try.f64 [.lf (.ptr a0)] h [.one (.int .u64)] R := by kernel_rfl
theorem ok64 {a0 : Option (Nat × Nat)} {h : Heap} {R : Int → Heap → Prop} (hv : vc64 a0 h R) : Call Go.Proofs.Try.prog 64 [.lf (.ptr a0)] h [.one (.int .u64)] R := call_sound hng hmix Go.Proofs.Try.func64 ((eq64 a0 h R).mp hv)
/- 65: (*sediment.cache.Cache[string]).Pinned (c) · loop 3: n, #12 · loop 6: n -/
def pl65 : Plan := {
  blk := fun _ => none
  seq := fun _ => none
  loop := fun | 3 => some ⟨[(3, .one (.int .u64)), (12, .one (.int .i64))], [], []⟩ | 6 => some ⟨[(3, .one (.int .u64))], [], []⟩ | _ => none
  live := fun | 0 => some [0] | 1 => some [0, 3] | 2 => some [3, 10, 11, 12] | 3 => some [3, 10, 11, 12, 13] | 4 => some [3, 5, 10, 11, 12] | 5 => some [3, 10, 11, 12, 20] | 6 => some [3, 10, 11, 12, 20, 22] | 7 => some [3, 6, 10, 11, 12, 20] | 8 => some [3, 6, 10, 11, 12, 20, 29] | 9 => some [3, 10, 11, 12, 20] | 10 => some [3, 10, 11, 12] | 11 => some [2] | _ => none
  track := fun | _ => false
  draw := fun | _ => .done
  iter := fun | 20 => some 169 | _ => none }
def vc65 (a0 : Option (Nat × Nat)) (h : Heap) (R : Int → Heap → Prop) : Prop :=
  NilC a0 fun (b0 b1 : Nat) =>
    ∃ (s2 : Slc),
      cellsAt h b0 (b1 + 0) [Lf.slc s2] ∧
        ∃ (I3 : Int → Int → Heap → Nat → Prop),
          (∃ (b4 : Nat), I3 (0 : Int) (0 : Int) h b4) ∧
            ∀ (i5 i6 : Int) (h7 : Heap) (b8 : Nat),
              I3 i5 i6 h7 b8 →
                Br (Decidable.decide (i6 < (↑(Slc.len s2) : Int)))
                  (IxC s2 i6 1 fun (b9 b10 : Nat) =>
                    ∃ (p11 : Option (Nat × Nat)),
                      cellsAt h7 b9 b10 [Lf.ptr p11] ∧
                        NilC p11 fun (b12 b13 : Nat) =>
                          ∃ (p14 : Option Nat),
                            cellsAt h7 b12 (b13 + 1) [Lf.map p14] ∧
                              RngC h7 p14 fun (b15 : Nat) (h16 : Heap) =>
                                ∃ (I17 : Int → Heap → Nat → Prop),
                                  (∃ (b18 : Nat), I17 i5 h16 b18) ∧
                                    ∀ (i19 : Int) (h20 : Heap) (b21 : Nat),
                                      I17 i19 h20 b21 →
                                        NextC LT.ptr (VT.one LT.bool) h20 b15
                                          (fun (h22 : Heap) => ∃ (b23 : Nat), b23 < b8 ∧ I3 i19 (IntKind.wrap IntKind.i64 (i6 + (1 : Int))) h22 b23)
                                          fun (p24 : Option (Nat × Nat)) (x25 : List Lf) (h26 : Heap) =>
                                          ∃ (p27 : Option (Nat × Nat)),
                                            ∃ (c28 : Bool),
                                              EntryR h26 b15 LT.ptr (VT.one LT.bool) p27 [Lf.bool c28] ∧
                                                NilC p27 fun (b29 b30 : Nat) =>
                                                  ∃ (i31 : Int),
                                                    cellsAt h26 b29 (b30 + 4) [Lf.int IntKind.i64 i31] ∧
                                                      Br (Decidable.decide (i31 > (0 : Int)))
                                                        (NilC p27 fun (b32 b33 : Nat) =>
                                                          ∃ (i34 : Int),
                                                            cellsAt h26 b32 (b33 + 2) [Lf.int IntKind.u64 i34] ∧
                                                              Call Go.Proofs.Try.prog 70 [VV.lf (Lf.int IntKind.u64 i19), VV.lf (Lf.int IntKind.u64 i34)] h26
                                                                [VT.one (LT.int IntKind.u64)] fun (i35 : Int) (h36 : Heap) => ∃ (b37 : Nat), b37 < b21 ∧ I17 i35 h36 b37)
                                                        (∃ (b38 : Nat), b38 < b21 ∧ I17 i19 h26 b38))
                  (R i5 h7)
theorem eq65 (a0 : Option (Nat × Nat)) (h : Heap) (R : Int → Heap → Prop) : vc65 a0 h R = vcFn Go.Proofs.Try.prog pl65 Go.Proofs.Try.f65 [.lf (.ptr a0)] h [.one (.int .u64)] R := by kernel_rfl
theorem ok65 {a0 : Option (Nat × Nat)} {h : Heap} {R : Int → Heap → Prop} (hv : vc65 a0 h R) : Call Go.Proofs.Try.prog 65 [.lf (.ptr a0)] h [.one (.int .u64)] R := call_sound hng hmix Go.Proofs.Try.func65 ((eq65 a0 h R).mp hv)
/- 66: (*sediment.cache.Cache[string]).Len (c) · loop 3: n, #11 -/
def pl66 : Plan := {
  blk := fun _ => none
  seq := fun _ => none
  loop := fun | 3 => some ⟨[(3, .one (.int .i64)), (11, .one (.int .i64))], [], []⟩ | _ => none
  live := fun | 0 => some [0] | 1 => some [0, 3] | 2 => some [3, 9, 10, 11] | 3 => some [3, 9, 10, 11, 12] | 4 => some [3, 5, 9, 10, 11] | 5 => some [3, 9, 10, 11] | 6 => some [3, 9, 10, 11] | 7 => some [2] | _ => none
  track := fun | _ => false
  draw := fun | _ => .done
  iter := fun | _ => none }
def vc66 (a0 : Option (Nat × Nat)) (h : Heap) (R : Int → Heap → Prop) : Prop :=
  NilC a0 fun (b0 b1 : Nat) =>
    ∃ (s2 : Slc),
      cellsAt h b0 (b1 + 0) [Lf.slc s2] ∧
        ∃ (I3 : Int → Int → Heap → Nat → Prop),
          (∃ (b4 : Nat), I3 (0 : Int) (0 : Int) h b4) ∧
            ∀ (i5 i6 : Int) (h7 : Heap) (b8 : Nat),
              I3 i5 i6 h7 b8 →
                Br (Decidable.decide (i6 < (↑(Slc.len s2) : Int)))
                  (IxC s2 i6 1 fun (b9 b10 : Nat) =>
                    ∃ (p11 : Option (Nat × Nat)),
                      cellsAt h7 b9 b10 [Lf.ptr p11] ∧
                        NilC p11 fun (b12 b13 : Nat) =>
                          ∃ (p14 : Option Nat),
                            cellsAt h7 b12 (b13 + 0) [Lf.map p14] ∧
                              ∃ (i15 : Int), LenR h7 p14 i15 ∧ ∃ (b16 : Nat), b16 < b8 ∧ I3 (IntKind.wrap IntKind.i64 (i5 + i15)) (IntKind.wrap IntKind.i64 (i6 + (1 : Int))) h7 b16)
                  (R i5 h7)
theorem eq66 (a0 : Option (Nat × Nat)) (h : Heap) (R : Int → Heap → Prop) : vc66 a0 h R = vcFn Go.Proofs.Try.prog pl66 Go.Proofs.Try.f66 [.lf (.ptr a0)] h [.one (.int .i64)] R := by kernel_rfl
theorem ok66 {a0 : Option (Nat × Nat)} {h : Heap} {R : Int → Heap → Prop} (hv : vc66 a0 h R) : Call Go.Proofs.Try.prog 66 [.lf (.ptr a0)] h [.one (.int .i64)] R := call_sound hng hmix Go.Proofs.Try.func66 ((eq66 a0 h R).mp hv)
/- 133: (*sediment.cache.Cache[string]).Shard (c, key) · loop 3: h, #11 -/
def pl133 : Plan := {
  blk := fun _ => none
  seq := fun _ => none
  loop := fun | 3 => some ⟨[(5, .one (.int .u32)), (11, .one (.int .i64))], [], []⟩ | _ => none
  live := fun | 0 => some [0, 1] | 1 => some [0, 1, 5] | 2 => some [0, 5, 9, 10, 11] | 3 => some [0, 5, 9, 10, 11, 12] | 4 => some [0, 5, 7, 9, 10, 11] | 5 => some [0, 5, 9, 10, 11] | 6 => some [0, 5, 9, 10, 11] | 7 => some [4] | _ => none
  track := fun | _ => false
  draw := fun | _ => .done
  iter := fun | _ => none }
def vc133 (a0 : Option (Nat × Nat)) (a1 : ByteArray) (h : Heap) (R : Int → Heap → Prop) : Prop :=
  S2B 5 a1 h fun (s0 : Slc) (h1 : Heap) =>
    ∃ (I2 : Int → Int → Heap → Nat → Prop),
      (∃ (b3 : Nat), I2 (2166136261 : Int) (0 : Int) h1 b3) ∧
        ∀ (i4 i5 : Int) (h6 : Heap) (b7 : Nat),
          I2 i4 i5 h6 b7 →
            Br (Decidable.decide (i5 < (↑(Slc.len s0) : Int)))
              (IxC s0 i5 1 fun (b8 b9 : Nat) =>
                ∃ (i10 : Int),
                  cellsAt h6 b8 b9 [Lf.int IntKind.u8 i10] ∧
                    ∃ (b11 : Nat),
                      b11 < b7 ∧
                        I2 (IntKind.wrap IntKind.u32 (bitop IntKind.u32 BinOp.xor i4 (IntKind.wrap IntKind.u32 i10) * (16777619 : Int)))
                          (IntKind.wrap IntKind.i64 (i5 + (1 : Int))) h6 b11)
              (NilC a0 fun (b12 b13 : Nat) =>
                ∃ (s14 : Slc),
                  cellsAt h6 b12 (b13 + 0) [Lf.slc s14] ∧
                    (IntKind.wrap IntKind.u32 (↑(Slc.len s14) : Int) = (0 : Int) → False) ∧
                      R (IntKind.wrap IntKind.i64 (Int.tmod i4 (IntKind.wrap IntKind.u32 (↑(Slc.len s14) : Int)))) h6)
theorem eq133 (a0 : Option (Nat × Nat)) (a1 : ByteArray) (h : Heap) (R : Int → Heap → Prop) : vc133 a0 a1 h R = vcFn Go.Proofs.Try.prog pl133 Go.Proofs.Try.f133 [.lf (.ptr a0), .lf (.str a1)] h [.one (.int .i64)] R := by kernel_rfl
theorem ok133 {a0 : Option (Nat × Nat)} {a1 : ByteArray} {h : Heap} {R : Int → Heap → Prop} (hv : vc133 a0 a1 h R) : Call Go.Proofs.Try.prog 133 [.lf (.ptr a0), .lf (.str a1)] h [.one (.int .i64)] R := call_sound hng hmix Go.Proofs.Try.func133 ((eq133 a0 a1 h R).mp hv)
end Go.V.Yteojmnnobmpdiaa
set_option linter.unusedVariables false
set_option maxRecDepth 100000
namespace Go.V.Yteojmnnobmpdiaa
open Go Go.V
/- 61: (*sediment.cache.Cache[string]).Put () · seq 6: #36 · seq 10:  -/
def pl61 : Plan := {
  blk := fun _ => none
  seq := fun | 6 => some ⟨[(36, .one .bool)], [], []⟩ | 10 => some ⟨[], [], []⟩ | _ => none
  loop := fun _ => none
  live := fun | 0 => some [0, 1, 2, 3] | 1 => some [0, 1, 2, 3, 15] | 2 => some [8, 9] | 3 => some [0, 1, 2, 3, 10] | 4 => some [0, 1, 2, 3, 10] | 5 => some [0, 1, 2, 3, 10, 36] | 6 => some [8, 9] | 7 => some [0, 1, 2, 3, 10, 11] | 8 => some [0, 1, 2, 3, 10, 11, 44] | 9 => some [0, 1, 2, 3, 10] | 10 => some [0, 1, 10, 12] | 11 => some [0, 12] | 12 => some [8, 9] | _ => none
  track := fun | _ => false
  draw := fun | 11 => .still 0 (.still 1 (.still 2 (.still 3 (.still 4 (.still 5 (.still 6 (.still 7 (.still 8 (.still 9 (.still 10 (.mem 11 (.still 12 (.mem 13 (.mem 14 (.still 15 (.mem 16 (.done))))))))))))))))) | _ => .done
  iter := fun | _ => none }
def vc61 (a0 : Option (Nat × Nat)) (a1 : ByteArray) (a2 : ByteArray) (a3 : Int) (h : Heap) (R : Int → Int → Heap → Prop) : Prop :=
  Br (Decidable.decide ((↑(ByteArray.size a1) : Int) > (1024 : Int))) (R (0 : Int) (2 : Int) h)
    (Call Go.Proofs.Try.prog 100 [VV.lf (Lf.ptr a0), VV.lf (Lf.str a1)] h [VT.one LT.ptr] fun (p0 : Option (Nat × Nat)) (h1 : Heap) =>
      Call Go.Proofs.Try.prog 102 [VV.lf (Lf.ptr a0)] h1 [VT.one (LT.int IntKind.u64)] fun (i2 : Int) (h3 : Heap) =>
        Call Go.Proofs.Try.prog 101 [VV.lf (Lf.ptr p0), VV.lf (Lf.int IntKind.u64 a3), VV.lf (Lf.int IntKind.u64 i2)] h3 [] fun (h4 : Heap) =>
          ∃ (I5 : Bool → Heap → Prop),
            (NilC a0 fun (b6 b7 : Nat) =>
                ∃ (c8 : Bool),
                  cellsAt h4 b6 (b7 + 2) [Lf.bool c8] ∧
                    Br c8
                      (Call Go.Proofs.Try.prog 103 [VV.lf (Lf.ptr p0)] h4 [VT.one (LT.int IntKind.u64)] fun (i9 : Int) (h10 : Heap) =>
                        Call Go.Proofs.Try.prog 70 [VV.lf (Lf.int IntKind.u64 i9), VV.lf (Lf.int IntKind.u64 a3)] h10 [VT.one (LT.int IntKind.u64)]
                          fun (i11 : Int) (h12 : Heap) =>
                          Call Go.Proofs.Try.prog 102 [VV.lf (Lf.ptr a0)] h12 [VT.one (LT.int IntKind.u64)] fun (i13 : Int) (h14 : Heap) =>
                            I5 (Decidable.decide (i11 > i13)) h14)
                      (I5 Bool.false h4)) ∧
              ∀ (c15 : Bool) (h16 : Heap),
                I5 c15 h16 →
                  Br c15 (R (0 : Int) (110 : Int) h16)
                    (∃ (I17 : Heap → Prop),
                      (NilC p0 fun (b18 b19 : Nat) =>
                          ∃ (p20 : Option Nat),
                            cellsAt h16 b18 (b19 + 0) [Lf.map p20] ∧
                              ∃ (p21 : Option (Nat × Nat)),
                                ∃ (c22 : Bool),
                                  LookR h16 LT.str (VT.one LT.ptr) [Lf.ptr Option.none] p20 a1 [Lf.ptr p21] c22 ∧
                                    Br (!Option.isNone p21)
                                      (Call Go.Proofs.Try.prog 104 [VV.lf (Lf.ptr p0), VV.lf (Lf.ptr p21)] h16 [] fun (h23 : Heap) => I17 h23) (I17 h16)) ∧
                        ∀ (h24 : Heap),
                          I17 h24 →
                            New 177 [Lf.str a1, Lf.str a2, Lf.int IntKind.u64 a3, Lf.bool Bool.true, Lf.int IntKind.i64 (0 : Int)] h24
                              fun (b25 : Nat) (h26 : Heap) =>
                              NilC p0 fun (b27 b28 : Nat) =>
                                ∃ (p29 : Option Nat),
                                  cellsAt h26 b27 (b28 + 0) [Lf.map p29] ∧
                                    NilC p0 fun (b30 b31 : Nat) =>
                                      ∃ (p32 : Option Nat),
                                        cellsAt h26 b30 (b31 + 1) [Lf.map p32] ∧
                                          EntC LT.str (VT.one LT.ptr) [Lf.ptr Option.none] h26 p29 a1 fun (x33 : List Lf) (b34 : Nat) (h35 : Heap) =>
                                            StoE LT.str (VT.one LT.ptr) h35 p29 (↑b34 : Int) [Lf.ptr (Option.some (b25, 0))] fun (h36 : Heap) =>
                                              EntC LT.ptr (VT.one LT.bool) [Lf.bool Bool.false] h36 p32 (Option.some (b25, 0))
                                                fun (x37 : List Lf) (b38 : Nat) (h39 : Heap) =>
                                                StoE LT.ptr (VT.one LT.bool) h39 p32 (↑b38 : Int) [Lf.bool Bool.true] fun (h40 : Heap) =>
                                                  Call Go.Proofs.Try.prog 105 [VV.lf (Lf.ptr a0), VV.lf (Lf.ptr (Option.some (b25, 0)))] h40
                                                    [VT.one (LT.int IntKind.i64)] fun (i41 : Int) (h42 : Heap) => R i41 (0 : Int) h42))
theorem eq61 (a0 : Option (Nat × Nat)) (a1 : ByteArray) (a2 : ByteArray) (a3 : Int) (h : Heap) (R : Int → Int → Heap → Prop) : vc61 a0 a1 a2 a3 h R = vcFn Go.Proofs.Try.prog pl61 Go.Proofs.Try.f61 [.lf (.ptr a0), .lf (.str a1), .lf (.str a2), .lf (.int .u64 a3)] h [.one (.int .i64), .one (.int .i64)] R := by kernel_rfl
theorem ok61 {a0 : Option (Nat × Nat)} {a1 : ByteArray} {a2 : ByteArray} {a3 : Int} {h : Heap} {R : Int → Int → Heap → Prop} (hv : vc61 a0 a1 a2 a3 h R) : Call Go.Proofs.Try.prog 61 [.lf (.ptr a0), .lf (.str a1), .lf (.str a2), .lf (.int .u64 a3)] h [.one (.int .i64), .one (.int .i64)] R := call_sound hng hmix Go.Proofs.Try.func61 ((eq61 a0 a1 a2 a3 h R).mp hv)
/- 63: (*sediment.cache.Cache[string]).Get (c, key) -/
def pl63 : Plan := {
  blk := fun _ => none
  seq := fun _ => none
  loop := fun _ => none
  live := fun | 0 => some [0, 1] | 1 => some [0, 1, 7] | 2 => some [0, 7, 8] | 3 => some [0, 7, 8, 20] | 4 => some [9] | 5 => some [4, 5, 6] | 6 => some [0, 8] | 7 => some [4, 5, 6] | _ => none
  track := fun | _ => false
  draw := fun | 7 => .still 0 (.still 1 (.still 3 (.still 4 (.still 5 (.still 6 (.mem 2 (.still 7 (.still 8 (.still 9 (.done)))))))))) | _ => .done
  iter := fun | _ => none }
def vc63 (a0 : Option (Nat × Nat)) (a1 : ByteArray) (h : Heap) (R : Int → ByteArray → Bool → Heap → Prop) : Prop :=
  Call Go.Proofs.Try.prog 100 [VV.lf (Lf.ptr a0), VV.lf (Lf.str a1)] h [VT.one LT.ptr] fun (p0 : Option (Nat × Nat)) (h1 : Heap) =>
    NilC p0 fun (b2 b3 : Nat) =>
      ∃ (p4 : Option Nat),
        cellsAt h1 b2 (b3 + 0) [Lf.map p4] ∧
          ∃ (p5 : Option (Nat × Nat)),
            ∃ (c6 : Bool),
              LookR h1 LT.str (VT.one LT.ptr) [Lf.ptr Option.none] p4 a1 [Lf.ptr p5] c6 ∧
                Br (Option.isNone p5) (R (0 : Int) (ByteArray.mk #[]) Bool.false h1)
                  (Call Go.Proofs.Try.prog 106 [VV.lf (Lf.ptr p0), VV.lf (Lf.ptr p5)] h1 [] fun (h7 : Heap) =>
                    NilC p5 fun (b8 b9 : Nat) =>
                      ∃ (t10 : ByteArray),
                        cellsAt h7 b8 (b9 + 1) [Lf.str t10] ∧
                          Call Go.Proofs.Try.prog 105 [VV.lf (Lf.ptr a0), VV.lf (Lf.ptr p5)] h7 [VT.one (LT.int IntKind.i64)]
                            fun (i11 : Int) (h12 : Heap) => cellsAt h12 b8 (b9 + 1) [Lf.str t10] ∧ R i11 t10 Bool.true h12)
theorem eq63 (a0 : Option (Nat × Nat)) (a1 : ByteArray) (h : Heap) (R : Int → ByteArray → Bool → Heap → Prop) : vc63 a0 a1 h R = vcFn Go.Proofs.Try.prog pl63 Go.Proofs.Try.f63 [.lf (.ptr a0), .lf (.str a1)] h [.one (.int .i64), .one .str, .one .bool] R := by kernel_rfl
theorem ok63 {a0 : Option (Nat × Nat)} {a1 : ByteArray} {h : Heap} {R : Int → ByteArray → Bool → Heap → Prop} (hv : vc63 a0 a1 h R) : Call Go.Proofs.Try.prog 63 [.lf (.ptr a0), .lf (.str a1)] h [.one (.int .i64), .one .str, .one .bool] R := call_sound hng hmix Go.Proofs.Try.func63 ((eq63 a0 a1 h R).mp hv)
end Go.V.Yteojmnnobmpdiaa
set_option linter.unusedVariables false
set_option maxRecDepth 100000
namespace Go.V.Yteojmnnobmpdiaa
open Go Go.V
/- 100: (*sediment.cache.Cache[string]).of (c, key) -/
def pl100 : Plan := {
  blk := fun _ => none
  seq := fun _ => none
  loop := fun _ => none
  live := fun | 0 => some [0, 1] | 1 => some [4] | _ => none
  track := fun | _ => false
  draw := fun | 1 => .still 0 (.still 1 (.still 2 (.still 3 (.still 4 (.still 5 (.mem 6 (.still 7 (.still 8 (.still 9 (.done)))))))))) | _ => .done
  iter := fun | _ => none }
def vc100 (a0 : Option (Nat × Nat)) (a1 : ByteArray) (h : Heap) (R : Option (Nat × Nat) → Heap → Prop) : Prop :=
  NilC a0 fun (b0 b1 : Nat) =>
    ∃ (s2 : Slc),
      cellsAt h b0 (b1 + 0) [Lf.slc s2] ∧
        Call Go.Proofs.Try.prog 133 [VV.lf (Lf.ptr a0), VV.lf (Lf.str a1)] h [VT.one (LT.int IntKind.i64)] fun (i3 : Int) (h4 : Heap) =>
          cellsAt h4 b0 (b1 + 0) [Lf.slc s2] ∧ IxC s2 i3 1 fun (b5 b6 : Nat) => ∃ (p7 : Option (Nat × Nat)), cellsAt h4 b5 b6 [Lf.ptr p7] ∧ R p7 h4
theorem eq100 (a0 : Option (Nat × Nat)) (a1 : ByteArray) (h : Heap) (R : Option (Nat × Nat) → Heap → Prop) : vc100 a0 a1 h R = vcFn Go.Proofs.Try.prog pl100 Go.Proofs.Try.f100 [.lf (.ptr a0), .lf (.str a1)] h [.one .ptr] R := by kernel_rfl
theorem ok100 {a0 : Option (Nat × Nat)} {a1 : ByteArray} {h : Heap} {R : Option (Nat × Nat) → Heap → Prop} (hv : vc100 a0 a1 h R) : Call Go.Proofs.Try.prog 100 [.lf (.ptr a0), .lf (.str a1)] h [.one .ptr] R := call_sound hng hmix Go.Proofs.Try.func100 ((eq100 a0 a1 h R).mp hv)
/- 101: (*sediment.cache.shard[string]).makes (s, more, room) · seq 1:  · loop 0:  -/
def pl101 : Plan := {
  blk := fun _ => none
  seq := fun | 1 => some ⟨[], [], []⟩ | _ => none
  loop := fun | 0 => some ⟨[], [], []⟩ | _ => none
  live := fun | 0 => some [0, 1, 2, 19] | 1 => some [0, 1, 2] | _ => none
  track := fun | _ => false
  draw := fun | _ => .done
  iter := fun | _ => none }
def vc101 (a0 : Option (Nat × Nat)) (a1 : Int) (a2 : Int) (h : Heap) (R : Heap → Prop) : Prop :=
  ∃ (I0 : Heap → Nat → Prop),
    (∃ (b1 : Nat), I0 h b1) ∧
      ∀ (h2 : Heap) (b3 : Nat),
        I0 h2 b3 →
          ∃ (I4 : Heap → Prop),
            (NilC a0 fun (b5 b6 : Nat) =>
                ∃ (s7 : Slc),
                  cellsAt h2 b5 (b6 + 2) [Lf.slc s7] ∧
                    Br (Decidable.decide ((↑(Slc.len s7) : Int) > (0 : Int)))
                      (Call Go.Proofs.Try.prog 103 [VV.lf (Lf.ptr a0)] h2 [VT.one (LT.int IntKind.u64)] fun (i8 : Int) (h9 : Heap) =>
                        Call Go.Proofs.Try.prog 70 [VV.lf (Lf.int IntKind.u64 i8), VV.lf (Lf.int IntKind.u64 a1)] h9 [VT.one (LT.int IntKind.u64)]
                          fun (i10 : Int) (h11 : Heap) => Br (Decidable.decide (i10 > a2)) (I4 h11) (R h11))
                      (R h2)) ∧
              ∀ (h12 : Heap),
                I4 h12 →
                  NilC a0 fun (b13 b14 : Nat) =>
                    ∃ (s15 : Slc),
                      cellsAt h12 b13 (b14 + 2) [Lf.slc s15] ∧
                        IxC s15 (0 : Int) 1 fun (b16 b17 : Nat) =>
                          ∃ (p18 : Option (Nat × Nat)),
                            cellsAt h12 b16 b17 [Lf.ptr p18] ∧
                              Call Go.Proofs.Try.prog 134 [VV.lf (Lf.ptr a0), VV.lf (Lf.ptr p18)] h12 [] fun (h19 : Heap) => ∃ (b20 : Nat), b20 < b3 ∧ I0 h19 b20
theorem eq101 (a0 : Option (Nat × Nat)) (a1 : Int) (a2 : Int) (h : Heap) (R : Heap → Prop) : vc101 a0 a1 a2 h R = vcFn Go.Proofs.Try.prog pl101 Go.Proofs.Try.f101 [.lf (.ptr a0), .lf (.int .u64 a1), .lf (.int .u64 a2)] h [] R := by kernel_rfl
theorem ok101 {a0 : Option (Nat × Nat)} {a1 : Int} {a2 : Int} {h : Heap} {R : Heap → Prop} (hv : vc101 a0 a1 a2 h R) : Call Go.Proofs.Try.prog 101 [.lf (.ptr a0), .lf (.int .u64 a1), .lf (.int .u64 a2)] h [] R := call_sound hng hmix Go.Proofs.Try.func101 ((eq101 a0 a1 a2 h R).mp hv)
/- 102: (*sediment.cache.Cache[string]).share (c) -/
def pl102 : Plan := {
  blk := fun _ => none
  seq := fun _ => none
  loop := fun _ => none
  live := fun | 0 => some [0] | 1 => some [2] | _ => none
  track := fun | _ => false
  draw := fun | 1 => .still 0 (.still 1 (.still 2 (.still 3 (.still 4 (.still 5 (.still 6 (.still 7 (.still 8 (.still 9 (.still 10 (.still 11 (.done)))))))))))) | _ => .done
  iter := fun | _ => none }
def vc102 (a0 : Option (Nat × Nat)) (h : Heap) (R : Int → Heap → Prop) : Prop :=
  NilC a0 fun (b0 b1 : Nat) =>
    ∃ (i2 : Int),
      cellsAt h b0 (b1 + 1) [Lf.int IntKind.u64 i2] ∧
        NilC a0 fun (b3 b4 : Nat) =>
          ∃ (s5 : Slc),
            cellsAt h b3 (b4 + 0) [Lf.slc s5] ∧
              (IntKind.wrap IntKind.u64 (↑(Slc.len s5) : Int) = (0 : Int) → False) ∧
                R (IntKind.wrap IntKind.u64 (Int.tdiv i2 (IntKind.wrap IntKind.u64 (↑(Slc.len s5) : Int)))) h
theorem eq102 (a0 : Option (Nat × Nat)) (h : Heap) (R : Int → Heap → Prop) : vc102 a0 h R = vcFn Go.Proofs.Try.prog pl102 Go.Proofs.Try.f102 [.lf (.ptr a0)] h [.one (.int .u64)] R := by kernel_rfl
theorem ok102 {a0 : Option (Nat × Nat)} {h : Heap} {R : Int → Heap → Prop} (hv : vc102 a0 h R) : Call Go.Proofs.Try.prog 102 [.lf (.ptr a0)] h [.one (.int .u64)] R := call_sound hng hmix Go.Proofs.Try.func102 ((eq102 a0 h R).mp hv)
/- 103: (*sediment.cache.shard[string]).used (s) · loop 3: n -/
def pl103 : Plan := {
  blk := fun _ => none
  seq := fun _ => none
  loop := fun | 3 => some ⟨[(3, .one (.int .u64))], [], []⟩ | _ => none
  live := fun | 0 => some [0] | 1 => some [0, 3] | 2 => some [3, 9] | 3 => some [3, 9, 11] | 4 => some [3, 4, 9] | 5 => some [3, 9] | 6 => some [2] | _ => none
  track := fun | _ => false
  draw := fun | _ => .done
  iter := fun | 9 => some 169 | _ => none }
def vc103 (a0 : Option (Nat × Nat)) (h : Heap) (R : Int → Heap → Prop) : Prop :=
  NilC a0 fun (b0 b1 : Nat) =>
    ∃ (p2 : Option Nat),
      cellsAt h b0 (b1 + 1) [Lf.map p2] ∧
        RngC h p2 fun (b3 : Nat) (h4 : Heap) =>
          ∃ (I5 : Int → Heap → Nat → Prop),
            (∃ (b6 : Nat), I5 (0 : Int) h4 b6) ∧
              ∀ (i7 : Int) (h8 : Heap) (b9 : Nat),
                I5 i7 h8 b9 →
                  NextC LT.ptr (VT.one LT.bool) h8 b3 (fun (h10 : Heap) => R i7 h10) fun (p11 : Option (Nat × Nat)) (x12 : List Lf) (h13 : Heap) =>
                    ∃ (p14 : Option (Nat × Nat)),
                      ∃ (c15 : Bool),
                        EntryR h13 b3 LT.ptr (VT.one LT.bool) p14 [Lf.bool c15] ∧
                          NilC p14 fun (b16 b17 : Nat) =>
                            ∃ (i18 : Int),
                              cellsAt h13 b16 (b17 + 2) [Lf.int IntKind.u64 i18] ∧
                                Call Go.Proofs.Try.prog 70 [VV.lf (Lf.int IntKind.u64 i7), VV.lf (Lf.int IntKind.u64 i18)] h13
                                  [VT.one (LT.int IntKind.u64)] fun (i19 : Int) (h20 : Heap) => ∃ (b21 : Nat), b21 < b9 ∧ I5 i19 h20 b21
theorem eq103 (a0 : Option (Nat × Nat)) (h : Heap) (R : Int → Heap → Prop) : vc103 a0 h R = vcFn Go.Proofs.Try.prog pl103 Go.Proofs.Try.f103 [.lf (.ptr a0)] h [.one (.int .u64)] R := by kernel_rfl
theorem ok103 {a0 : Option (Nat × Nat)} {h : Heap} {R : Int → Heap → Prop} (hv : vc103 a0 h R) : Call Go.Proofs.Try.prog 103 [.lf (.ptr a0)] h [.one (.int .u64)] R := call_sound hng hmix Go.Proofs.Try.func103 ((eq103 a0 h R).mp hv)
/- 104: (*sediment.cache.shard[string]).out (s, x) -/
def pl104 : Plan := {
  blk := fun _ => none
  seq := fun _ => none
  loop := fun _ => none
  live := fun | 0 => some [0, 1] | 1 => some [0, 1] | 2 => some [0, 1, 19] | 3 => some [] | _ => none
  track := fun | _ => false
  draw := fun | 0 => .still 0 (.still 1 (.still 2 (.still 3 (.still 4 (.still 5 (.still 6 (.still 7 (.mem 8 (.done))))))))) | _ => .done
  iter := fun | _ => none }
def vc104 (a0 : Option (Nat × Nat)) (a1 : Option (Nat × Nat)) (h : Heap) (R : Heap → Prop) : Prop :=
  NilC a0 fun (b0 b1 : Nat) =>
    ∃ (p2 : Option Nat),
      cellsAt h b0 (b1 + 0) [Lf.map p2] ∧
        NilC a1 fun (b3 b4 : Nat) =>
          ∃ (t5 : ByteArray),
            cellsAt h b3 (b4 + 0) [Lf.str t5] ∧
              DelC LT.str (VT.one LT.ptr) h p2 t5 fun (h6 : Heap) =>
                NilC a1 fun (b7 b8 : Nat) =>
                  StC h6 b7 (b8 + 3) [Lf.bool Bool.false] fun (h9 : Heap) =>
                    NilC a1 fun (b10 b11 : Nat) =>
                      ∃ (i12 : Int),
                        cellsAt h9 b10 (b11 + 4) [Lf.int IntKind.i64 i12] ∧
                          Br (i12 == (0 : Int)) (Call Go.Proofs.Try.prog 134 [VV.lf (Lf.ptr a0), VV.lf (Lf.ptr a1)] h9 [] fun (h13 : Heap) => R h13) (R h9)
theorem eq104 (a0 : Option (Nat × Nat)) (a1 : Option (Nat × Nat)) (h : Heap) (R : Heap → Prop) : vc104 a0 a1 h R = vcFn Go.Proofs.Try.prog pl104 Go.Proofs.Try.f104 [.lf (.ptr a0), .lf (.ptr a1)] h [] R := by kernel_rfl
theorem ok104 {a0 : Option (Nat × Nat)} {a1 : Option (Nat × Nat)} {h : Heap} {R : Heap → Prop} (hv : vc104 a0 a1 h R) : Call Go.Proofs.Try.prog 104 [.lf (.ptr a0), .lf (.ptr a1)] h [] R := call_sound hng hmix Go.Proofs.Try.func104 ((eq104 a0 a1 h R).mp hv)
/- 105: (*sediment.cache.Cache[string]).pin (c, x) -/
def pl105 : Plan := {
  blk := fun _ => none
  seq := fun _ => none
  loop := fun _ => none
  live := fun | 0 => some [0, 1] | 1 => some [0, 1] | 2 => some [0, 1] | 3 => some [0] | 4 => some [4] | _ => none
  track := fun | _ => false
  draw := fun | 3 => .still 0 (.still 1 (.still 2 (.still 3 (.still 4 (.still 5 (.still 6 (.still 7 (.still 8 (.mem 9 (.done)))))))))) | _ => .done
  iter := fun | _ => none }
def vc105 (a0 : Option (Nat × Nat)) (a1 : Option (Nat × Nat)) (h : Heap) (R : Int → Heap → Prop) : Prop :=
  NilC a1 fun (b0 b1 : Nat) =>
    ∃ (i2 : Int),
      cellsAt h b0 (b1 + 4) [Lf.int IntKind.i64 i2] ∧
        NilC a1 fun (b3 b4 : Nat) =>
          StC h b3 (b4 + 4) [Lf.int IntKind.i64 (IntKind.wrap IntKind.i64 (i2 + (1 : Int)))] fun (h5 : Heap) =>
            NilC a0 fun (b6 b7 : Nat) =>
              ∃ (i8 : Int),
                cellsAt h5 b6 (b7 + 4) [Lf.int IntKind.i64 i8] ∧
                  NilC a0 fun (b9 b10 : Nat) =>
                    StC h5 b9 (b10 + 4) [Lf.int IntKind.i64 (IntKind.wrap IntKind.i64 (i8 + (1 : Int)))] fun (h11 : Heap) =>
                      NilC a0 fun (b12 b13 : Nat) =>
                        ∃ (p14 : Option Nat),
                          cellsAt h11 b12 (b13 + 3) [Lf.map p14] ∧
                            NilC a0 fun (b15 b16 : Nat) =>
                              ∃ (i17 : Int),
                                cellsAt h11 b15 (b16 + 4) [Lf.int IntKind.i64 i17] ∧
                                  UpdC (LT.int IntKind.i64) (VT.one LT.ptr) h11 p14 i17 [Lf.ptr a1] fun (h18 : Heap) =>
                                    NilC a0 fun (b19 b20 : Nat) => ∃ (i21 : Int), cellsAt h18 b19 (b20 + 4) [Lf.int IntKind.i64 i21] ∧ R i21 h18
theorem eq105 (a0 : Option (Nat × Nat)) (a1 : Option (Nat × Nat)) (h : Heap) (R : Int → Heap → Prop) : vc105 a0 a1 h R = vcFn Go.Proofs.Try.prog pl105 Go.Proofs.Try.f105 [.lf (.ptr a0), .lf (.ptr a1)] h [.one (.int .i64)] R := by kernel_rfl
theorem ok105 {a0 : Option (Nat × Nat)} {a1 : Option (Nat × Nat)} {h : Heap} {R : Int → Heap → Prop} (hv : vc105 a0 a1 h R) : Call Go.Proofs.Try.prog 105 [.lf (.ptr a0), .lf (.ptr a1)] h [.one (.int .i64)] R := call_sound hng hmix Go.Proofs.Try.func105 ((eq105 a0 a1 h R).mp hv)
/- 106: (*sediment.cache.shard[string]).busy (s, x) -/
def pl106 : Plan := {
  blk := fun _ => none
  seq := fun _ => none
  loop := fun _ => none
  live := fun | 0 => some [0, 3] | 1 => some [] | _ => none
  track := fun | _ => false
  draw := fun | _ => .done
  iter := fun | _ => none }
def vc106 (a0 : Option (Nat × Nat)) (a1 : Option (Nat × Nat)) (h : Heap) (R : Heap → Prop) : Prop :=
  New 174 [Lf.ptr a1] h fun (b0 : Nat) (h1 : Heap) =>
    NilC a0 fun (b2 b3 : Nat) =>
      ∃ (s4 : Slc),
        cellsAt h1 b2 (b3 + 2) [Lf.slc s4] ∧
          Call Go.Proofs.Try.prog 135
            [VV.lf (Lf.slc s4), VV.lf (Lf.raw (Value.func (Fn.func 136) #[] #[Value.pointer (Option.some (Addr.mk b0 0 Option.none))]))] h1
            [VT.one LT.slc] fun (s5 : Slc) (h6 : Heap) => NilC a0 fun (b7 b8 : Nat) => StC h6 b7 (b8 + 2) [Lf.slc s5] fun (h9 : Heap) => R h9
theorem eq106 (a0 : Option (Nat × Nat)) (a1 : Option (Nat × Nat)) (h : Heap) (R : Heap → Prop) : vc106 a0 a1 h R = vcFn Go.Proofs.Try.prog pl106 Go.Proofs.Try.f106 [.lf (.ptr a0), .lf (.ptr a1)] h [] R := by kernel_rfl
theorem ok106 {a0 : Option (Nat × Nat)} {a1 : Option (Nat × Nat)} {h : Heap} {R : Heap → Prop} (hv : vc106 a0 a1 h R) : Call Go.Proofs.Try.prog 106 [.lf (.ptr a0), .lf (.ptr a1)] h [] R := call_sound hng hmix Go.Proofs.Try.func106 ((eq106 a0 a1 h R).mp hv)
/- 134: (*sediment.cache.shard[string]).gone (s, x) -/
def pl134 : Plan := {
  blk := fun _ => none
  seq := fun _ => none
  loop := fun _ => none
  live := fun | 0 => some [0, 1] | 1 => some [0, 1, 12] | 2 => some [0, 1] | 3 => some [0, 1] | 4 => some [] | _ => none
  track := fun | _ => false
  draw := fun | 2 => .still 0 (.still 1 (.still 2 (.still 3 (.still 4 (.still 5 (.still 6 (.still 7 (.mem 8 (.done))))))))) | _ => .done
  iter := fun | _ => none }
def vc134 (a0 : Option (Nat × Nat)) (a1 : Option (Nat × Nat)) (h : Heap) (R : Heap → Prop) : Prop :=
  NilC a0 fun (b0 b1 : Nat) =>
    ∃ (p2 : Option Nat),
      cellsAt h b0 (b1 + 1) [Lf.map p2] ∧
        DelC LT.ptr (VT.one LT.bool) h p2 a1 fun (h3 : Heap) =>
          NilC a1 fun (b4 b5 : Nat) =>
            ∃ (c6 : Bool),
              cellsAt h3 b4 (b5 + 3) [Lf.bool c6] ∧
                Br c6
                  (NilC a0 fun (b7 b8 : Nat) =>
                    ∃ (p9 : Option Nat),
                      cellsAt h3 b7 (b8 + 0) [Lf.map p9] ∧
                        NilC a1 fun (b10 b11 : Nat) =>
                          ∃ (t12 : ByteArray),
                            cellsAt h3 b10 (b11 + 0) [Lf.str t12] ∧
                              DelC LT.str (VT.one LT.ptr) h3 p9 t12 fun (h13 : Heap) =>
                                NilC a1 fun (b14 b15 : Nat) =>
                                  StC h13 b14 (b15 + 3) [Lf.bool Bool.false] fun (h16 : Heap) =>
                                    Call Go.Proofs.Try.prog 106 [VV.lf (Lf.ptr a0), VV.lf (Lf.ptr a1)] h16 [] fun (h17 : Heap) => R h17)
                  (Call Go.Proofs.Try.prog 106 [VV.lf (Lf.ptr a0), VV.lf (Lf.ptr a1)] h3 [] fun (h18 : Heap) => R h18)
theorem eq134 (a0 : Option (Nat × Nat)) (a1 : Option (Nat × Nat)) (h : Heap) (R : Heap → Prop) : vc134 a0 a1 h R = vcFn Go.Proofs.Try.prog pl134 Go.Proofs.Try.f134 [.lf (.ptr a0), .lf (.ptr a1)] h [] R := by kernel_rfl
theorem ok134 {a0 : Option (Nat × Nat)} {a1 : Option (Nat × Nat)} {h : Heap} {R : Heap → Prop} (hv : vc134 a0 a1 h R) : Call Go.Proofs.Try.prog 134 [.lf (.ptr a0), .lf (.ptr a1)] h [] R := call_sound hng hmix Go.Proofs.Try.func134 ((eq134 a0 a1 h R).mp hv)
/- 135: slices.DeleteFunc[[]*sediment.cache.item[string],*sediment.cache.item[string]] (s, del) · loop 5: i, j -/
def pl135 : Plan := {
  blk := fun _ => none
  seq := fun _ => none
  loop := fun | 5 => some ⟨[(5, .one (.int .i64)), (6, .one (.int .i64))], [], []⟩ | _ => none
  live := fun | 0 => some [0, 1] | 1 => some [0, 1, 5] | 2 => some [0, 1, 5, 12] | 3 => some [4] | 4 => some [0, 1, 5, 6] | 5 => some [0, 1, 5, 6, 19] | 6 => some [0, 1, 5, 6] | 7 => some [0, 1, 5, 6, 7] | 8 => some [0, 1, 5, 6, 7, 29] | 9 => some [0, 1, 5, 6] | 10 => some [0, 1, 5, 6] | 11 => some [0, 5] | 12 => some [4] | _ => none
  track := fun | _ => false
  draw := fun | _ => .done
  iter := fun | _ => none }
def vc135 (a0 : Slc) (a1 : Value) (h : Heap) (R : Slc → Heap → Prop) : Prop :=
  Call Go.Proofs.Try.prog 158 [VV.lf (Lf.slc a0), VV.lf (Lf.raw a1)] h [VT.one (LT.int IntKind.i64)] fun (i0 : Int) (h1 : Heap) =>
    Br (i0 == (-1 : Int)) (R a0 h1)
      (∃ (I2 : Int → Int → Heap → Nat → Prop),
        (∃ (b3 : Nat), I2 i0 (IntKind.wrap IntKind.i64 (i0 + (1 : Int))) h1 b3) ∧
          ∀ (i4 i5 : Int) (h6 : Heap) (b7 : Nat),
            I2 i4 i5 h6 b7 →
              Br (Decidable.decide (i5 < (↑(Slc.len a0) : Int)))
                (IxC a0 i5 1 fun (b8 b9 : Nat) =>
                  ∃ (p10 : Option (Nat × Nat)),
                    cellsAt h6 b8 b9 [Lf.ptr p10] ∧
                      CallV Go.Proofs.Try.prog a1 [VV.lf (Lf.ptr p10)] h6 [VT.one LT.bool] fun (c11 : Bool) (h12 : Heap) =>
                        Br (!c11)
                          (IxC a0 i4 1 fun (b13 b14 : Nat) =>
                            StC h12 b13 b14 [Lf.ptr p10] fun (h15 : Heap) =>
                              ∃ (b16 : Nat), b16 < b7 ∧ I2 (IntKind.wrap IntKind.i64 (i4 + (1 : Int))) (IntKind.wrap IntKind.i64 (i5 + (1 : Int))) h15 b16)
                          (∃ (b17 : Nat), b17 < b7 ∧ I2 i4 (IntKind.wrap IntKind.i64 (i5 + (1 : Int))) h12 b17))
                ((0 : Int) ≤ i4 ∧
                  i4 ≤ (↑(Slc.len a0) : Int) ∧
                    ClrC [Lf.ptr Option.none] (Slc.sub a0 1 (Int.toNat i4) (Slc.len a0) (Slc.cap a0)) h6 fun (h18 : Heap) =>
                      (0 : Int) ≤ i4 ∧ i4 ≤ (↑(Slc.cap a0) : Int) ∧ R (Slc.sub a0 1 0 (Int.toNat i4) (Slc.cap a0)) h18))
theorem eq135 (a0 : Slc) (a1 : Value) (h : Heap) (R : Slc → Heap → Prop) : vc135 a0 a1 h R = vcFn Go.Proofs.Try.prog pl135 Go.Proofs.Try.f135 [.lf (.slc a0), .lf (.raw a1)] h [.one .slc] R := by kernel_rfl
theorem ok135 {a0 : Slc} {a1 : Value} {h : Heap} {R : Slc → Heap → Prop} (hv : vc135 a0 a1 h R) : Call Go.Proofs.Try.prog 135 [.lf (.slc a0), .lf (.raw a1)] h [.one .slc] R := call_sound hng hmix Go.Proofs.Try.func135 ((eq135 a0 a1 h R).mp hv)
/- 136: (*sediment.cache.shard[string]).busy$1 (y) -/
def pl136 : Plan := {
  blk := fun _ => none
  seq := fun _ => none
  loop := fun _ => none
  live := fun | 0 => some [0, 1] | 1 => some [3] | _ => none
  track := fun | _ => false
  draw := fun | _ => .done
  iter := fun | _ => none }
def vc136 (a0 : Option (Nat × Nat)) (f0 : Nat) (o0 : Nat) (h : Heap) (R : Bool → Heap → Prop) : Prop :=
  ∃ (p0 : Option (Nat × Nat)), cellsAt h f0 o0 [Lf.ptr p0] ∧ PEq h a0 p0 ∧ R (ptrEq a0 p0) h
theorem eq136 (a0 : Option (Nat × Nat)) (f0 : Nat) (o0 : Nat) (h : Heap) (R : Bool → Heap → Prop) : vc136 a0 f0 o0 h R = vcFn Go.Proofs.Try.prog pl136 Go.Proofs.Try.f136 [.lf (.ptr a0), .lf (.ptr (some (f0, o0)))] h [.one .bool] R := by kernel_rfl
theorem ok136 {a0 : Option (Nat × Nat)} {f0 : Nat} {o0 : Nat} {h : Heap} {R : Bool → Heap → Prop} (hv : vc136 a0 f0 o0 h R) : Call Go.Proofs.Try.prog 136 [.lf (.ptr a0), .lf (.ptr (some (f0, o0)))] h [.one .bool] R := call_sound hng hmix Go.Proofs.Try.func136 ((eq136 a0 f0 o0 h R).mp hv)
/- 158: slices.IndexFunc[[]*sediment.cache.item[string],*sediment.cache.item[string]] (s, f) · loop 2: #8 -/
def pl158 : Plan := {
  blk := fun _ => none
  seq := fun _ => none
  loop := fun | 2 => some ⟨[(8, .one (.int .i64))], [], []⟩ | _ => none
  live := fun | 0 => some [0, 1] | 1 => some [0, 1, 7, 8] | 2 => some [0, 1, 7, 8, 9] | 3 => some [0, 1, 5, 7, 8] | 4 => some [0, 1, 5, 7, 8, 16] | 5 => some [4] | 6 => some [0, 1, 7, 8] | 7 => some [4] | _ => none
  track := fun | _ => false
  draw := fun | _ => .done
  iter := fun | _ => none }
def vc158 (a0 : Slc) (a1 : Value) (h : Heap) (R : Int → Heap → Prop) : Prop :=
  ∃ (I0 : Int → Heap → Nat → Prop),
    (∃ (b1 : Nat), I0 (0 : Int) h b1) ∧
      ∀ (i2 : Int) (h3 : Heap) (b4 : Nat),
        I0 i2 h3 b4 →
          Br (Decidable.decide (i2 < (↑(Slc.len a0) : Int)))
            (IxC a0 i2 1 fun (b5 b6 : Nat) =>
              ∃ (p7 : Option (Nat × Nat)),
                cellsAt h3 b5 b6 [Lf.ptr p7] ∧
                  CallV Go.Proofs.Try.prog a1 [VV.lf (Lf.ptr p7)] h3 [VT.one LT.bool] fun (c8 : Bool) (h9 : Heap) =>
                    Br c8 (R i2 h9) (∃ (b10 : Nat), b10 < b4 ∧ I0 (IntKind.wrap IntKind.i64 (i2 + (1 : Int))) h9 b10))
            (R (-1 : Int) h3)
theorem eq158 (a0 : Slc) (a1 : Value) (h : Heap) (R : Int → Heap → Prop) : vc158 a0 a1 h R = vcFn Go.Proofs.Try.prog pl158 Go.Proofs.Try.f158 [.lf (.slc a0), .lf (.raw a1)] h [.one (.int .i64)] R := by kernel_rfl
theorem ok158 {a0 : Slc} {a1 : Value} {h : Heap} {R : Int → Heap → Prop} (hv : vc158 a0 a1 h R) : Call Go.Proofs.Try.prog 158 [.lf (.slc a0), .lf (.raw a1)] h [.one (.int .i64)] R := call_sound hng hmix Go.Proofs.Try.func158 ((eq158 a0 a1 h R).mp hv)
end Go.V.Yteojmnnobmpdiaa
set_option linter.unusedVariables false
set_option maxRecDepth 100000
namespace Go.V.Yteojmnnobmpdiaa
open Go Go.V
/- 13: sediment.sedimentlaw11.lives () · seq 3: #19 -/
def pl13 : Plan := {
  blk := fun _ => none
  seq := fun | 3 => some ⟨[(19, .one .bool)], [], []⟩ | _ => none
  loop := fun _ => none
  live := fun | 0 => some [] | 1 => some [1, 2] | 2 => some [1, 19] | 3 => some [0] | 4 => some [1, 3, 4] | 5 => some [1, 3, 4, 5, 6] | 6 => some [1, 3, 4, 5, 6, 7, 8, 9] | 7 => some [0] | _ => none
  track := fun | _ => false
  draw := fun | _ => .done
  iter := fun | _ => none }
def vc13  (h : Heap) (R : Bool → Heap → Prop) : Prop :=
  Call Go.Proofs.Try.prog 60 [VV.lf (Lf.int IntKind.i64 (1 : Int)), VV.lf (Lf.int IntKind.u64 (10 : Int)), VV.lf (Lf.bool Bool.false)] h
    [VT.one LT.ptr, VT.one (LT.int IntKind.i64)] fun (p0 : Option (Nat × Nat)) (i1 : Int) (h2 : Heap) =>
    ∃ (I3 : Bool → Heap → Prop),
      Br (Option.isNone p0) (I3 Bool.true h2) (I3 (i1 != (0 : Int)) h2) ∧
        ∀ (c4 : Bool) (h5 : Heap),
          I3 c4 h5 →
            Br c4 (R Bool.false h5)
              (Call Go.Proofs.Try.prog 61
                [VV.lf (Lf.ptr p0), VV.lf (Lf.str (ByteArray.mk #[(97 : UInt8)])), VV.lf (Lf.str (ByteArray.mk #[(120 : UInt8)])),
                  VV.lf (Lf.int IntKind.u64 (4 : Int))]
                h5 [VT.one (LT.int IntKind.i64), VT.one (LT.int IntKind.i64)] fun (i6 i7 : Int) (h8 : Heap) =>
                Call Go.Proofs.Try.prog 62 [VV.lf (Lf.ptr p0), VV.lf (Lf.int IntKind.i64 i6)] h8 [VT.one LT.str, VT.one (LT.int IntKind.i64)]
                  fun (t9 : ByteArray) (i10 : Int) (h11 : Heap) =>
                  Call Go.Proofs.Try.prog 63 [VV.lf (Lf.ptr p0), VV.lf (Lf.str (ByteArray.mk #[(97 : UInt8)]))] h11
                    [VT.one (LT.int IntKind.i64), VT.one LT.str, VT.one LT.bool] fun (i12 : Int) (t13 : ByteArray) (c14 : Bool) (h15 : Heap) =>
                    Br (i7 == (0 : Int))
                      (Br (strEq t9 (ByteArray.mk #[(120 : UInt8)]))
                        (Br (i10 == (0 : Int))
                          (Br c14
                            (Br (strEq t13 (ByteArray.mk #[(120 : UInt8)]))
                              (Br (i6 == (1 : Int))
                                (Br (i12 == (2 : Int))
                                  (Call Go.Proofs.Try.prog 64 [VV.lf (Lf.ptr p0)] h15 [VT.one (LT.int IntKind.u64)] fun (i16 : Int) (h17 : Heap) =>
                                    Br (i16 == (4 : Int))
                                      (Call Go.Proofs.Try.prog 65 [VV.lf (Lf.ptr p0)] h17 [VT.one (LT.int IntKind.u64)] fun (i18 : Int) (h19 : Heap) =>
                                        Br (i18 == (4 : Int))
                                          (Call Go.Proofs.Try.prog 66 [VV.lf (Lf.ptr p0)] h19 [VT.one (LT.int IntKind.i64)] fun (i20 : Int) (h21 : Heap) =>
                                            R (i20 == (1 : Int)) h21)
                                          (R Bool.false h19))
                                      (R Bool.false h17))
                                  (R Bool.false h15))
                                (R Bool.false h15))
                              (R Bool.false h15))
                            (R Bool.false h15))
                          (R Bool.false h15))
                        (R Bool.false h15))
                      (R Bool.false h15))
theorem eq13  (h : Heap) (R : Bool → Heap → Prop) : vc13  h R = vcFn Go.Proofs.Try.prog pl13 Go.Proofs.Try.f13 [] h [.one .bool] R := by kernel_rfl
theorem ok13  {h : Heap} {R : Bool → Heap → Prop} (hv : vc13  h R) : Call Go.Proofs.Try.prog 13 [] h [.one .bool] R := call_sound hng hmix Go.Proofs.Try.func13 ((eq13  h R).mp hv)
end Go.V.Yteojmnnobmpdiaa
