/- This text proves a part of the laws of seat Ytclffphegfhocaa, under no condition: B3o. -/
import Derived.Test.YtclffphegfhocaaEC
import Derived.Eval
import Derived.Test.YtclffphegfhocaaChecked
import Derived.Test.YtclffphegfhocaaEF
set_option linter.unusedVariables false
set_option maxRecDepth 100000
namespace Go.V.Ytclffphegfhocaa
open Go Go.V
/- 62: (*sediment.sedimentref03.reader).varint (r) -/
def pl62 : Plan := {
  blk := fun _ => none
  seq := fun _ => none
  loop := fun _ => none
  live := fun | 0 => some [0] | 1 => some [0, 10] | 2 => some [2] | 3 => some [0, 3, 4, 5] | 4 => some [0, 3, 4] | 5 => some [3] | 6 => some [2] | _ => none
  track := fun | _ => false
  draw := fun | _ => .done
  iter := fun | _ => none }
def vc62 (a0 : Option (Nat × Nat)) (h : Heap) (R : Int → Heap → Prop) : Prop :=
  NilC a0 fun (b0 b1 : Nat) =>
    ∃ (i2 : Int),
      cellsAt h b0 (b1 + 1) [Lf.int IntKind.i64 i2] ∧
        Br (i2 != (0 : Int)) (R (0 : Int) h)
          (NilC a0 fun (b3 b4 : Nat) =>
            ∃ (s5 : Slc),
              cellsAt h b3 (b4 + 0) [Lf.slc s5] ∧
                Call Go.Proofs.Try.prog 70 [VV.lf (Lf.slc s5)] h
                  [VT.one (LT.int IntKind.u64), VT.one (LT.int IntKind.i64), VT.one (LT.int IntKind.i64)] fun (i6 i7 i8 : Int) (h9 : Heap) =>
                  NilC a0 fun (b10 b11 : Nat) =>
                    StC h9 b10 (b11 + 1) [Lf.int IntKind.i64 i8] fun (h12 : Heap) =>
                      NilC a0 fun (b13 b14 : Nat) =>
                        ∃ (s15 : Slc),
                          cellsAt h12 b13 (b14 + 0) [Lf.slc s15] ∧
                            (0 : Int) ≤ i7 ∧
                              i7 ≤ (↑(Slc.len s15) : Int) ∧
                                NilC a0 fun (b16 b17 : Nat) =>
                                  StC h12 b16 (b17 + 0) [Lf.slc (Slc.sub s15 1 (Int.toNat i7) (Slc.len s15) (Slc.cap s15))] fun (h18 : Heap) => R i6 h18)
theorem eq62 (a0 : Option (Nat × Nat)) (h : Heap) (R : Int → Heap → Prop) : vc62 a0 h R = vcFn Go.Proofs.Try.prog pl62 Go.Proofs.Try.f62 [.lf (.ptr a0)] h [.one (.int .u64)] R := by kernel_rfl
theorem ok62 {a0 : Option (Nat × Nat)} {h : Heap} {R : Int → Heap → Prop} (hv : vc62 a0 h R) : Call Go.Proofs.Try.prog 62 [.lf (.ptr a0)] h [.one (.int .u64)] R := call_eq hng hmix Go.Proofs.Try.func62 (eq62 a0 h R) hv
/- 63: (*sediment.sedimentref03.reader).text (r, most) · seq 3: #19 · seq 4:  · seq 6:  -/
def pl63 : Plan := {
  blk := fun _ => none
  seq := fun | 3 => some ⟨[(19, .one .bool)], [], []⟩ | 4 => some ⟨[], [], []⟩ | 6 => some ⟨[], [], []⟩ | _ => none
  loop := fun _ => none
  live := fun | 0 => some [0, 1] | 1 => some [0, 1, 5] | 2 => some [0, 5, 19] | 3 => some [0, 5] | 4 => some [0, 5, 37] | 5 => some [0, 5] | 6 => some [0, 5, 45] | 7 => some [4] | 8 => some [0, 5, 6] | 9 => some [6] | 10 => some [4] | _ => none
  track := fun | _ => false
  draw := fun | _ => .done
  iter := fun | _ => none }
def vc63 (a0 : Option (Nat × Nat)) (a1 : Int) (h : Heap) (R : ByteArray → Heap → Prop) : Prop :=
  Call Go.Proofs.Try.prog 62 [VV.lf (Lf.ptr a0)] h [VT.one (LT.int IntKind.u64)] fun (i0 : Int) (h1 : Heap) =>
    ∃ (I2 : Heap → Prop),
      (∃ (I3 : Bool → Heap → Prop),
          (NilC a0 fun (b4 b5 : Nat) =>
              ∃ (i6 : Int),
                cellsAt h1 b4 (b5 + 1) [Lf.int IntKind.i64 i6] ∧ Br (i6 == (0 : Int)) (I3 (Decidable.decide (i0 > IntKind.wrap IntKind.u64 a1)) h1) (I3 Bool.false h1)) ∧
            ∀ (c7 : Bool) (h8 : Heap),
              I3 c7 h8 → Br c7 (NilC a0 fun (b9 b10 : Nat) => StC h8 b9 (b10 + 1) [Lf.int IntKind.i64 (3 : Int)] fun (h11 : Heap) => I2 h11) (I2 h8)) ∧
        ∀ (h12 : Heap),
          I2 h12 →
            ∃ (I13 : Heap → Prop),
              (NilC a0 fun (b14 b15 : Nat) =>
                  ∃ (i16 : Int),
                    cellsAt h12 b14 (b15 + 1) [Lf.int IntKind.i64 i16] ∧
                      Br (i16 == (0 : Int))
                        (NilC a0 fun (b17 b18 : Nat) =>
                          ∃ (s19 : Slc),
                            cellsAt h12 b17 (b18 + 0) [Lf.slc s19] ∧
                              Br (Decidable.decide (i0 > IntKind.wrap IntKind.u64 (↑(Slc.len s19) : Int)))
                                (NilC a0 fun (b20 b21 : Nat) => StC h12 b20 (b21 + 1) [Lf.int IntKind.i64 (4 : Int)] fun (h22 : Heap) => I13 h22) (I13 h12))
                        (I13 h12)) ∧
                ∀ (h23 : Heap),
                  I13 h23 →
                    NilC a0 fun (b24 b25 : Nat) =>
                      ∃ (i26 : Int),
                        cellsAt h23 b24 (b25 + 1) [Lf.int IntKind.i64 i26] ∧
                          Br (i26 != (0 : Int)) (R (ByteArray.mk #[]) h23)
                            (NilC a0 fun (b27 b28 : Nat) =>
                              ∃ (s29 : Slc),
                                cellsAt h23 b27 (b28 + 0) [Lf.slc s29] ∧
                                  (0 : Int) ≤ i0 ∧
                                    i0 ≤ (↑(Slc.cap s29) : Int) ∧
                                      ∃ (t30 : ByteArray),
                                        bytesAt h23 (Slc.sub s29 1 0 (Int.toNat i0) (Slc.cap s29)) t30 ∧
                                          NilC a0 fun (b31 b32 : Nat) =>
                                            ∃ (s33 : Slc),
                                              cellsAt h23 b31 (b32 + 0) [Lf.slc s33] ∧
                                                (0 : Int) ≤ i0 ∧
                                                  i0 ≤ (↑(Slc.len s33) : Int) ∧
                                                    NilC a0 fun (b34 b35 : Nat) =>
                                                      StC h23 b34 (b35 + 0) [Lf.slc (Slc.sub s33 1 (Int.toNat i0) (Slc.len s33) (Slc.cap s33))]
                                                        fun (h36 : Heap) => R t30 h36)
theorem eq63 (a0 : Option (Nat × Nat)) (a1 : Int) (h : Heap) (R : ByteArray → Heap → Prop) : vc63 a0 a1 h R = vcFn Go.Proofs.Try.prog pl63 Go.Proofs.Try.f63 [.lf (.ptr a0), .lf (.int .i64 a1)] h [.one .str] R := by kernel_rfl
theorem ok63 {a0 : Option (Nat × Nat)} {a1 : Int} {h : Heap} {R : ByteArray → Heap → Prop} (hv : vc63 a0 a1 h R) : Call Go.Proofs.Try.prog 63 [.lf (.ptr a0), .lf (.int .i64 a1)] h [.one .str] R := call_eq hng hmix Go.Proofs.Try.func63 (eq63 a0 a1 h R) hv
/- 45: (*sediment.sedimentref03.reader).record () · seq 11: #48 · seq 12:  -/
def pl45 : Plan := {
  blk := fun _ => none
  seq := fun | 11 => some ⟨[(48, .one .bool)], [], []⟩ | 12 => some ⟨[], [], []⟩ | _ => none
  loop := fun _ => none
  live := fun | 0 => some [0, 2] | 1 => some [0, 2, 10] | 2 => some [2] | 3 => some [2] | 4 => some [0, 2, 3] | 5 => some [0, 2, 3] | 6 => some [0, 2, 3, 33] | 7 => some [2, 3] | 8 => some [2] | 9 => some [0, 2, 3, 4] | 10 => some [0, 2, 3, 4, 48] | 11 => some [0, 2, 3, 4] | 12 => some [0, 2, 3] | 13 => some [0, 2, 3] | 14 => some [0, 2, 3, 60] | 15 => some [2, 3] | 16 => some [2] | _ => none
  track := fun | 2 => true | 3 => true | _ => false
  draw := fun | _ => .done
  iter := fun | _ => none }
def vc45 (a0 : Option (Nat × Nat)) (h : Heap) (R : Int → Int → ByteArray → ByteArray → Heap → Prop) : Prop :=
  New 31 [Lf.int IntKind.u32 (0 : Int), Lf.int IntKind.i64 (0 : Int), Lf.str (ByteArray.mk #[]), Lf.str (ByteArray.mk #[])] h fun (b0 : Nat) (h1 : Heap) =>
    NilC a0 fun (b2 b3 : Nat) =>
      ∃ (s4 : Slc),
        cellsAt h1 b2 (b3 + 0) [Lf.slc s4] ∧
          Br ((↑(Slc.len s4) : Int) == (0 : Int))
            (NilC a0 fun (b5 b6 : Nat) =>
              StC h1 b5 (b6 + 1) [Lf.int IntKind.i64 (4 : Int)] fun (h7 : Heap) =>
                keepB h1 h7 [b0] ∧
                  Set b0 31 [Lf.int IntKind.u32 (0 : Int), Lf.int IntKind.i64 (0 : Int), Lf.str (ByteArray.mk #[]), Lf.str (ByteArray.mk #[])] h7
                    fun (h8 : Heap) => R (0 : Int) (0 : Int) (ByteArray.mk #[]) (ByteArray.mk #[]) h8)
            (NilC a0 fun (b9 b10 : Nat) =>
              ∃ (s11 : Slc),
                cellsAt h1 b9 (b10 + 0) [Lf.slc s11] ∧
                  IxC s11 (0 : Int) 1 fun (b12 b13 : Nat) =>
                    ∃ (i14 : Int),
                      cellsAt h1 b12 b13 [Lf.int IntKind.u8 i14] ∧
                        New 31 [Lf.int IntKind.u32 (0 : Int), Lf.int IntKind.i64 (0 : Int), Lf.str (ByteArray.mk #[]), Lf.str (ByteArray.mk #[])] h1
                          fun (b15 : Nat) (h16 : Heap) =>
                          Set b15 31
                            [Lf.int IntKind.u32 (0 : Int), Lf.int IntKind.i64 (IntKind.wrap IntKind.i64 i14), Lf.str (ByteArray.mk #[]), Lf.str (ByteArray.mk #[])] h16
                            fun (h17 : Heap) =>
                            NilC a0 fun (b18 b19 : Nat) =>
                              ∃ (s20 : Slc),
                                cellsAt h17 b18 (b19 + 0) [Lf.slc s20] ∧
                                  (0 : Int) ≤ (1 : Int) ∧
                                    (1 : Int) ≤ (↑(Slc.len s20) : Int) ∧
                                      NilC a0 fun (b21 b22 : Nat) =>
                                        StC h17 b21 (b22 + 0) [Lf.slc (Slc.sub s20 1 1 (Slc.len s20) (Slc.cap s20))] fun (h23 : Heap) =>
                                          keepB h17 h23 [b0, b15] ∧
                                            Br (Decidable.decide (IntKind.wrap IntKind.i64 i14 > (2 : Int)))
                                              (NilC a0 fun (b24 b25 : Nat) =>
                                                StC h23 b24 (b25 + 1) [Lf.int IntKind.i64 (3 : Int)] fun (h26 : Heap) =>
                                                  keepB h23 h26 [b0, b15] ∧
                                                    Set b0 31
                                                      [Lf.int IntKind.u32 (0 : Int), Lf.int IntKind.i64 (IntKind.wrap IntKind.i64 i14), Lf.str (ByteArray.mk #[]),
                                                        Lf.str (ByteArray.mk #[])]
                                                      h26 fun (h27 : Heap) => R (0 : Int) (IntKind.wrap IntKind.i64 i14) (ByteArray.mk #[]) (ByteArray.mk #[]) h27)
                                              (Call Go.Proofs.Try.prog 62 [VV.lf (Lf.ptr a0)] h23 [VT.one (LT.int IntKind.u64)]
                                                fun (i28 : Int) (h29 : Heap) =>
                                                keepB h23 h29 [b0, b15] ∧
                                                  ∃ (I30 : Heap → Prop),
                                                    (∃ (I31 : Bool → Heap → Prop),
                                                        (NilC a0 fun (b32 b33 : Nat) =>
                                                            ∃ (i34 : Int),
                                                              cellsAt h29 b32 (b33 + 1) [Lf.int IntKind.i64 i34] ∧
                                                                Br (i34 == (0 : Int)) (I31 (Decidable.decide (i28 ≥ (4294967296 : Int))) h29) (I31 Bool.false h29)) ∧
                                                          ∀ (c35 : Bool) (h36 : Heap),
                                                            I31 c35 h36 →
                                                              Br c35
                                                                (NilC a0 fun (b37 b38 : Nat) =>
                                                                  StC h36 b37 (b38 + 1) [Lf.int IntKind.i64 (3 : Int)] fun (h39 : Heap) =>
                                                                    keepB h36 h39 [b0, b15] ∧ I30 h39)
                                                                (I30 h36)) ∧
                                                      ∀ (h40 : Heap),
                                                        I30 h40 →
                                                          Set b15 31
                                                            [Lf.int IntKind.u32 (IntKind.wrap IntKind.u32 i28), Lf.int IntKind.i64 (IntKind.wrap IntKind.i64 i14),
                                                              Lf.str (ByteArray.mk #[]), Lf.str (ByteArray.mk #[])]
                                                            h40 fun (h41 : Heap) =>
                                                            Call Go.Proofs.Try.prog 63 [VV.lf (Lf.ptr a0), VV.lf (Lf.int IntKind.i64 (1024 : Int))] h41
                                                              [VT.one LT.str] fun (t42 : ByteArray) (h43 : Heap) =>
                                                              keepB h41 h43 [b0, b15] ∧
                                                                Set b15 31
                                                                  [Lf.int IntKind.u32 (IntKind.wrap IntKind.u32 i28), Lf.int IntKind.i64 (IntKind.wrap IntKind.i64 i14),
                                                                    Lf.str t42, Lf.str (ByteArray.mk #[])]
                                                                  h43 fun (h44 : Heap) =>
                                                                  Br (IntKind.wrap IntKind.i64 i14 != (0 : Int))
                                                                    (Call Go.Proofs.Try.prog 38 [VV.lf (Lf.int IntKind.i64 (IntKind.wrap IntKind.i64 i14))] h44
                                                                      [VT.one (LT.int IntKind.i64)] fun (i45 : Int) (h46 : Heap) =>
                                                                      keepB h44 h46 [b0, b15] ∧
                                                                        Call Go.Proofs.Try.prog 63 [VV.lf (Lf.ptr a0), VV.lf (Lf.int IntKind.i64 i45)] h46
                                                                          [VT.one LT.str] fun (t47 : ByteArray) (h48 : Heap) =>
                                                                          keepB h46 h48 [b0, b15] ∧
                                                                            Set b15 31
                                                                              [Lf.int IntKind.u32 (IntKind.wrap IntKind.u32 i28),
                                                                                Lf.int IntKind.i64 (IntKind.wrap IntKind.i64 i14), Lf.str t42, Lf.str t47]
                                                                              h48 fun (h49 : Heap) =>
                                                                              Set b0 31
                                                                                [Lf.int IntKind.u32 (IntKind.wrap IntKind.u32 i28),
                                                                                  Lf.int IntKind.i64 (IntKind.wrap IntKind.i64 i14), Lf.str t42, Lf.str t47]
                                                                                h49 fun (h50 : Heap) => R (IntKind.wrap IntKind.u32 i28) (IntKind.wrap IntKind.i64 i14) t42 t47 h50)
                                                                    (Set b0 31
                                                                      [Lf.int IntKind.u32 (IntKind.wrap IntKind.u32 i28), Lf.int IntKind.i64 (IntKind.wrap IntKind.i64 i14),
                                                                        Lf.str t42, Lf.str (ByteArray.mk #[])]
                                                                      h44 fun (h51 : Heap) =>
                                                                      R (IntKind.wrap IntKind.u32 i28) (IntKind.wrap IntKind.i64 i14) t42 (ByteArray.mk #[]) h51)))
theorem eq45 (a0 : Option (Nat × Nat)) (h : Heap) (R : Int → Int → ByteArray → ByteArray → Heap → Prop) : vc45 a0 h R = vcFn Go.Proofs.Try.prog pl45 Go.Proofs.Try.f45 [.lf (.ptr a0)] h [.agg [.int .u32, .int .i64, .str, .str]] R := by kernel_rfl
theorem ok45 {a0 : Option (Nat × Nat)} {h : Heap} {R : Int → Int → ByteArray → ByteArray → Heap → Prop} (hv : vc45 a0 h R) : Call Go.Proofs.Try.prog 45 [.lf (.ptr a0)] h [.agg [.int .u32, .int .i64, .str, .str]] R := call_eq hng hmix Go.Proofs.Try.func45 (eq45 a0 h R) hv
/- 23: sediment.sedimentref03.Decode () · seq 12: #42 · loop 15: #9, #10 -/
def pl23 : Plan := {
  blk := fun _ => none
  seq := fun | 12 => some ⟨[(42, .one .bool)], [], []⟩ | _ => none
  loop := fun | 15 => some ⟨[(9, .one .slc), (10, .one (.int .i64))], [], []⟩ | _ => none
  live := fun | 0 => some [0] | 1 => some [0, 14] | 2 => some [2, 3, 4] | 3 => some [0, 5, 6] | 4 => some [0, 5, 6, 21] | 5 => some [2, 3, 4] | 6 => some [0, 5, 24] | 7 => some [2, 3, 4] | 8 => some [0, 5, 6, 7] | 9 => some [0, 5, 6, 7, 32] | 10 => some [2, 3, 4] | 11 => some [0, 5, 7, 42] | 12 => some [2, 3, 4] | 13 => some [5, 7, 8, 9] | 14 => some [5, 7, 8, 9, 10] | 15 => some [5, 7, 8, 9, 10, 51] | 16 => some [5, 7, 8, 9, 10] | 17 => some [5, 7, 8, 9, 10, 11] | 18 => some [5, 7, 8, 9, 10, 11, 60] | 19 => some [2, 3, 4] | 20 => some [5, 7, 8, 9, 10] | 21 => some [5, 9, 74] | 22 => some [2, 3, 4] | 23 => some [2, 3, 4] | _ => none
  track := fun | 11 => true | _ => false
  draw := fun | 19 => .still 0 (.still 1 (.still 2 (.still 3 (.still 4 (.still 5 (.still 6 (.done))))))) | _ => .done
  iter := fun | _ => none }
def vc23 (a0 : Slc) (h : Heap) (R : Int → Slc → Int → Heap → Prop) : Prop :=
  Br (Decidable.decide ((↑(Slc.len a0) : Int) > (4194304 : Int))) (R (0 : Int) (Slc.mk Option.none 0 0) (2 : Int) h)
    (Call Go.Proofs.Try.prog 44 [VV.lf (Lf.slc a0), VV.lf (Lf.int IntKind.i64 (8 : Int))] h
      [VT.one (LT.int IntKind.u64), VT.one (LT.int IntKind.i64)] fun (i0 i1 : Int) (h2 : Heap) =>
      Br (i1 != (0 : Int)) (R (0 : Int) (Slc.mk Option.none 0 0) i1 h2)
        (Br (Decidable.decide (i0 > (72057594037927935 : Int))) (R (0 : Int) (Slc.mk Option.none 0 0) (3 : Int) h2)
          ((0 : Int) ≤ (8 : Int) ∧
            (8 : Int) ≤ (↑(Slc.len a0) : Int) ∧
              Call Go.Proofs.Try.prog 44
                [VV.lf (Lf.slc (Slc.sub a0 1 8 (Slc.len a0) (Slc.cap a0))), VV.lf (Lf.int IntKind.i64 (4 : Int))] h2
                [VT.one (LT.int IntKind.u64), VT.one (LT.int IntKind.i64)] fun (i3 i4 : Int) (h5 : Heap) =>
                Br (i4 != (0 : Int)) (R (0 : Int) (Slc.mk Option.none 0 0) i4 h5)
                  (∃ (I6 : Bool → Heap → Prop),
                    Br (Decidable.decide (i3 > (4096 : Int))) (I6 Bool.true h5)
                        (Call Go.Proofs.Try.prog 35 [VV.lf (Lf.int IntKind.u64 i0), VV.lf (Lf.int IntKind.i64 (IntKind.wrap IntKind.i64 i3))] h5
                          [VT.one LT.bool] fun (c7 : Bool) (h8 : Heap) => I6 (!c7) h8) ∧
                      ∀ (c9 : Bool) (h10 : Heap),
                        I6 c9 h10 →
                          Br c9 (R (0 : Int) (Slc.mk Option.none 0 0) (3 : Int) h10)
                            ((0 : Int) ≤ (12 : Int) ∧
                              (12 : Int) ≤ (↑(Slc.len a0) : Int) ∧
                                New 80 [Lf.slc (Slc.sub a0 1 12 (Slc.len a0) (Slc.cap a0)), Lf.int IntKind.i64 (0 : Int)] h10
                                  fun (b11 : Nat) (h12 : Heap) =>
                                  New 31 [] h12 fun (b13 : Nat) (h14 : Heap) =>
                                    ∃ (I15 : Slc → Int → Heap → Nat → Prop),
                                      (∃ (b16 : Nat), I15 (Slc.mk (Option.some (b13, 0)) 0 0) (0 : Int) h14 b16) ∧
                                        ∀ (s17 : Slc) (i18 : Int) (h19 : Heap) (b20 : Nat),
                                          I15 s17 i18 h19 b20 →
                                            Br (Decidable.decide (i18 < IntKind.wrap IntKind.i64 i3))
                                              (Call Go.Proofs.Try.prog 45 [VV.lf (Lf.ptr (Option.some (b11, 0)))] h19
                                                [VT.agg [LT.int IntKind.u32, LT.int IntKind.i64, LT.str, LT.str]]
                                                fun (i21 i22 : Int) (t23 t24 : ByteArray) (h25 : Heap) =>
                                                New 31
                                                  [Lf.int IntKind.u32 (0 : Int), Lf.int IntKind.i64 (0 : Int), Lf.str (ByteArray.mk #[]), Lf.str (ByteArray.mk #[])] h25
                                                  fun (b26 : Nat) (h27 : Heap) =>
                                                  Set b26 31 [Lf.int IntKind.u32 i21, Lf.int IntKind.i64 i22, Lf.str t23, Lf.str t24] h27
                                                    fun (h28 : Heap) =>
                                                    ∃ (i29 : Int),
                                                      cellsAt h28 b11 1 [Lf.int IntKind.i64 i29] ∧
                                                        Br (i29 != (0 : Int))
                                                          (∃ (i30 : Int),
                                                            cellsAt h28 b11 1 [Lf.int IntKind.i64 i30] ∧ R (0 : Int) (Slc.mk Option.none 0 0) i30 h28)
                                                          (New 31 [Lf.int IntKind.u32 i21, Lf.int IntKind.i64 i22, Lf.str t23, Lf.str t24] h28
                                                            fun (b31 : Nat) (h32 : Heap) =>
                                                            AppC 31
                                                              [Lf.int IntKind.u32 (0 : Int), Lf.int IntKind.i64 (0 : Int), Lf.str (ByteArray.mk #[]), Lf.str (ByteArray.mk #[])]
                                                              4 48 s17 (Slc.mk (Option.some (b31, 0)) 1 1) h32 fun (s33 : Slc) (h34 : Heap) =>
                                                              keepB h32 h34 [b26] ∧ ∃ (b35 : Nat), b35 < b20 ∧ I15 s33 (IntKind.wrap IntKind.i64 (i18 + (1 : Int))) h34 b35))
                                              (∃ (s36 : Slc),
                                                cellsAt h19 b11 0 [Lf.slc s36] ∧
                                                  Br (Decidable.decide ((↑(Slc.len s36) : Int) > (0 : Int))) (R (0 : Int) (Slc.mk Option.none 0 0) (5 : Int) h19)
                                                    (R i0 s17 (0 : Int) h19)))))))
theorem eq23 (a0 : Slc) (h : Heap) (R : Int → Slc → Int → Heap → Prop) : vc23 a0 h R = vcFn Go.Proofs.Try.prog pl23 Go.Proofs.Try.f23 [.lf (.slc a0)] h [.one (.int .u64), .one .slc, .one (.int .i64)] R := by kernel_rfl
theorem ok23 {a0 : Slc} {h : Heap} {R : Int → Slc → Int → Heap → Prop} (hv : vc23 a0 h R) : Call Go.Proofs.Try.prog 23 [.lf (.slc a0)] h [.one (.int .u64), .one .slc, .one (.int .i64)] R := call_eq hng hmix Go.Proofs.Try.func23 (eq23 a0 h R) hv
/- 5: sediment.sedimentlaw03.BatchEncodes () · seq 4: #36 · loop 6: #9 -/
def pl5 : Plan := {
  blk := fun _ => none
  seq := fun | 4 => some ⟨[(36, .one .bool)], [], []⟩ | _ => none
  loop := fun | 6 => some ⟨[(9, .one (.int .i64))], [], []⟩ | _ => none
  live := fun | 0 => some [0, 1] | 1 => some [0, 1, 5, 6] | 2 => some [0, 1, 5, 6, 7, 8] | 3 => some [0, 1, 5, 6, 36] | 4 => some [4] | 5 => some [0, 1, 5, 6, 9] | 6 => some [0, 1, 5, 6, 9, 40] | 7 => some [0, 1, 5, 6, 9] | 8 => some [0, 1, 5, 6, 9, 53] | 9 => some [4] | 10 => some [0, 1, 5, 55] | 11 => some [4] | 12 => some [0, 1, 10, 11, 12] | 13 => some [4] | _ => none
  track := fun | _ => false
  draw := fun | 8 => .still 0 (.still 1 (.still 2 (.still 3 (.still 5 (.still 6 (.still 7 (.still 8 (.mem 4 (.mem 9 (.still 10 (.done))))))))))) | _ => .done
  iter := fun | _ => none }
def vc5 (a0 : Int) (a1 : Slc) (h : Heap) (R : Bool → Heap → Prop) : Prop :=
  New 31 [] h fun (b0 : Nat) (h1 : Heap) =>
    AppC 31 [Lf.int IntKind.u32 (0 : Int), Lf.int IntKind.i64 (0 : Int), Lf.str (ByteArray.mk #[]), Lf.str (ByteArray.mk #[])] 4 48
      (Slc.mk (Option.some (b0, 0)) 0 0) a1 h1 fun (s2 : Slc) (h3 : Heap) =>
      Call Go.Proofs.Try.prog 17 [VV.lf (Lf.int IntKind.u64 a0), VV.lf (Lf.slc s2)] h3 [VT.one LT.slc, VT.one (LT.int IntKind.i64)]
        fun (s4 : Slc) (i5 : Int) (h6 : Heap) =>
        Call Go.Proofs.Try.prog 18 [VV.lf (Lf.int IntKind.u64 a0), VV.lf (Lf.slc a1)] h6 [VT.one LT.slc, VT.one (LT.int IntKind.i64)]
          fun (s7 : Slc) (i8 : Int) (h9 : Heap) =>
          ∃ (I10 : Bool → Heap → Prop),
            Br (i5 != i8) (I10 Bool.true h9) (∃ (t11 : ByteArray), bytesAt h9 s4 t11 ∧ ∃ (t12 : ByteArray), bytesAt h9 s7 t12 ∧ I10 (!strEq t11 t12) h9) ∧
              ∀ (c13 : Bool) (h14 : Heap),
                I10 c13 h14 →
                  Br c13 (R Bool.false h14)
                    (∃ (I15 : Int → Heap → Nat → Prop),
                      (∃ (b16 : Nat), I15 (0 : Int) h14 b16) ∧
                        ∀ (i17 : Int) (h18 : Heap) (b19 : Nat),
                          I15 i17 h18 b19 →
                            Br (Decidable.decide (i17 < (↑(Slc.len a1) : Int)))
                              (IxC a1 i17 4 fun (b20 b21 : Nat) =>
                                ∃ (i22 : Int),
                                  ∃ (i23 : Int),
                                    ∃ (t24 : ByteArray),
                                      ∃ (t25 : ByteArray),
                                        cellsAt h18 b20 b21 [Lf.int IntKind.u32 i22, Lf.int IntKind.i64 i23, Lf.str t24, Lf.str t25] ∧
                                          IxC a1 i17 4 fun (b26 b27 : Nat) =>
                                            ∃ (i28 : Int),
                                              ∃ (i29 : Int),
                                                ∃ (t30 : ByteArray),
                                                  ∃ (t31 : ByteArray),
                                                    cellsAt h18 b26 b27 [Lf.int IntKind.u32 i28, Lf.int IntKind.i64 i29, Lf.str t30, Lf.str t31] ∧
                                                      Call Go.Proofs.Try.prog 19
                                                        [VV.agg [Lf.int IntKind.u32 i22, Lf.int IntKind.i64 i23, Lf.str t24, Lf.str t25]] h18
                                                        [VT.one (LT.int IntKind.i64)] fun (i32 : Int) (h33 : Heap) =>
                                                        cellsAt h33 b26 b27 [Lf.int IntKind.u32 i28, Lf.int IntKind.i64 i29, Lf.str t30, Lf.str t31] ∧
                                                          Call Go.Proofs.Try.prog 20
                                                            [VV.agg [Lf.int IntKind.u32 i28, Lf.int IntKind.i64 i29, Lf.str t30, Lf.str t31]] h33
                                                            [VT.one (LT.int IntKind.i64)] fun (i34 : Int) (h35 : Heap) =>
                                                            Br (i32 != i34) (R Bool.false h35) (∃ (b36 : Nat), b36 < b19 ∧ I15 (IntKind.wrap IntKind.i64 (i17 + (1 : Int))) h35 b36))
                              (Br (i5 != (0 : Int)) (Call Go.Proofs.Try.prog 14 [] h18 [VT.one LT.bool] fun (c37 : Bool) (h38 : Heap) => R c37 h38)
                                (Call Go.Proofs.Try.prog 21 [VV.lf (Lf.slc s4)] h18
                                  [VT.one (LT.int IntKind.u64), VT.one LT.slc, VT.one (LT.int IntKind.i64)]
                                  fun (i39 : Int) (s40 : Slc) (i41 : Int) (h42 : Heap) =>
                                  Br (i39 == a0)
                                    (Br (i41 == (0 : Int))
                                      (Call Go.Proofs.Try.prog 22 [VV.lf (Lf.slc a1)] h42 [VT.one LT.slc] fun (s43 : Slc) (h44 : Heap) =>
                                        Call Go.Proofs.Try.prog 13 [VV.lf (Lf.slc s40), VV.lf (Lf.slc s43)] h44 [VT.one LT.bool]
                                          fun (c45 : Bool) (h46 : Heap) =>
                                          Br c45 (Call Go.Proofs.Try.prog 14 [] h46 [VT.one LT.bool] fun (c47 : Bool) (h48 : Heap) => R c47 h48) (R Bool.false h46))
                                      (R Bool.false h42))
                                    (R Bool.false h42))))
theorem eq5 (a0 : Int) (a1 : Slc) (h : Heap) (R : Bool → Heap → Prop) : vc5 a0 a1 h R = vcFn Go.Proofs.Try.prog pl5 Go.Proofs.Try.f5 [.lf (.int .u64 a0), .lf (.slc a1)] h [.one .bool] R := by kernel_rfl
theorem ok5 {a0 : Int} {a1 : Slc} {h : Heap} {R : Bool → Heap → Prop} (hv : vc5 a0 a1 h R) : Call Go.Proofs.Try.prog 5 [.lf (.int .u64 a0), .lf (.slc a1)] h [.one .bool] R := call_eq hng hmix Go.Proofs.Try.func5 (eq5 a0 a1 h R) hv
/- 6: sediment.sedimentlaw03.BatchDecodes (b) · seq 4: #38 -/
def pl6 : Plan := {
  blk := fun _ => none
  seq := fun | 4 => some ⟨[(38, .one .bool)], [], []⟩ | _ => none
  loop := fun _ => none
  live := fun | 0 => some [0] | 1 => some [0, 3, 4, 5] | 2 => some [0, 3, 4, 5, 6, 7, 8] | 3 => some [0, 3, 4, 5, 38] | 4 => some [2] | 5 => some [0, 3, 4, 40] | 6 => some [2] | 7 => some [0, 9, 10] | 8 => some [2] | _ => none
  track := fun | _ => false
  draw := fun | _ => .done
  iter := fun | _ => none }
def vc6 (a0 : Slc) (h : Heap) (R : Bool → Heap → Prop) : Prop :=
  New 5 [] h fun (b0 : Nat) (h1 : Heap) =>
    AppC 5 [Lf.int IntKind.u8 (0 : Int)] 1 1 (Slc.mk (Option.some (b0, 0)) 0 0) a0 h1 fun (s2 : Slc) (h3 : Heap) =>
      Call Go.Proofs.Try.prog 21 [VV.lf (Lf.slc s2)] h3 [VT.one (LT.int IntKind.u64), VT.one LT.slc, VT.one (LT.int IntKind.i64)]
        fun (i4 : Int) (s5 : Slc) (i6 : Int) (h7 : Heap) =>
        Call Go.Proofs.Try.prog 23 [VV.lf (Lf.slc a0)] h7 [VT.one (LT.int IntKind.u64), VT.one LT.slc, VT.one (LT.int IntKind.i64)]
          fun (i8 : Int) (s9 : Slc) (i10 : Int) (h11 : Heap) =>
          ∃ (I12 : Bool → Heap → Prop),
            Br (i4 != i8) (I12 Bool.true h11)
                (Br (i6 != i10) (I12 Bool.true h11)
                  (Call Go.Proofs.Try.prog 13 [VV.lf (Lf.slc s5), VV.lf (Lf.slc s9)] h11 [VT.one LT.bool] fun (c13 : Bool) (h14 : Heap) =>
                    I12 (!c13) h14)) ∧
              ∀ (c15 : Bool) (h16 : Heap),
                I12 c15 h16 →
                  Br c15 (R Bool.false h16)
                    (Br (i6 != (0 : Int)) (Call Go.Proofs.Try.prog 14 [] h16 [VT.one LT.bool] fun (c17 : Bool) (h18 : Heap) => R c17 h18)
                      (Call Go.Proofs.Try.prog 17 [VV.lf (Lf.int IntKind.u64 i4), VV.lf (Lf.slc s5)] h16
                        [VT.one LT.slc, VT.one (LT.int IntKind.i64)] fun (s19 : Slc) (i20 : Int) (h21 : Heap) =>
                        Br (i20 == (0 : Int))
                          (∃ (t22 : ByteArray),
                            bytesAt h21 s19 t22 ∧
                              ∃ (t23 : ByteArray),
                                bytesAt h21 a0 t23 ∧
                                  Br (strEq t22 t23) (Call Go.Proofs.Try.prog 14 [] h21 [VT.one LT.bool] fun (c24 : Bool) (h25 : Heap) => R c24 h25)
                                    (R Bool.false h21))
                          (R Bool.false h21)))
theorem eq6 (a0 : Slc) (h : Heap) (R : Bool → Heap → Prop) : vc6 a0 h R = vcFn Go.Proofs.Try.prog pl6 Go.Proofs.Try.f6 [.lf (.slc a0)] h [.one .bool] R := by kernel_rfl
theorem ok6 {a0 : Slc} {h : Heap} {R : Bool → Heap → Prop} (hv : vc6 a0 h R) : Call Go.Proofs.Try.prog 6 [.lf (.slc a0)] h [.one .bool] R := call_eq hng hmix Go.Proofs.Try.func6 (eq6 a0 h R) hv
end Go.V.Ytclffphegfhocaa
