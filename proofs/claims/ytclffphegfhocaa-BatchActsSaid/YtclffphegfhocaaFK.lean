/- This text proves a part of the laws of seat Ytclffphegfhocaa, under no condition: B4k. -/
import Derived.Test.YtclffphegfhocaaEC
import Derived.Eval
import Derived.Test.YtclffphegfhocaaChecked
import Derived.Test.YtclffphegfhocaaEF
set_option linter.unusedVariables false
set_option maxRecDepth 100000
namespace Go.V.Ytclffphegfhocaa
open Go Go.V
/- 67: slices.Compact[[]uint32,uint32] (s) · loop 4: k · loop 9: k, k2 -/
def pl67 : Plan := {
  blk := fun _ => none
  seq := fun _ => none
  loop := fun | 4 => some ⟨[(3, .one (.int .i64))], [], []⟩ | 9 => some ⟨[(3, .one (.int .i64)), (5, .one (.int .i64))], [], []⟩ | _ => none
  live := fun | 0 => some [0] | 1 => some [0, 8] | 2 => some [2] | 3 => some [0, 3] | 4 => some [0, 3, 13] | 5 => some [0, 3] | 6 => some [0, 3, 25] | 7 => some [0, 3, 4] | 8 => some [0, 3, 4, 5] | 9 => some [0, 3, 4, 5, 32] | 10 => some [0, 3, 4, 5] | 11 => some [0, 3, 4, 5, 44] | 12 => some [0, 3, 4, 5] | 13 => some [0, 3, 4, 5] | 14 => some [0, 3] | 15 => some [2] | 16 => some [2] | _ => none
  track := fun | _ => false
  draw := fun | 6 => .still 0 (.still 1 (.still 2 (.still 3 (.still 4 (.still 5 (.still 6 (.still 7 (.still 8 (.still 9 (.done)))))))))) | 11 => .still 0 (.still 1 (.still 2 (.still 3 (.still 4 (.still 5 (.still 6 (.still 7 (.still 8 (.still 9 (.done)))))))))) | _ => .done
  iter := fun | _ => none }
def vc67 (a0 : Slc) (h : Heap) (R : Slc → Heap → Prop) : Prop :=
  Br (Decidable.decide ((↑(Slc.len a0) : Int) < (2 : Int))) (R a0 h)
    (∃ (I0 : Int → Heap → Nat → Prop),
      (∃ (b1 : Nat), I0 (1 : Int) h b1) ∧
        ∀ (i2 : Int) (h3 : Heap) (b4 : Nat),
          I0 i2 h3 b4 →
            Br (Decidable.decide (i2 < (↑(Slc.len a0) : Int)))
              (IxC a0 i2 1 fun (b5 b6 : Nat) =>
                ∃ (i7 : Int),
                  cellsAt h3 b5 b6 [Lf.int IntKind.u32 i7] ∧
                    IxC a0 (IntKind.wrap IntKind.i64 (i2 - (1 : Int))) 1 fun (b8 b9 : Nat) =>
                      ∃ (i10 : Int),
                        cellsAt h3 b8 b9 [Lf.int IntKind.u32 i10] ∧
                          Br (i7 == i10)
                            ((0 : Int) ≤ i2 ∧
                              i2 ≤ (↑(Slc.len a0) : Int) ∧
                                ∃ (I11 : Int → Int → Heap → Nat → Prop),
                                  (∃ (b12 : Nat), I11 i2 (1 : Int) h3 b12) ∧
                                    ∀ (i13 i14 : Int) (h15 : Heap) (b16 : Nat),
                                      I11 i13 i14 h15 b16 →
                                        Br (Decidable.decide (i14 < (↑(Slc.len (Slc.sub a0 1 (Int.toNat i2) (Slc.len a0) (Slc.cap a0))) : Int)))
                                          (IxC (Slc.sub a0 1 (Int.toNat i2) (Slc.len a0) (Slc.cap a0)) i14 1 fun (b17 b18 : Nat) =>
                                            ∃ (i19 : Int),
                                              cellsAt h15 b17 b18 [Lf.int IntKind.u32 i19] ∧
                                                IxC (Slc.sub a0 1 (Int.toNat i2) (Slc.len a0) (Slc.cap a0)) (IntKind.wrap IntKind.i64 (i14 - (1 : Int))) 1
                                                  fun (b20 b21 : Nat) =>
                                                  ∃ (i22 : Int),
                                                    cellsAt h15 b20 b21 [Lf.int IntKind.u32 i22] ∧
                                                      Br (i19 != i22)
                                                        (IxC (Slc.sub a0 1 (Int.toNat i2) (Slc.len a0) (Slc.cap a0)) i14 1 fun (b23 b24 : Nat) =>
                                                          ∃ (i25 : Int),
                                                            cellsAt h15 b23 b24 [Lf.int IntKind.u32 i25] ∧
                                                              IxC a0 i13 1 fun (b26 b27 : Nat) =>
                                                                StC h15 b26 b27 [Lf.int IntKind.u32 i25] fun (h28 : Heap) =>
                                                                  ∃ (b29 : Nat),
                                                                    b29 < b16 ∧ I11 (IntKind.wrap IntKind.i64 (i13 + (1 : Int))) (IntKind.wrap IntKind.i64 (i14 + (1 : Int))) h28 b29)
                                                        (∃ (b30 : Nat), b30 < b16 ∧ I11 i13 (IntKind.wrap IntKind.i64 (i14 + (1 : Int))) h15 b30))
                                          ((0 : Int) ≤ i13 ∧
                                            i13 ≤ (↑(Slc.len a0) : Int) ∧
                                              ClrC [Lf.int IntKind.u32 (0 : Int)] (Slc.sub a0 1 (Int.toNat i13) (Slc.len a0) (Slc.cap a0)) h15
                                                fun (h31 : Heap) =>
                                                (0 : Int) ≤ i13 ∧ i13 ≤ (↑(Slc.cap a0) : Int) ∧ R (Slc.sub a0 1 0 (Int.toNat i13) (Slc.cap a0)) h31))
                            (∃ (b32 : Nat), b32 < b4 ∧ I0 (IntKind.wrap IntKind.i64 (i2 + (1 : Int))) h3 b32))
              (R a0 h3))
theorem eq67 (a0 : Slc) (h : Heap) (R : Slc → Heap → Prop) : vc67 a0 h R = vcFn Go.Proofs.Try.prog pl67 Go.Proofs.Try.f67 [.lf (.slc a0)] h [.one .slc] R := by kernel_rfl
theorem ok67 {a0 : Slc} {h : Heap} {R : Slc → Heap → Prop} (hv : vc67 a0 h R) : Call Go.Proofs.Try.prog 67 [.lf (.slc a0)] h [.one .slc] R := call_eq hng hmix Go.Proofs.Try.func67 (eq67 a0 h R) hv
/- 51: (*sediment.batch.Batch).Families (b) · loop 3: out, #11 -/
def pl51 : Plan := {
  blk := fun _ => none
  seq := fun _ => none
  loop := fun | 3 => some ⟨[(3, .one .slc), (11, .one (.int .i64))], [], []⟩ | _ => none
  live := fun | 0 => some [0] | 1 => some [0, 3] | 2 => some [3, 9, 10, 11] | 3 => some [3, 9, 10, 11, 12] | 4 => some [3, 5, 9, 10, 11] | 5 => some [3, 9, 10, 11] | 6 => some [3, 9, 10, 11] | 7 => some [3] | 8 => some [2] | _ => none
  track := fun | 5 => true | _ => false
  draw := fun | _ => .done
  iter := fun | _ => none }
def vc51 (a0 : Option (Nat × Nat)) (h : Heap) (R : Slc → Heap → Prop) : Prop :=
  NilC a0 fun (b0 b1 : Nat) =>
    ∃ (s2 : Slc),
      cellsAt h b0 (b1 + 0) [Lf.slc s2] ∧
        ∃ (I3 : Slc → Int → Heap → Nat → Prop),
          (∃ (b4 : Nat), I3 (Slc.mk Option.none 0 0) (0 : Int) h b4) ∧
            ∀ (s5 : Slc) (i6 : Int) (h7 : Heap) (b8 : Nat),
              I3 s5 i6 h7 b8 →
                Br (Decidable.decide (i6 < (↑(Slc.len s2) : Int)))
                  (IxC s2 i6 4 fun (b9 b10 : Nat) =>
                    ∃ (i11 : Int),
                      ∃ (i12 : Int),
                        ∃ (t13 : ByteArray),
                          ∃ (t14 : ByteArray),
                            cellsAt h7 b9 b10 [Lf.int IntKind.u32 i11, Lf.int IntKind.i64 i12, Lf.str t13, Lf.str t14] ∧
                              New 31 [Lf.int IntKind.u32 (0 : Int), Lf.int IntKind.i64 (0 : Int), Lf.str (ByteArray.mk #[]), Lf.str (ByteArray.mk #[])] h7
                                fun (b15 : Nat) (h16 : Heap) =>
                                Set b15 31 [Lf.int IntKind.u32 i11, Lf.int IntKind.i64 i12, Lf.str t13, Lf.str t14] h16 fun (h17 : Heap) =>
                                  New 29 [Lf.int IntKind.u32 i11] h17 fun (b18 : Nat) (h19 : Heap) =>
                                    AppC 29 [Lf.int IntKind.u32 (0 : Int)] 1 4 s5 (Slc.mk (Option.some (b18, 0)) 1 1) h19
                                      fun (s20 : Slc) (h21 : Heap) => keepB h19 h21 [b15] ∧ ∃ (b22 : Nat), b22 < b8 ∧ I3 s20 (IntKind.wrap IntKind.i64 (i6 + (1 : Int))) h21 b22)
                  (Call Go.Proofs.Try.prog 66 [VV.lf (Lf.slc s5)] h7 [] fun (h23 : Heap) =>
                    Call Go.Proofs.Try.prog 67 [VV.lf (Lf.slc s5)] h23 [VT.one LT.slc] fun (s24 : Slc) (h25 : Heap) => R s24 h25)
theorem eq51 (a0 : Option (Nat × Nat)) (h : Heap) (R : Slc → Heap → Prop) : vc51 a0 h R = vcFn Go.Proofs.Try.prog pl51 Go.Proofs.Try.f51 [.lf (.ptr a0)] h [.one .slc] R := by kernel_rfl
theorem ok51 {a0 : Option (Nat × Nat)} {h : Heap} {R : Slc → Heap → Prop} (hv : vc51 a0 h R) : Call Go.Proofs.Try.prog 51 [.lf (.ptr a0)] h [.one .slc] R := call_eq hng hmix Go.Proofs.Try.func51 (eq51 a0 h R) hv
/- 52: sediment.sedimentref03.Families () · blk 2: #5 · seq 9:  · loop 3: #3, #4 · loop 6: #5 -/
def pl52 : Plan := {
  blk := fun | 2 => some ⟨[(5, .one (.int .i64))], [], []⟩ | _ => none
  seq := fun | 9 => some ⟨[], [], []⟩ | _ => none
  loop := fun | 3 => some ⟨[(3, .one .slc), (4, .one (.int .i64))], [], []⟩ | 6 => some ⟨[(5, .one (.int .i64))], [], []⟩ | _ => none
  live := fun | 0 => some [0] | 1 => some [0, 3] | 2 => some [0, 3, 4] | 3 => some [0, 3, 4, 11] | 4 => some [0, 3, 4] | 5 => some [0, 3, 4, 5] | 6 => some [0, 3, 4, 5, 29] | 7 => some [0, 3, 4, 5] | 8 => some [0, 3, 4, 5, 47] | 9 => some [0, 3, 4, 5, 6] | 10 => some [0, 3, 4] | 11 => some [2] | _ => none
  track := fun | _ => false
  draw := fun | 6 => .still 0 (.still 1 (.still 2 (.still 3 (.still 4 (.still 5 (.still 6 (.still 7 (.still 8 (.still 9 (.still 10 (.still 11 (.still 12 (.still 13 (.still 14 (.still 15 (.done)))))))))))))))) | 8 => .still 0 (.still 1 (.still 2 (.still 3 (.still 4 (.still 5 (.still 6 (.still 7 (.still 8 (.still 9 (.still 10 (.still 11 (.still 12 (.still 13 (.still 14 (.still 15 (.done)))))))))))))))) | 9 => .still 1 (.still 2 (.still 3 (.still 5 (.still 6 (.still 7 (.still 8 (.still 9 (.alt 0 (.alt 4 (.mem 10 (.mem 11 (.still 12 (.done)))) (.mem 10 (.mem 4 (.mem 11 (.still 12 (.done)))))) (.mem 10 (.mem 0 (.mem 4 (.mem 11 (.still 12 (.done)))))))))))))) | _ => .done
  iter := fun | _ => none }
def vc52 (a0 : Slc) (h : Heap) (R : Slc → Heap → Prop) : Prop :=
  New 29 [] h fun (b0 : Nat) (h1 : Heap) =>
    ∃ (I2 : Slc → Int → Heap → Nat → Prop),
      (∃ (b3 : Nat), I2 (Slc.mk (Option.some (b0, 0)) 0 0) (0 : Int) h1 b3) ∧
        ∀ (s4 : Slc) (i5 : Int) (h6 : Heap) (b7 : Nat),
          I2 s4 i5 h6 b7 →
            Br (Decidable.decide (i5 < (↑(Slc.len a0) : Int)))
              (∃ (I8 : Int → Heap → Prop),
                (∃ (I9 : Int → Heap → Nat → Prop),
                    (∃ (b10 : Nat), I9 (0 : Int) h6 b10) ∧
                      ∀ (i11 : Int) (h12 : Heap) (b13 : Nat),
                        I9 i11 h12 b13 →
                          Br (Decidable.decide (i11 < (↑(Slc.len s4) : Int)))
                            (IxC s4 i11 1 fun (b14 b15 : Nat) =>
                              ∃ (i16 : Int),
                                cellsAt h12 b14 b15 [Lf.int IntKind.u32 i16] ∧
                                  IxC a0 i5 4 fun (b17 b18 : Nat) =>
                                    ∃ (i19 : Int),
                                      cellsAt h12 b17 (b18 + 0) [Lf.int IntKind.u32 i19] ∧
                                        Br (Decidable.decide (i16 < i19)) (∃ (b20 : Nat), b20 < b13 ∧ I9 (IntKind.wrap IntKind.i64 (i11 + (1 : Int))) h12 b20) (I8 i11 h12))
                            (I8 i11 h12)) ∧
                  ∀ (i21 : Int) (h22 : Heap),
                    I8 i21 h22 →
                      ∃ (I23 : Heap → Prop),
                        Br (Decidable.decide (i21 < (↑(Slc.len s4) : Int)))
                            (IxC s4 i21 1 fun (b24 b25 : Nat) =>
                              ∃ (i26 : Int),
                                cellsAt h22 b24 b25 [Lf.int IntKind.u32 i26] ∧
                                  IxC a0 i5 4 fun (b27 b28 : Nat) =>
                                    ∃ (i29 : Int),
                                      cellsAt h22 b27 (b28 + 0) [Lf.int IntKind.u32 i29] ∧
                                        Br (i26 == i29) (∃ (b30 : Nat), b30 < b7 ∧ I2 s4 (IntKind.wrap IntKind.i64 (i5 + (1 : Int))) h22 b30) (I23 h22))
                            (I23 h22) ∧
                          ∀ (h31 : Heap),
                            I23 h31 →
                              (0 : Int) ≤ i21 ∧
                                i21 ≤ (↑(Slc.cap s4) : Int) ∧
                                  IxC a0 i5 4 fun (b32 b33 : Nat) =>
                                    ∃ (i34 : Int),
                                      cellsAt h31 b32 (b33 + 0) [Lf.int IntKind.u32 i34] ∧
                                        (New 29 [] h31 fun (b35 : Nat) (h36 : Heap) =>
                                            cellsAt h36 b32 (b33 + 0) [Lf.int IntKind.u32 i34] ∧
                                              (AppC 29 [Lf.int IntKind.u32 (0 : Int)] 1 4 (Slc.mk (Option.some (b35, 0)) 0 0)
                                                  (Slc.sub s4 1 0 (Int.toNat i21) (Slc.cap s4)) h36 fun (s37 : Slc) (h38 : Heap) =>
                                                  cellsAt h38 b32 (b33 + 0) [Lf.int IntKind.u32 i34] ∧
                                                    New 29 [Lf.int IntKind.u32 i34] h38 fun (b39 : Nat) (h40 : Heap) =>
                                                      AppC 29 [Lf.int IntKind.u32 (0 : Int)] 1 4 s37 (Slc.mk (Option.some (b39, 0)) 1 1)
                                                        h40 fun (s41 : Slc) (h42 : Heap) =>
                                                        (0 : Int) ≤ i21 ∧
                                                          i21 ≤ (↑(Slc.len s4) : Int) ∧
                                                            AppC 29 [Lf.int IntKind.u32 (0 : Int)] 1 4 s41
                                                              (Slc.sub s4 1 (Int.toNat i21) (Slc.len s4) (Slc.cap s4)) h42 fun (s43 : Slc) (h44 : Heap) =>
                                                              ∃ (b45 : Nat), b45 < b7 ∧ I2 s43 (IntKind.wrap IntKind.i64 (i5 + (1 : Int))) h44 b45) ∧
                                                New 29 [Lf.int IntKind.u32 i34] h36 fun (b46 : Nat) (h47 : Heap) =>
                                                  AppC 29 [Lf.int IntKind.u32 (0 : Int)] 1 4 (Slc.mk (Option.some (b35, 0)) 0 0)
                                                    (Slc.sub s4 1 0 (Int.toNat i21) (Slc.cap s4)) h47 fun (s48 : Slc) (h49 : Heap) =>
                                                    AppC 29 [Lf.int IntKind.u32 (0 : Int)] 1 4 s48 (Slc.mk (Option.some (b46, 0)) 1 1)
                                                      h49 fun (s50 : Slc) (h51 : Heap) =>
                                                      (0 : Int) ≤ i21 ∧
                                                        i21 ≤ (↑(Slc.len s4) : Int) ∧
                                                          AppC 29 [Lf.int IntKind.u32 (0 : Int)] 1 4 s50
                                                            (Slc.sub s4 1 (Int.toNat i21) (Slc.len s4) (Slc.cap s4)) h51 fun (s52 : Slc) (h53 : Heap) =>
                                                            ∃ (b54 : Nat), b54 < b7 ∧ I2 s52 (IntKind.wrap IntKind.i64 (i5 + (1 : Int))) h53 b54) ∧
                                          New 29 [Lf.int IntKind.u32 i34] h31 fun (b55 : Nat) (h56 : Heap) =>
                                            New 29 [] h56 fun (b57 : Nat) (h58 : Heap) =>
                                              AppC 29 [Lf.int IntKind.u32 (0 : Int)] 1 4 (Slc.mk (Option.some (b57, 0)) 0 0)
                                                (Slc.sub s4 1 0 (Int.toNat i21) (Slc.cap s4)) h58 fun (s59 : Slc) (h60 : Heap) =>
                                                AppC 29 [Lf.int IntKind.u32 (0 : Int)] 1 4 s59 (Slc.mk (Option.some (b55, 0)) 1 1) h60
                                                  fun (s61 : Slc) (h62 : Heap) =>
                                                  (0 : Int) ≤ i21 ∧
                                                    i21 ≤ (↑(Slc.len s4) : Int) ∧
                                                      AppC 29 [Lf.int IntKind.u32 (0 : Int)] 1 4 s61
                                                        (Slc.sub s4 1 (Int.toNat i21) (Slc.len s4) (Slc.cap s4)) h62 fun (s63 : Slc) (h64 : Heap) =>
                                                        ∃ (b65 : Nat), b65 < b7 ∧ I2 s63 (IntKind.wrap IntKind.i64 (i5 + (1 : Int))) h64 b65)
              (R s4 h6)
theorem eq52 (a0 : Slc) (h : Heap) (R : Slc → Heap → Prop) : vc52 a0 h R = vcFn Go.Proofs.Try.prog pl52 Go.Proofs.Try.f52 [.lf (.slc a0)] h [.one .slc] R := by kernel_rfl
theorem ok52 {a0 : Slc} {h : Heap} {R : Slc → Heap → Prop} (hv : vc52 a0 h R) : Call Go.Proofs.Try.prog 52 [.lf (.slc a0)] h [.one .slc] R := call_eq hng hmix Go.Proofs.Try.func52 (eq52 a0 h R) hv
/- 53: (*sediment.batch.Batch).Len (b) -/
def pl53 : Plan := {
  blk := fun _ => none
  seq := fun _ => none
  loop := fun _ => none
  live := fun | 0 => some [0] | 1 => some [2] | _ => none
  track := fun | _ => false
  draw := fun | _ => .done
  iter := fun | _ => none }
def vc53 (a0 : Option (Nat × Nat)) (h : Heap) (R : Int → Heap → Prop) : Prop :=
  NilC a0 fun (b0 b1 : Nat) => ∃ (s2 : Slc), cellsAt h b0 (b1 + 0) [Lf.slc s2] ∧ R (↑(Slc.len s2) : Int) h
theorem eq53 (a0 : Option (Nat × Nat)) (h : Heap) (R : Int → Heap → Prop) : vc53 a0 h R = vcFn Go.Proofs.Try.prog pl53 Go.Proofs.Try.f53 [.lf (.ptr a0)] h [.one (.int .i64)] R := by kernel_rfl
theorem ok53 {a0 : Option (Nat × Nat)} {h : Heap} {R : Int → Heap → Prop} (hv : vc53 a0 h R) : Call Go.Proofs.Try.prog 53 [.lf (.ptr a0)] h [.one (.int .i64)] R := call_eq hng hmix Go.Proofs.Try.func53 (eq53 a0 h R) hv
/- 48: (*sediment.batch.Batch).Clear (b) -/
def pl48 : Plan := {
  blk := fun _ => none
  seq := fun _ => none
  loop := fun _ => none
  live := fun | 0 => some [] | _ => none
  track := fun | _ => false
  draw := fun | _ => .done
  iter := fun | _ => none }
def vc48 (a0 : Option (Nat × Nat)) (h : Heap) (R : Heap → Prop) : Prop :=
  NilC a0 fun (b0 b1 : Nat) =>
    StC h b0 b1 [Lf.slc (Slc.mk Option.none 0 0), Lf.int IntKind.i64 (0 : Int), Lf.slc (Slc.mk Option.none 0 0)]
      fun (h2 : Heap) => R h2
theorem eq48 (a0 : Option (Nat × Nat)) (h : Heap) (R : Heap → Prop) : vc48 a0 h R = vcFn Go.Proofs.Try.prog pl48 Go.Proofs.Try.f48 [.lf (.ptr a0)] h [] R := by kernel_rfl
theorem ok48 {a0 : Option (Nat × Nat)} {h : Heap} {R : Heap → Prop} (hv : vc48 a0 h R) : Call Go.Proofs.Try.prog 48 [.lf (.ptr a0)] h [] R := call_eq hng hmix Go.Proofs.Try.func48 (eq48 a0 h R) hv
/- 49: (*sediment.sedimentref03.Batch).Save (b) -/
def pl49 : Plan := {
  blk := fun _ => none
  seq := fun _ => none
  loop := fun _ => none
  live := fun | 0 => some [] | _ => none
  track := fun | _ => false
  draw := fun | 0 => .still 0 (.still 2 (.still 3 (.still 4 (.still 5 (.still 7 (.still 8 (.still 9 (.still 10 (.still 11 (.alt 1 (.alt 6 (.mem 12 (.mem 13 (.still 14 (.still 15 (.mem 16 (.done)))))) (.mem 12 (.mem 6 (.mem 13 (.still 14 (.still 15 (.mem 16 (.done)))))))) (.mem 12 (.mem 1 (.mem 6 (.mem 13 (.still 14 (.still 15 (.mem 16 (.done)))))))))))))))))) | _ => .done
  iter := fun | _ => none }
def vc49 (a0 : Option (Nat × Nat)) (h : Heap) (R : Heap → Prop) : Prop :=
  NilC a0 fun (b0 b1 : Nat) =>
    ∃ (s2 : Slc),
      cellsAt h b0 (b1 + 1) [Lf.slc s2] ∧
        NilC a0 fun (b3 b4 : Nat) =>
          ∃ (s5 : Slc),
            cellsAt h b3 (b4 + 0) [Lf.slc s5] ∧
              (New 3 [] h fun (b6 : Nat) (h7 : Heap) =>
                  cellsAt h7 b3 (b4 + 0) [Lf.slc s5] ∧
                    cellsAt h7 b0 (b1 + 1) [Lf.slc s2] ∧
                      (AppC 3 [Lf.int IntKind.i64 (0 : Int)] 1 8 (Slc.mk (Option.some (b6, 0)) 0 0) s2 h7
                          fun (s8 : Slc) (h9 : Heap) =>
                          cellsAt h9 b3 (b4 + 0) [Lf.slc s5] ∧
                            New 3 [Lf.int IntKind.i64 (↑(Slc.len s5) : Int)] h9 fun (b10 : Nat) (h11 : Heap) =>
                              AppC 3 [Lf.int IntKind.i64 (0 : Int)] 1 8 s8 (Slc.mk (Option.some (b10, 0)) 1 1) h11
                                fun (s12 : Slc) (h13 : Heap) => NilC a0 fun (b14 b15 : Nat) => StC h13 b14 (b15 + 1) [Lf.slc s12] fun (h16 : Heap) => R h16) ∧
                        New 3 [Lf.int IntKind.i64 (↑(Slc.len s5) : Int)] h7 fun (b17 : Nat) (h18 : Heap) =>
                          cellsAt h18 b0 (b1 + 1) [Lf.slc s2] ∧
                            AppC 3 [Lf.int IntKind.i64 (0 : Int)] 1 8 (Slc.mk (Option.some (b6, 0)) 0 0) s2 h18
                              fun (s19 : Slc) (h20 : Heap) =>
                              AppC 3 [Lf.int IntKind.i64 (0 : Int)] 1 8 s19 (Slc.mk (Option.some (b17, 0)) 1 1) h20
                                fun (s21 : Slc) (h22 : Heap) => NilC a0 fun (b23 b24 : Nat) => StC h22 b23 (b24 + 1) [Lf.slc s21] fun (h25 : Heap) => R h25) ∧
                New 3 [Lf.int IntKind.i64 (↑(Slc.len s5) : Int)] h fun (b26 : Nat) (h27 : Heap) =>
                  cellsAt h27 b0 (b1 + 1) [Lf.slc s2] ∧
                    New 3 [] h27 fun (b28 : Nat) (h29 : Heap) =>
                      cellsAt h29 b0 (b1 + 1) [Lf.slc s2] ∧
                        AppC 3 [Lf.int IntKind.i64 (0 : Int)] 1 8 (Slc.mk (Option.some (b28, 0)) 0 0) s2 h29
                          fun (s30 : Slc) (h31 : Heap) =>
                          AppC 3 [Lf.int IntKind.i64 (0 : Int)] 1 8 s30 (Slc.mk (Option.some (b26, 0)) 1 1) h31
                            fun (s32 : Slc) (h33 : Heap) => NilC a0 fun (b34 b35 : Nat) => StC h33 b34 (b35 + 1) [Lf.slc s32] fun (h36 : Heap) => R h36
theorem eq49 (a0 : Option (Nat × Nat)) (h : Heap) (R : Heap → Prop) : vc49 a0 h R = vcFn Go.Proofs.Try.prog pl49 Go.Proofs.Try.f49 [.lf (.ptr a0)] h [] R := by kernel_rfl
theorem ok49 {a0 : Option (Nat × Nat)} {h : Heap} {R : Heap → Prop} (hv : vc49 a0 h R) : Call Go.Proofs.Try.prog 49 [.lf (.ptr a0)] h [] R := call_eq hng hmix Go.Proofs.Try.func49 (eq49 a0 h R) hv
/- 50: (*sediment.sedimentref03.Batch).Pop (b, back) -/
def pl50 : Plan := {
  blk := fun _ => none
  seq := fun _ => none
  loop := fun _ => none
  live := fun | 0 => some [0, 1] | 1 => some [0, 1, 5] | 2 => some [0, 1, 5, 13] | 3 => some [4] | 4 => some [0, 5, 14] | 5 => some [0, 5] | 6 => some [] | 7 => some [4] | _ => none
  track := fun | _ => false
  draw := fun | 5 => .still 0 (.still 1 (.still 2 (.still 3 (.still 4 (.still 5 (.still 6 (.still 7 (.still 8 (.still 9 (.still 10 (.still 11 (.still 12 (.still 13 (.still 14 (.mem 15 (.done)))))))))))))))) | _ => .done
  iter := fun | _ => none }
def vc50 (a0 : Option (Nat × Nat)) (a1 : Bool) (h : Heap) (R : Int → Heap → Prop) : Prop :=
  NilC a0 fun (b0 b1 : Nat) =>
    ∃ (s2 : Slc),
      cellsAt h b0 (b1 + 1) [Lf.slc s2] ∧
        Br (Decidable.decide (IntKind.wrap IntKind.i64 ((↑(Slc.len s2) : Int) - (1 : Int)) < (0 : Int))) (R (6 : Int) h)
          (Br a1
            (NilC a0 fun (b3 b4 : Nat) =>
              ∃ (s5 : Slc),
                cellsAt h b3 (b4 + 0) [Lf.slc s5] ∧
                  NilC a0 fun (b6 b7 : Nat) =>
                    ∃ (s8 : Slc),
                      cellsAt h b6 (b7 + 1) [Lf.slc s8] ∧
                        IxC s8 (IntKind.wrap IntKind.i64 ((↑(Slc.len s2) : Int) - (1 : Int))) 1 fun (b9 b10 : Nat) =>
                          ∃ (i11 : Int),
                            cellsAt h b9 b10 [Lf.int IntKind.i64 i11] ∧
                              (0 : Int) ≤ i11 ∧
                                i11 ≤ (↑(Slc.cap s5) : Int) ∧
                                  NilC a0 fun (b12 b13 : Nat) =>
                                    StC h b12 (b13 + 0) [Lf.slc (Slc.sub s5 4 0 (Int.toNat i11) (Slc.cap s5))] fun (h14 : Heap) =>
                                      NilC a0 fun (b15 b16 : Nat) =>
                                        ∃ (s17 : Slc),
                                          cellsAt h14 b15 (b16 + 1) [Lf.slc s17] ∧
                                            (0 : Int) ≤ IntKind.wrap IntKind.i64 ((↑(Slc.len s2) : Int) - (1 : Int)) ∧
                                              IntKind.wrap IntKind.i64 ((↑(Slc.len s2) : Int) - (1 : Int)) ≤ (↑(Slc.cap s17) : Int) ∧
                                                NilC a0 fun (b18 b19 : Nat) =>
                                                  StC h14 b18 (b19 + 1)
                                                    [Lf.slc
                                                        (Slc.sub s17 1 0 (Int.toNat (IntKind.wrap IntKind.i64 ((↑(Slc.len s2) : Int) - (1 : Int)))) (Slc.cap s17))]
                                                    fun (h20 : Heap) => R (0 : Int) h20)
            (NilC a0 fun (b21 b22 : Nat) =>
              ∃ (s23 : Slc),
                cellsAt h b21 (b22 + 1) [Lf.slc s23] ∧
                  (0 : Int) ≤ IntKind.wrap IntKind.i64 ((↑(Slc.len s2) : Int) - (1 : Int)) ∧
                    IntKind.wrap IntKind.i64 ((↑(Slc.len s2) : Int) - (1 : Int)) ≤ (↑(Slc.cap s23) : Int) ∧
                      NilC a0 fun (b24 b25 : Nat) =>
                        StC h b24 (b25 + 1)
                          [Lf.slc (Slc.sub s23 1 0 (Int.toNat (IntKind.wrap IntKind.i64 ((↑(Slc.len s2) : Int) - (1 : Int)))) (Slc.cap s23))]
                          fun (h26 : Heap) => R (0 : Int) h26))
theorem eq50 (a0 : Option (Nat × Nat)) (a1 : Bool) (h : Heap) (R : Int → Heap → Prop) : vc50 a0 a1 h R = vcFn Go.Proofs.Try.prog pl50 Go.Proofs.Try.f50 [.lf (.ptr a0), .lf (.bool a1)] h [.one (.int .i64)] R := by kernel_rfl
theorem ok50 {a0 : Option (Nat × Nat)} {a1 : Bool} {h : Heap} {R : Int → Heap → Prop} (hv : vc50 a0 a1 h R) : Call Go.Proofs.Try.prog 50 [.lf (.ptr a0), .lf (.bool a1)] h [.one (.int .i64)] R := call_eq hng hmix Go.Proofs.Try.func50 (eq50 a0 a1 h R) hv
/- 47: (*sediment.sedimentref03.Batch).Add (b, l) · seq 9: #38 · loop 2: i · loop 11: i -/
def pl47 : Plan := {
  blk := fun _ => none
  seq := fun | 9 => some ⟨[(38, .one .bool)], [], []⟩ | _ => none
  loop := fun | 2 => some ⟨[(5, .one (.int .i64))], [], []⟩ | 11 => some ⟨[(8, .one (.int .i64))], [], []⟩ | _ => none
  live := fun | 0 => some [0, 1] | 1 => some [0, 1, 5] | 2 => some [0, 1, 5, 12] | 3 => some [0, 1, 5] | 4 => some [0, 1, 5, 6] | 5 => some [0, 1, 5, 6, 21] | 6 => some [4] | 7 => some [0, 7] | 8 => some [0, 7, 38] | 9 => some [4] | 10 => some [0, 7, 8] | 11 => some [0, 7, 8, 42] | 12 => some [0, 7, 8] | 13 => some [0, 7, 8] | 14 => some [] | 15 => some [4] | _ => none
  track := fun | _ => false
  draw := fun | _ => .done
  iter := fun | _ => none }
def vc47 (a0 : Option (Nat × Nat)) (a1 : Slc) (h : Heap) (R : Int → Heap → Prop) : Prop :=
  ∃ (I0 : Int → Heap → Nat → Prop),
    (∃ (b1 : Nat), I0 (0 : Int) h b1) ∧
      ∀ (i2 : Int) (h3 : Heap) (b4 : Nat),
        I0 i2 h3 b4 →
          Br (Decidable.decide (i2 < (↑(Slc.len a1) : Int)))
            (IxC a1 i2 4 fun (b5 b6 : Nat) =>
              ∃ (i7 : Int),
                ∃ (i8 : Int),
                  ∃ (t9 : ByteArray),
                    ∃ (t10 : ByteArray),
                      cellsAt h3 b5 b6 [Lf.int IntKind.u32 i7, Lf.int IntKind.i64 i8, Lf.str t9, Lf.str t10] ∧
                        Call Go.Proofs.Try.prog 20 [VV.agg [Lf.int IntKind.u32 i7, Lf.int IntKind.i64 i8, Lf.str t9, Lf.str t10]] h3
                          [VT.one (LT.int IntKind.i64)] fun (i11 : Int) (h12 : Heap) =>
                          Br (i11 != (0 : Int)) (R i11 h12) (∃ (b13 : Nat), b13 < b4 ∧ I0 (IntKind.wrap IntKind.i64 (i2 + (1 : Int))) h12 b13))
            (New 31 [] h3 fun (b14 : Nat) (h15 : Heap) =>
              NilC a0 fun (b16 b17 : Nat) =>
                ∃ (s18 : Slc),
                  cellsAt h15 b16 (b17 + 0) [Lf.slc s18] ∧
                    AppC 31 [Lf.int IntKind.u32 (0 : Int), Lf.int IntKind.i64 (0 : Int), Lf.str (ByteArray.mk #[]), Lf.str (ByteArray.mk #[])] 4 48
                      (Slc.mk (Option.some (b14, 0)) 0 0) s18 h15 fun (s19 : Slc) (h20 : Heap) =>
                      AppC 31 [Lf.int IntKind.u32 (0 : Int), Lf.int IntKind.i64 (0 : Int), Lf.str (ByteArray.mk #[]), Lf.str (ByteArray.mk #[])] 4
                        48 s19 a1 h20 fun (s21 : Slc) (h22 : Heap) =>
                        ∃ (I23 : Bool → Heap → Prop),
                          Br (Decidable.decide ((↑(Slc.len s21) : Int) > (4096 : Int))) (I23 Bool.true h22)
                              (Call Go.Proofs.Try.prog 36 [VV.lf (Lf.slc s21)] h22 [VT.one (LT.int IntKind.i64)] fun (i24 : Int) (h25 : Heap) =>
                                I23 (Decidable.decide (i24 > (4194304 : Int))) h25) ∧
                            ∀ (c26 : Bool) (h27 : Heap),
                              I23 c26 h27 →
                                Br c26 (R (2 : Int) h27)
                                  (∃ (I28 : Int → Heap → Nat → Prop),
                                    (∃ (b29 : Nat), I28 (0 : Int) h27 b29) ∧
                                      ∀ (i30 : Int) (h31 : Heap) (b32 : Nat),
                                        I28 i30 h31 b32 →
                                          Br (Decidable.decide (i30 < (↑(Slc.len s21) : Int)))
                                            (IxC s21 i30 4 fun (b33 b34 : Nat) =>
                                              ∃ (i35 : Int),
                                                ∃ (i36 : Int),
                                                  ∃ (t37 : ByteArray),
                                                    ∃ (t38 : ByteArray),
                                                      cellsAt h31 b33 b34 [Lf.int IntKind.u32 i35, Lf.int IntKind.i64 i36, Lf.str t37, Lf.str t38] ∧
                                                        Call Go.Proofs.Try.prog 43
                                                          [VV.agg [Lf.int IntKind.u32 i35, Lf.int IntKind.i64 i36, Lf.str t37, Lf.str t38]] h31
                                                          [VT.agg [LT.int IntKind.u32, LT.int IntKind.i64, LT.str, LT.str]]
                                                          fun (i39 i40 : Int) (t41 t42 : ByteArray) (h43 : Heap) =>
                                                          IxC s21 i30 4 fun (b44 b45 : Nat) =>
                                                            StC h43 b44 b45 [Lf.int IntKind.u32 i39, Lf.int IntKind.i64 i40, Lf.str t41, Lf.str t42]
                                                              fun (h46 : Heap) => ∃ (b47 : Nat), b47 < b32 ∧ I28 (IntKind.wrap IntKind.i64 (i30 + (1 : Int))) h46 b47)
                                            (NilC a0 fun (b48 b49 : Nat) => StC h31 b48 (b49 + 0) [Lf.slc s21] fun (h50 : Heap) => R (0 : Int) h50)))
theorem eq47 (a0 : Option (Nat × Nat)) (a1 : Slc) (h : Heap) (R : Int → Heap → Prop) : vc47 a0 a1 h R = vcFn Go.Proofs.Try.prog pl47 Go.Proofs.Try.f47 [.lf (.ptr a0), .lf (.slc a1)] h [.one (.int .i64)] R := by kernel_rfl
theorem ok47 {a0 : Option (Nat × Nat)} {a1 : Slc} {h : Heap} {R : Int → Heap → Prop} (hv : vc47 a0 a1 h R) : Call Go.Proofs.Try.prog 47 [.lf (.ptr a0), .lf (.slc a1)] h [.one (.int .i64)] R := call_eq hng hmix Go.Proofs.Try.func47 (eq47 a0 a1 h R) hv
end Go.V.Ytclffphegfhocaa
