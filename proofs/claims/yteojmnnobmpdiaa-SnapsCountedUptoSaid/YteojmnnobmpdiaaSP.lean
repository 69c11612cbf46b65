/- This text proves a part of the laws of seat Yteojmnnobmpdiaa, under no condition: T9 X22k. -/
import Derived.Test.YteojmnnobmpdiaaSC
import Derived.Eval
import Derived.Test.YteojmnnobmpdiaaChecked
import Derived.Test.YteojmnnobmpdiaaSE
import Derived.Test.YteojmnnobmpdiaaSM
set_option linter.unusedVariables false
set_option maxRecDepth 100000
namespace Go.V.Yteojmnnobmpdiaa
open Go Go.V
/- 9: sediment.sedimentlaw22.SnapsHeld () · seq 36: #1, #2 · loop 8: #9 · loop 25: #17 · loop 29: #18 · loop 38: #21 · loop 43: #26, #27 -/
def pl9 : Plan := {
  blk := fun _ => none
  seq := fun | 36 => some ⟨[(1, .one (.int .u64)), (2, .one (.int .u64))], [], []⟩ | _ => none
  loop := fun | 8 => some ⟨[(9, .one (.int .i64))], [], []⟩ | 25 => some ⟨[(17, .one (.int .i64))], [], []⟩ | 29 => some ⟨[(18, .one .bool)], [], []⟩ | 38 => some ⟨[(21, .one .bool)], [], []⟩ | 43 => some ⟨[(26, .one .bool), (27, .one (.int .i64))], [], []⟩ | _ => none
  live := fun | 0 => some [0, 1, 2] | 1 => some [0, 1, 2, 33] | 2 => some [6] | 3 => some [0, 1, 2, 7] | 4 => some [0, 1, 2, 7, 36] | 5 => some [6] | 6 => some [0, 1, 2, 7, 8] | 7 => some [0, 1, 2, 7, 8, 9] | 8 => some [0, 1, 2, 7, 8, 9, 41] | 9 => some [0, 1, 2, 7, 8, 9] | 10 => some [0, 1, 2, 7, 8, 9, 48] | 11 => some [0, 1, 2, 7, 8, 9, 48, 49] | 12 => some [0, 1, 2, 7, 8, 9, 10, 11] | 13 => some [0, 1, 2, 7, 8, 9, 10, 62] | 14 => some [0, 1, 2, 7, 8, 9, 10, 13] | 15 => some [0, 1, 2, 7, 8, 9, 10, 69] | 16 => some [6] | 17 => some [0, 1, 2, 7, 8, 9] | 18 => some [0, 1, 2, 7, 8, 9, 77] | 19 => some [0, 1, 2, 7, 8, 9, 15] | 20 => some [0, 1, 2, 7, 8, 9, 98] | 21 => some [6] | 22 => some [0, 1, 2, 7, 8, 9] | 23 => some [1, 2, 7, 8, 16] | 24 => some [1, 2, 7, 8, 16, 17] | 25 => some [1, 2, 7, 8, 16, 17, 110] | 26 => some [1, 2, 7, 8, 16, 17] | 27 => some [1, 2, 7, 8, 16, 17, 18] | 28 => some [1, 2, 7, 8, 16, 17, 18, 114] | 29 => some [1, 2, 7, 8, 16, 17, 18, 114, 116] | 30 => some [1, 2, 7, 8, 16, 17, 18, 20, 114] | 31 => some [1, 2, 7, 8, 16, 17, 18, 114] | 32 => some [1, 2, 7, 8, 16, 17, 145] | 33 => some [6] | 34 => some [1, 2, 7, 8, 16, 148] | 35 => some [1, 2, 7, 8, 16] | 36 => some [1, 2, 7, 8, 16, 21] | 37 => some [1, 2, 7, 16, 21, 152] | 38 => some [1, 2, 7, 16, 21, 152, 154] | 39 => some [1, 2, 7, 16, 21, 22, 23, 152] | 40 => some [1, 2, 7, 16, 21, 23, 24, 25, 152] | 41 => some [1, 2, 7, 16, 21, 23, 24, 25, 26, 152] | 42 => some [1, 2, 7, 16, 21, 23, 24, 25, 26, 27, 152] | 43 => some [1, 2, 7, 16, 21, 23, 24, 25, 26, 27, 152, 167] | 44 => some [1, 2, 7, 16, 21, 23, 24, 25, 26, 27, 152] | 45 => some [1, 2, 7, 16, 21, 23, 24, 25, 26, 27, 152] | 46 => some [1, 2, 7, 16, 21, 23, 152, 189] | 47 => some [6] | 48 => some [1, 2, 7, 16, 21, 152] | 49 => some [2, 7, 21, 28, 29] | 50 => some [21, 28, 29, 30, 31] | 51 => some [6] | _ => none
  track := fun | _ => false
  draw := fun | 32 => .still 0 (.still 1 (.still 2 (.still 3 (.still 4 (.still 5 (.still 6 (.still 7 (.still 8 (.still 9 (.still 10 (.still 11 (.still 12 (.still 13 (.still 14 (.still 15 (.still 16 (.still 17 (.done)))))))))))))))))) | _ => .done
  iter := fun | 114 => some 89 | 152 => some 89 | _ => none }
def vc9 (a0 : Slc) (a1 : Int) (a2 : Int) (h : Heap) (R : Bool → Heap → Prop) : Prop :=
  Call Go.Proofs.Try.prog 45 [] h [VT.one LT.bool] fun (c0 : Bool) (h1 : Heap) =>
    Br (!c0) (R Bool.false h1)
      (Call Go.Proofs.Try.prog 46 [] h1 [VT.one LT.ptr] fun (p2 : Option (Nat × Nat)) (h3 : Heap) =>
        Br (Option.isNone p2) (R Bool.false h3)
          (NewM h3 fun (b4 : Nat) (h5 : Heap) =>
            ∃ (I6 : Int → Heap → Nat → Prop),
              (∃ (b7 : Nat), I6 (0 : Int) h5 b7) ∧
                ∀ (i8 : Int) (h9 : Heap) (b10 : Nat),
                  I6 i8 h9 b10 →
                    Br (Decidable.decide (i8 < (↑(Slc.len a0) : Int)))
                      (IxC a0 i8 4 fun (b11 b12 : Nat) =>
                        ∃ (i13 : Int),
                          cellsAt h9 b11 (b12 + 0) [Lf.int IntKind.i64 i13] ∧
                            Br (i13 == (0 : Int))
                              (IxC a0 i8 4 fun (b14 b15 : Nat) =>
                                ∃ (i16 : Int),
                                  cellsAt h9 b14 (b15 + 2) [Lf.int IntKind.u64 i16] ∧
                                    Call Go.Proofs.Try.prog 47 [VV.lf (Lf.ptr p2), VV.lf (Lf.int IntKind.u64 i16)] h9
                                      [VT.one (LT.int IntKind.i64), VT.one (LT.int IntKind.i64)] fun (i17 i18 : Int) (h19 : Heap) =>
                                      Br (i18 == (0 : Int))
                                        (∃ (i20 : Int),
                                          ∃ (c21 : Bool),
                                            LookR h19 (LT.int IntKind.i64) (VT.one (LT.int IntKind.u64)) [Lf.int IntKind.u64 (0 : Int)] (Option.some b4) i17
                                                [Lf.int IntKind.u64 i20] c21 ∧
                                              Br c21 (R Bool.false h19)
                                                (IxC a0 i8 4 fun (b22 b23 : Nat) =>
                                                  ∃ (i24 : Int),
                                                    cellsAt h19 b22 (b23 + 2) [Lf.int IntKind.u64 i24] ∧
                                                      UpdC (LT.int IntKind.i64) (VT.one (LT.int IntKind.u64)) h19 (Option.some b4) i17 [Lf.int IntKind.u64 i24]
                                                        fun (h25 : Heap) => ∃ (b26 : Nat), b26 < b10 ∧ I6 (IntKind.wrap IntKind.i64 (i8 + (1 : Int))) h25 b26))
                                        (∃ (b27 : Nat), b27 < b10 ∧ I6 (IntKind.wrap IntKind.i64 (i8 + (1 : Int))) h19 b27))
                              (Br (i13 == (1 : Int))
                                (IxC a0 i8 4 fun (b28 b29 : Nat) =>
                                  ∃ (i30 : Int),
                                    cellsAt h9 b28 (b29 + 1) [Lf.int IntKind.i64 i30] ∧
                                      ∃ (i31 : Int),
                                        ∃ (c32 : Bool),
                                          LookR h9 (LT.int IntKind.i64) (VT.one (LT.int IntKind.u64)) [Lf.int IntKind.u64 (0 : Int)] (Option.some b4) i30
                                              [Lf.int IntKind.u64 i31] c32 ∧
                                            IxC a0 i8 4 fun (b33 b34 : Nat) =>
                                              ∃ (i35 : Int),
                                                cellsAt h9 b33 (b34 + 1) [Lf.int IntKind.i64 i35] ∧
                                                  Call Go.Proofs.Try.prog 48 [VV.lf (Lf.ptr p2), VV.lf (Lf.int IntKind.i64 i35)] h9
                                                    [VT.one (LT.int IntKind.i64)] fun (i36 : Int) (h37 : Heap) =>
                                                    Br (!(i36 == (0 : Int)) == c32) (R Bool.false h37)
                                                      (IxC a0 i8 4 fun (b38 b39 : Nat) =>
                                                        ∃ (i40 : Int),
                                                          cellsAt h37 b38 (b39 + 1) [Lf.int IntKind.i64 i40] ∧
                                                            DelC (LT.int IntKind.i64) (VT.one (LT.int IntKind.u64)) h37 (Option.some b4) i40 fun (h41 : Heap) =>
                                                              ∃ (b42 : Nat), b42 < b10 ∧ I6 (IntKind.wrap IntKind.i64 (i8 + (1 : Int))) h41 b42))
                                (∃ (b43 : Nat), b43 < b10 ∧ I6 (IntKind.wrap IntKind.i64 (i8 + (1 : Int))) h9 b43)))
                      (Call Go.Proofs.Try.prog 49 [VV.lf (Lf.ptr p2)] h9 [VT.one LT.slc] fun (s44 : Slc) (h45 : Heap) =>
                        ∃ (I46 : Int → Heap → Nat → Prop),
                          (∃ (b47 : Nat), I46 (0 : Int) h45 b47) ∧
                            ∀ (i48 : Int) (h49 : Heap) (b50 : Nat),
                              I46 i48 h49 b50 →
                                Br (Decidable.decide (i48 < (↑(Slc.len s44) : Int)))
                                  (RngC h49 (Option.some b4) fun (b51 : Nat) (h52 : Heap) =>
                                    ∃ (I53 : Bool → Heap → Nat → Prop),
                                      (∃ (b54 : Nat), I53 Bool.false h52 b54) ∧
                                        ∀ (c55 : Bool) (h56 : Heap) (b57 : Nat),
                                          I53 c55 h56 b57 →
                                            NextC (LT.int IntKind.i64) (VT.one (LT.int IntKind.u64)) h56 b51
                                              (fun (h58 : Heap) =>
                                                Br (!c55) (R Bool.false h58)
                                                  (Br (Decidable.decide (i48 > (0 : Int)))
                                                    (IxC s44 i48 1 fun (b59 b60 : Nat) =>
                                                      ∃ (i61 : Int),
                                                        cellsAt h58 b59 b60 [Lf.int IntKind.u64 i61] ∧
                                                          IxC s44 (IntKind.wrap IntKind.i64 (i48 - (1 : Int))) 1 fun (b62 b63 : Nat) =>
                                                            ∃ (i64 : Int),
                                                              cellsAt h58 b62 b63 [Lf.int IntKind.u64 i64] ∧
                                                                Br (Decidable.decide (i61 ≤ i64)) (R Bool.false h58)
                                                                  (∃ (b65 : Nat), b65 < b50 ∧ I46 (IntKind.wrap IntKind.i64 (i48 + (1 : Int))) h58 b65))
                                                    (∃ (b66 : Nat), b66 < b50 ∧ I46 (IntKind.wrap IntKind.i64 (i48 + (1 : Int))) h58 b66)))
                                              fun (i67 : Int) (x68 : List Lf) (h69 : Heap) =>
                                              ∃ (i70 : Int),
                                                ∃ (i71 : Int),
                                                  EntryR h69 b51 (LT.int IntKind.i64) (VT.one (LT.int IntKind.u64)) i70 [Lf.int IntKind.u64 i71] ∧
                                                    Br c55 (∃ (b72 : Nat), b72 < b57 ∧ I53 Bool.true h69 b72)
                                                      (IxC s44 i48 1 fun (b73 b74 : Nat) =>
                                                        ∃ (i75 : Int), cellsAt h69 b73 b74 [Lf.int IntKind.u64 i75] ∧ ∃ (b76 : Nat), b76 < b57 ∧ I53 (i71 == i75) h69 b76))
                                  (∃ (I77 : Int → Int → Heap → Prop),
                                    Br (Decidable.decide (a1 > a2)) (I77 a2 a1 h49) (I77 a1 a2 h49) ∧
                                      ∀ (i78 i79 : Int) (h80 : Heap),
                                        I77 i78 i79 h80 →
                                          RngC h80 (Option.some b4) fun (b81 : Nat) (h82 : Heap) =>
                                            ∃ (I83 : Bool → Heap → Nat → Prop),
                                              (∃ (b84 : Nat), I83 Bool.false h82 b84) ∧
                                                ∀ (c85 : Bool) (h86 : Heap) (b87 : Nat),
                                                  I83 c85 h86 b87 →
                                                    NextC (LT.int IntKind.i64) (VT.one (LT.int IntKind.u64)) h86 b81
                                                      (fun (h88 : Heap) =>
                                                        Call Go.Proofs.Try.prog 51 [VV.lf (Lf.ptr p2), VV.lf (Lf.int IntKind.u64 i78)] h88
                                                          [VT.one (LT.int IntKind.u64), VT.one LT.bool] fun (i89 : Int) (c90 : Bool) (h91 : Heap) =>
                                                          Call Go.Proofs.Try.prog 51 [VV.lf (Lf.ptr p2), VV.lf (Lf.int IntKind.u64 i79)] h91
                                                            [VT.one (LT.int IntKind.u64), VT.one LT.bool] fun (i92 : Int) (c93 : Bool) (h94 : Heap) =>
                                                            Br (i89 == i92) (R ((c90 == c93) == !c85) h94) (R (Bool.false == !c85) h94))
                                                      fun (i95 : Int) (x96 : List Lf) (h97 : Heap) =>
                                                      ∃ (i98 : Int),
                                                        ∃ (i99 : Int),
                                                          EntryR h97 b81 (LT.int IntKind.i64) (VT.one (LT.int IntKind.u64)) i98 [Lf.int IntKind.u64 i99] ∧
                                                            Call Go.Proofs.Try.prog 50 [VV.lf (Lf.ptr p2), VV.lf (Lf.int IntKind.i64 i98)] h97
                                                              [VT.one (LT.int IntKind.u64), VT.one (LT.int IntKind.i64)] fun (i100 i101 : Int) (h102 : Heap) =>
                                                              ∃ (I103 : Bool → Int → Heap → Nat → Prop),
                                                                (∃ (b104 : Nat), I103 Bool.false (0 : Int) h102 b104) ∧
                                                                  ∀ (c105 : Bool) (i106 : Int) (h107 : Heap) (b108 : Nat),
                                                                    I103 c105 i106 h107 b108 →
                                                                      Br (Decidable.decide (i106 < (↑(Slc.len s44) : Int)))
                                                                        (Br c105 (∃ (b109 : Nat), b109 < b108 ∧ I103 Bool.true (IntKind.wrap IntKind.i64 (i106 + (1 : Int))) h107 b109)
                                                                          (IxC s44 i106 1 fun (b110 b111 : Nat) =>
                                                                            ∃ (i112 : Int),
                                                                              cellsAt h107 b110 b111 [Lf.int IntKind.u64 i112] ∧
                                                                                ∃ (b113 : Nat), b113 < b108 ∧ I103 (i112 == i99) (IntKind.wrap IntKind.i64 (i106 + (1 : Int))) h107 b113))
                                                                        (Br (i101 != (0 : Int)) (R Bool.false h107)
                                                                          (Br (i100 != i99) (R Bool.false h107)
                                                                            (Br (!c105) (R Bool.false h107)
                                                                              (Br c85 (∃ (b114 : Nat), b114 < b87 ∧ I83 Bool.true h107 b114)
                                                                                (Br (Decidable.decide (i78 ≤ i99)) (∃ (b115 : Nat), b115 < b87 ∧ I83 (Decidable.decide (i99 < i79)) h107 b115)
                                                                                  (∃ (b116 : Nat), b116 < b87 ∧ I83 Bool.false h107 b116))))))))))
theorem eq9 (a0 : Slc) (a1 : Int) (a2 : Int) (h : Heap) (R : Bool → Heap → Prop) : vc9 a0 a1 a2 h R = vcFn Go.Proofs.Try.prog pl9 Go.Proofs.Try.f9 [.lf (.slc a0), .lf (.int .u64 a1), .lf (.int .u64 a2)] h [.one .bool] R := by kernel_rfl
theorem ok9 {a0 : Slc} {a1 : Int} {a2 : Int} {h : Heap} {R : Bool → Heap → Prop} (hv : vc9 a0 a1 a2 h R) : Call Go.Proofs.Try.prog 9 [.lf (.slc a0), .lf (.int .u64 a1), .lf (.int .u64 a2)] h [.one .bool] R := call_eq hng hmix Go.Proofs.Try.func9 (eq9 a0 a1 a2 h R) hv
end Go.V.Yteojmnnobmpdiaa
set_option linter.unusedVariables false
set_option linter.unusedSimpArgs false
/-! lives; SnapsHeld. -/
namespace Go.V.Yteojmnnobmpdiaa
open Go Go.V Go.V.Snap

theorem c45 {h : Heap} {R : Bool → Heap → Prop} (k : ∀ h', Ext0 h h' → R true h') : Call Go.Proofs.Try.prog 45 [] h [.one .bool] R := by
  refine ok45 (c46 fun p m h1 hp hm P1 e1 => Br.f rfl (c47 P1 (by decide) fun h4 P4 e4 => c47 P4 (by decide) fun h7 P7 e7 => c47 P7 (by decide) fun h10 P10 e10 => ?_))
  have r1 : holdS [] 5 = (1, 0, [(5, true)]) := by decide
  rw [r1] at P4 P7 P10 ⊢
  have r2 : holdS [(5, true)] 9 = (2, 0, [(5, true), (9, true)]) := by decide
  rw [show ((1 : Int), (0 : Int), [((5 : Int), true)]).2.2 = [(5, true)] from rfl, r2] at P7 P10 ⊢
  have r3 : holdS [(5, true), (9, true)] 5 = (3, 0, [(5, true), (9, true), (5, true)]) := by decide
  rw [show ((2 : Int), (0 : Int), [((5 : Int), true), (9, true)]).2.2 = [(5, true), (9, true)] from rfl, r3] at P10 ⊢
  have e10' : Ext0 h h10 := (((e1.trans' e4 fun i hi x => by rcases x with x | x <;> omega).trans' e7 fun i hi x => by rcases x with x | x <;> omega).trans' e10 fun i hi x => by rcases x with x | x <;> omega)
  have P10 : PL h10 p m [(5, true), (9, true), (5, true)] := P10
  refine ⟨fun c hh => c = false ∧ PL hh p m [(5, false), (9, true), (5, false)] ∧ Ext0 h hh, ?_, ?_⟩
  · refine Br.ne (fun e => absurd rfl e) fun _ => Br.ne (fun e => absurd rfl e) fun _ => Br.ne (fun e => absurd rfl e) fun _ => c48 P10 fun h13 P13 e13 => ?_
    have f1 : freeS [(5, true), (9, true), (5, true)] 1 = (0, [(5, false), (9, true), (5, true)]) := by decide
    rw [show ((1 : Int), (0 : Int), [((5 : Int), true)]).1 = 1 from rfl] at P13 ⊢
    rw [f1] at P13 ⊢
    have P13 : PL h13 p m [(5, false), (9, true), (5, true)] := P13
    refine Br.ne (fun e => absurd rfl e) fun _ => c49 P13 fun s14 h15 o15 f15 => ?_
    have l2 : s14.len = 2 := by rw [o15.len]; decide
    rw [l2]
    refine Br.ne (fun e => absurd rfl e) fun _ => c48 (P13.ext0 f15.ext) fun h17 P17 e17 => ?_
    have f2 : freeS [(5, false), (9, true), (5, true)] 3 = (0, [(5, false), (9, true), (5, false)]) := by decide
    rw [show ((3 : Int), (0 : Int), [((5 : Int), true), (9, true), (5, true)]).1 = 3 from rfl] at P17 ⊢
    rw [f2] at P17 ⊢
    refine ⟨by decide, P17, ((e10'.trans' e13 fun i hi x => by rcases x with x | x <;> omega).trans f15.ext).trans' e17 fun i hi x => by rcases x with x | x <;> omega⟩
  · rintro _ h19 ⟨rfl, P19, e19⟩
    refine Br.f rfl (c51 P19 fun h22 e22 => c49 (P19.ext0 e22) fun s23 h24 o24 f24 => ?_)
    have st : stripeS [(5, false), (9, true), (5, false)] 6 = (9, true) := by decide
    have l1 : s23.len = 1 := by rw [o24.len]; decide
    rw [st, l1]
    exact Br.t rfl (Br.t rfl (k h24 ((e19.trans e22).trans f24.ext)))

/-- Two numbers are in one stripe just if none that is held tells them apart. -/
theorem stripe_eq {σ : List (Int × Bool)} {a b : Int} (hab : a ≤ b) : (stripeS σ a = stripeS σ b) ↔ ¬ ∃ x ∈ vals σ, a ≤ x ∧ x < b := by
  obtain ⟨hs, hm⟩ := allD_spec σ
  have hle : below (allD σ) a ≤ below (allD σ) b := by
    rcases Nat.lt_or_ge (below (allD σ) b) (below (allD σ) a) with h | h
    · have hb : below (allD σ) b < (allD σ).length := by have := below_le (allD σ) a; omega
      have h1 := below_lt (allD σ) a _ _ h (getE hb)
      have h2 := below_ge (allD σ) b _ (getE hb)
      omega
    · exact h
  rcases Nat.lt_or_ge (below (allD σ) a) (below (allD σ) b) with h | h
  · have hb : below (allD σ) a < (allD σ).length := by have := below_le (allD σ) b; omega
    have h1 := below_lt (allD σ) b _ _ h (getE hb)
    have h2 := below_ge (allD σ) a _ (getE hb)
    refine ⟨fun e => ?_, fun e => absurd ⟨_, (hm _).1 (List.getElem_mem hb), h2, h1⟩ e⟩
    exfalso
    unfold stripeS at e
    rw [getE hb] at e
    cases hh : (allD σ)[below (allD σ) b]? with
    | none => rw [hh] at e; simp at e
    | some y =>
      rw [hh] at e
      have := below_ge (allD σ) b y hh
      simp at e; omega
  · have he : below (allD σ) a = below (allD σ) b := by omega
    refine ⟨fun _ => ?_, fun _ => by unfold stripeS; rw [he]⟩
    rintro ⟨x, hx, h1, h2⟩
    have hx' := (hm x).2 hx
    obtain ⟨i, hi, rfl⟩ := List.mem_iff_getElem.1 hx'
    rcases Nat.lt_or_ge i (below (allD σ) a) with h3 | h3
    · have := below_lt (allD σ) a i _ h3 (getE hi); omega
    · have := hs.ge (n := b) i _ (by omega) (getE hi); omega

theorem vals_mem {σ : List (Int × Bool)} {x : Int} : x ∈ vals σ ↔ ∃ y ∈ alive 0 σ, y.2 = x := by unfold vals; simp

theorem c9 {h : Heap} {s : Slc} {l : List SAct} (a : Arr 4 aF h s l) (hl : l.length ≤ 4398046511000) (hq : ∀ x ∈ l, x.hand ≤ 9223372036854775807 ∧ 0 ≤ x.seq) {u v : Int} {R : Bool → Heap → Prop} (k : ∀ h', Ext0 h h' → R true h') :
    Call Go.Proofs.Try.prog 9 [.lf (.slc s), .lf (.int .u64 u), .lf (.int .u64 v)] h [.one .bool] R := by
  refine ok9 (c45 fun h1 e1 => Br.f rfl (c46 fun p m h3 hp hm P3 e3 => Br.f rfl (NewM.mk fun b4 h5 hb4 hs5 e5 m5 => ?_)))
  have hlen : s.len = l.length := a.len
  have hp' := P3.blk.lt
  have hm' := P3.map.lt
  have h01 := e1.size
  have h13 := e3.size
  -- both maps hold the same
  refine ⟨fun i hh n => ∃ (q : Nat) (σ : List (Int × Bool)), i = q ∧ q ≤ l.length ∧ σ.length ≤ q ∧ PL hh p m σ ∧ MapR hh b4 (.int .i64) (.one (.int .u64)) uF (alive 0 σ) ∧ Ext0 h hh ∧ n = l.length - q,
    ⟨_, 0, [], rfl, by omega, by simp, P3.ext0 e5, MapR.new m5, (e1.trans e3).trans e5, rfl⟩, ?_⟩
  rintro _ h9 _ ⟨q, σ, rfl, hql, hσ, P, M, e, rfl⟩
  have a9 := a.ext0 e
  rw [hlen]
  have hpm : ¬ b4 = p ∧ ¬ b4 = m := ⟨by omega, by omega⟩
  refine Br.dec (fun hlt => ?_) fun hge => ?_
  · have hpl : q < l.length := by omega
    have hx := hq l[q] (List.getElem_mem hpl)
    have hget : l[q]? = some l[q] := by simp [hpl]
    generalize l[q] = x at hx hget
    have next : ∀ (hh : Heap) (σ' : List (Int × Bool)), σ'.length ≤ q + 1 → PL hh p m σ' → MapR hh b4 (.int .i64) (.one (.int .u64)) uF (alive 0 σ') → Ext0 h hh → ∃ b26, b26 < l.length - q ∧ ∃ (q' : Nat) (σ : List (Int × Bool)),
        IntKind.wrap .i64 ((q : Int) + 1) = q' ∧ q' ≤ l.length ∧ σ.length ≤ q' ∧ PL hh p m σ ∧ MapR hh b4 (.int .i64) (.one (.int .u64)) uF (alive 0 σ) ∧ Ext0 h hh ∧ b26 = l.length - q' :=
      fun hh σ' h1 h2 h3 h4 => ⟨l.length - (q + 1), by omega, q + 1, σ', by rw [wi64 (by omega) (by omega)]; omega, by omega, h1, h2, h3, h4, rfl⟩
    refine a9.ix rfl hget fun b off hb => ⟨x.kind, ⟨hb.1, trivial⟩, Br.eq (fun c => ?_) fun c => Br.eq (fun c1 => ?_) fun c1 => next _ _ (by omega) P M e⟩
    · refine a9.ix rfl hget fun b off hb => ⟨x.seq, ⟨hb.2.2.1, trivial⟩, c47 P (by omega) fun h19 P19 e19 => ?_⟩
      have e19' : Ext0 h h19 := e.trans' e19 fun i hi y => by rcases y with y | y <;> omega
      have M19 := M.ext e19 fun y => by rcases y with y | y <;> omega
      have hhl := hold_len σ x.seq
      refine Br.eq (fun c2 => ?_) fun c2 => ?_
      · obtain ⟨r1, r3⟩ : (holdS σ x.seq).1 = (σ.length : Int) + 1 ∧ (holdS σ x.seq).2.2 = σ ++ [(x.seq, true)] := by
          unfold holdS at c2 ⊢
          split at c2
          · simp at c2
          · rename_i h1
            split at c2
            · simp at c2
            · rename_i h2
              rw [if_neg h1, if_neg h2]; exact ⟨rfl, rfl⟩
        rw [r1]
        rw [r3] at P19
        have hno : ∀ y ∈ alive 0 σ, y.1 ≠ (σ.length : Int) + 1 := by
          rintro ⟨w, t⟩ hy hw
          obtain ⟨i, hi, hs⟩ := alive_mem.1 hy
          have hi2 : i < σ.length := by
            rcases Nat.lt_or_ge i σ.length with h | h
            · exact h
            · rw [List.getElem?_eq_none h] at hs; cases hs
          have h2 : ((0 : Nat) : Int) + (i : Int) + 1 = (σ.length : Int) + 1 := hi.symm.trans hw
          omega
        refine ⟨0, false, M19.miss klt hno trivial _, Br.f rfl ((a.ext0 e19').ix rfl hget fun b off hb => ⟨x.seq, ⟨hb.2.2.1, trivial⟩, ?_⟩)⟩
        refine M19.put klt (v := x.seq) trivial rfl fun h25 hs25 M25 e25 => next h25 _ (by simp; omega) (P19.ext e25 (fun y => hpm.1 y.symm) (fun y => hpm.2 y.symm)) ?_ (e19'.trans' e25 fun i hi y => by have : i = b4 := y; omega)
        rw [aput_new klt hno] at M25
        rw [alive_snoc]
        simpa using M25
      · have r3 : (holdS σ x.seq).2.2 = σ := by
          unfold holdS at c2 ⊢
          split at c2
          · rename_i h1; rw [if_pos h1]
          · rename_i h1
            split at c2
            · rename_i h2; rw [if_neg h1, if_pos h2]
            · exact absurd rfl c2
        rw [r3] at P19
        exact next h19 σ (by omega) P19 M19 e19'
    · have hfl := free_len σ x.hand
      refine a9.ix rfl hget fun b off hb => ⟨x.hand, ⟨hb.2.1, trivial⟩, ?_⟩
      cases hh : hnum σ x.hand with
      | none =>
        refine ⟨0, false, M.miss klt (hnum_not hh) trivial _, a9.ix rfl hget fun b off hb => ⟨x.hand, ⟨hb.2.1, trivial⟩, c48 P fun h37 P37 e37 => ?_⟩⟩
        have hf : freeS σ x.hand = (220, σ) := by unfold freeS; rw [hh]
        rw [hf] at P37 ⊢
        have e37' : Ext0 h h37 := e.trans' e37 fun i hi y => by rcases y with y | y <;> omega
        have M37 := M.ext e37 fun y => by rcases y with y | y <;> omega
        refine Br.f rfl ((a.ext0 e37').ix rfl hget fun b off hb => ⟨x.hand, ⟨hb.2.1, trivial⟩, M37.del trivial fun h41 hs41 M41 e41 => ?_⟩)
        rw [adel_none klt (hnum_not hh)] at M41
        exact next h41 σ (by omega) (P37.ext e41 (fun y => hpm.1 y.symm) (fun y => hpm.2 y.symm)) M41 (e37'.trans' e41 fun i hi y => by have : i = b4 := y; omega)
      | some t =>
        have hmem := hnum_mem.2 hh
        refine ⟨t, true, M.hit klt hmem trivial _ rfl, a9.ix rfl hget fun b off hb => ⟨x.hand, ⟨hb.2.1, trivial⟩, c48 P fun h37 P37 e37 => ?_⟩⟩
        have hf : freeS σ x.hand = (0, σ.set (x.hand - 1).toNat (t, false)) := by unfold freeS; rw [hh]
        rw [hf] at P37 ⊢
        have e37' : Ext0 h h37 := e.trans' e37 fun i hi y => by rcases y with y | y <;> omega
        have M37 := M.ext e37 fun y => by rcases y with y | y <;> omega
        refine Br.f rfl ((a.ext0 e37').ix rfl hget fun b off hb => ⟨x.hand, ⟨hb.2.1, trivial⟩, M37.del trivial fun h41 hs41 M41 e41 => ?_⟩)
        refine next h41 _ (by simp; omega) (P37.ext e41 (fun y => hpm.1 y.symm) (fun y => hpm.2 y.symm)) ?_ (e37'.trans' e41 fun i hi y => by have : i = b4 := y; omega)
        obtain ⟨i, hi, hs⟩ := alive_mem.1 hmem
        have := alive_del (k := 0) hs
        rw [show (x.hand - 1).toNat = i by omega, this, show ((0 : Nat) : Int) + (i : Int) + 1 = x.hand by omega]
        exact M41
  · refine c49 P fun s44 h45 o45 f45 => ?_
    obtain ⟨hss, hmm⟩ := allD_spec σ
    have hal := allD_len σ
    have hl44 : s44.len = (allD σ).length := o45.len
    refine ⟨fun i hh n => ∃ q : Nat, i = q ∧ q ≤ (allD σ).length ∧ Ext0 h45 hh ∧ n = (allD σ).length - q, ⟨_, 0, rfl, by omega, Ext.refl _ _, rfl⟩, ?_⟩
    rintro _ h49 _ ⟨q, rfl, hql2, e49, rfl⟩
    have e0 : Ext0 h9 h49 := f45.ext.trans e49
    have M49 := M.ext e0
    have P49 := P.ext0 e0
    have o49 := o45.ext0 e49
    rw [hl44]
    refine Br.dec (fun hlt => ?_) fun hge2 => ?_
    · have hpl : q < (allD σ).length := by omega
      refine M49.ext (Ext.refl none' _) |> fun M49 => Iter.start M49 fun b51 h52 hb51 hs52 e52 I52 => ?_
      refine ⟨fun c hh n => ∃ seen, Iter hh b51 b4 (.int .i64) (.one (.int .u64)) uF (alive 0 σ) seen ∧ Ext0 h49 hh ∧ c = decide (∃ y ∈ seen, y.2 = (allD σ)[q]) ∧ n = (alive 0 σ).length - seen.length, ⟨_, [], I52, e52, by simp, rfl⟩, ?_⟩
      rintro c55 h56 _ ⟨seen, I56, e56, rfl, rfl⟩
      refine I56.next (fun hperm => ?_) fun y rest h69 hperm hs69 e69 I69 E69 => ⟨y.1, y.2, E69, ?_⟩
      · have hin : ∃ y ∈ seen, y.2 = (allD σ)[q] := by
          obtain ⟨y, hy, hy2⟩ := vals_mem.1 ((hmm _).1 (List.getElem_mem hpl))
          exact ⟨y, hperm.mem_iff.2 hy, hy2⟩
        have nx : ∃ b65, b65 < (allD σ).length - q ∧ ∃ q' : Nat, IntKind.wrap .i64 ((q : Int) + 1) = q' ∧ q' ≤ (allD σ).length ∧ Ext0 h45 h56 ∧ b65 = (allD σ).length - q' :=
          ⟨(allD σ).length - (q + 1), by omega, q + 1, by rw [wi64 (by omega) (by omega)]; omega, by omega, e49.trans e56, rfl⟩
        refine Br.f (by simpa using hin) (Br.dec (fun c => ?_) fun _ => nx)
        have o58 := (o49.ext0 e56).arr uF_sized
        refine o58.ix rfl (getE hpl) fun b off hb => ⟨_, hb, o58.ix (k := q - 1) (by rw [wi64 (by omega) (by omega)]; omega) (getE (p := q - 1) (by omega)) fun b off hb => ⟨_, hb, Br.dec (fun c2 => ?_) fun _ => nx⟩⟩
        have := List.pairwise_iff_getElem.1 hss (q - 1) q (by omega) hpl (by omega)
        omega
      · have e69' : Ext0 h49 h69 := e56.trans' e69 fun i hi z => by have : i = b51 := z; omega
        have hln : (alive 0 σ).length = seen.length + (rest.length + 1) := by have := hperm.length_eq; simpa using this
        refine Br.mk (fun c => ?_) fun c => ?_
        · refine ⟨(alive 0 σ).length - (seen ++ [y]).length, by simp; omega, seen ++ [y], I69, e69', ?_, rfl⟩
          have : ∃ y ∈ seen, y.2 = (allD σ)[q] := by simpa using c
          obtain ⟨z, hz, hz2⟩ := this
          exact (decide_eq_true ⟨z, by simp [hz], hz2⟩).symm
        · refine ((o49.ext0 e69').arr uF_sized).ix rfl (getE hpl) fun b off hb => ⟨_, hb, (alive 0 σ).length - (seen ++ [y]).length, by simp; omega, seen ++ [y], I69, e69', ?_, rfl⟩
          have hno : ¬ ∃ y ∈ seen, y.2 = (allD σ)[q] := by simpa using c
          rw [Bool.eq_iff_iff]
          simp only [beq_iff_eq, decide_eq_true_eq, List.mem_append, List.mem_singleton]
          constructor
          · exact fun hh => ⟨y, .inr rfl, hh⟩
          · rintro ⟨z, hz | rfl, hz2⟩
            · exact absurd ⟨z, hz, hz2⟩ hno
            · exact hz2
    · refine ⟨fun x y hh => x ≤ y ∧ h49 = hh, Br.dec (fun c => ⟨by omega, rfl⟩) fun c => ⟨by omega, rfl⟩, ?_⟩
      rintro x y _ ⟨hxy, rfl⟩
      refine Iter.start M49 fun b81 h82 hb81 hs82 e82 I82 => ?_
      refine ⟨fun c hh n => ∃ seen, Iter hh b81 b4 (.int .i64) (.one (.int .u64)) uF (alive 0 σ) seen ∧ Ext0 h49 hh ∧ c = decide (∃ z ∈ seen, x ≤ z.2 ∧ z.2 < y) ∧ n = (alive 0 σ).length - seen.length, ⟨_, [], I82, e82, by simp, rfl⟩, ?_⟩
      rintro c85 h86 _ ⟨seen, I86, e86, rfl, rfl⟩
      refine I86.next (fun hperm => ?_) fun z rest h97 hperm hs97 e97 I97 E97 => ⟨z.1, z.2, E97, ?_⟩
      · refine c51 (P49.ext0 e86) fun h91 e91 => c51 ((P49.ext0 e86).ext0 e91) fun h94 e94 => ?_
        have e94' : Ext0 h h94 := (((e.trans e0).trans e86).trans e91).trans e94
        have heq := stripe_eq (σ := σ) hxy
        have hex : (∃ z ∈ seen, x ≤ z.2 ∧ z.2 < y) ↔ ∃ w ∈ vals σ, x ≤ w ∧ w < y := by
          constructor
          · rintro ⟨z, hz, h1⟩; exact ⟨z.2, vals_mem.2 ⟨z, hperm.mem_iff.1 hz, rfl⟩, h1⟩
          · rintro ⟨w, hw, h1⟩
            obtain ⟨z, hz, rfl⟩ := vals_mem.1 hw
            exact ⟨z, hperm.mem_iff.2 hz, h1⟩
        have kk := k h94 e94'
        by_cases hst : stripeS σ x = stripeS σ y
        · have hn : ¬ ∃ z ∈ seen, x ≤ z.2 ∧ z.2 < y := fun hh => heq.1 hst (hex.1 hh)
          rw [hst]
          refine Br.t (by simp) ?_
          have : (((stripeS σ y).2 == (stripeS σ y).2) == !decide (∃ z ∈ seen, x ≤ z.2 ∧ z.2 < y)) = true := by simp [hn]
          rw [this]; exact kk
        · have hn : ∃ z ∈ seen, x ≤ z.2 ∧ z.2 < y := by
            refine Classical.byContradiction fun hh => hst (heq.2 fun h2 => hh (hex.2 h2))
          refine Br.eq (fun c => ?_) fun c => ?_
          · have hne : ¬ (stripeS σ x).2 = (stripeS σ y).2 := fun h2 => hst (Prod.ext c h2)
            have : (((stripeS σ x).2 == (stripeS σ y).2) == !decide (∃ z ∈ seen, x ≤ z.2 ∧ z.2 < y)) = true := by
              rw [decide_eq_true hn]
              have : ((stripeS σ x).2 == (stripeS σ y).2) = false := by simpa using hne
              rw [this]; rfl
            rw [this]; exact kk
          · have : (false == !decide (∃ z ∈ seen, x ≤ z.2 ∧ z.2 < y)) = true := by rw [decide_eq_true hn]; rfl
            rw [this]; exact kk
      · have e97' : Ext0 h49 h97 := e86.trans' e97 fun i hi w => by have : i = b81 := w; omega
        have hln : (alive 0 σ).length = seen.length + (rest.length + 1) := by have := hperm.length_eq; simpa using this
        have hz : z ∈ alive 0 σ := hperm.mem_iff.2 (by simp)
        have hzn : hnum σ z.1 = some z.2 := hnum_mem.1 hz
        refine c50 (P49.ext0 e97') ?_
        have hsq : seqS σ z.1 = (z.2, 0) := by unfold seqS; rw [hzn]
        rw [hsq]
        refine ⟨fun c i hh n => ∃ q : Nat, i = q ∧ q ≤ (allD σ).length ∧ h97 = hh ∧ c = decide (z.2 ∈ (allD σ).take q) ∧ n = (allD σ).length - q, ⟨_, 0, rfl, by omega, rfl, by simp, rfl⟩, ?_⟩
        rintro c105 _ _ _ ⟨q2, rfl, hq2, rfl, rfl, rfl⟩
        have o97 := (o49.ext0 e97').arr uF_sized
        refine Br.dec (fun hlt => ?_) fun hge3 => ?_
        · have hpl : q2 < (allD σ).length := by omega
          have htk : (allD σ).take (q2 + 1) = (allD σ).take q2 ++ [(allD σ)[q2]] := by rw [List.take_add_one, getE hpl]; rfl
          refine Br.mk (fun c => ?_) fun c => ?_
          · refine ⟨(allD σ).length - (q2 + 1), by omega, q2 + 1, by rw [wi64 (by omega) (by omega)]; omega, by omega, rfl, ?_, rfl⟩
            have : z.2 ∈ (allD σ).take q2 := by simpa using c
            rw [htk]
            exact (decide_eq_true (List.mem_append_left _ this)).symm
          · refine o97.ix rfl (getE hpl) fun b off hb => ⟨_, hb, (allD σ).length - (q2 + 1), by omega, q2 + 1, by rw [wi64 (by omega) (by omega)]; omega, by omega, rfl, ?_, rfl⟩
            have hno : ¬ z.2 ∈ (allD σ).take q2 := by simpa using c
            rw [htk, Bool.eq_iff_iff]
            simp only [beq_iff_eq, decide_eq_true_eq, List.mem_append, List.mem_singleton]
            constructor
            · exact fun hh => .inr hh.symm
            · exact fun hh => (hh.resolve_left hno).symm
        · have hq2e : q2 = (allD σ).length := by omega
          subst hq2e
          have hin : z.2 ∈ allD σ := (hmm _).2 (vals_mem.2 ⟨z, hz, rfl⟩)
          rw [List.take_length, decide_eq_true hin]
          refine Br.ne (fun hh => absurd rfl hh) fun _ => Br.ne (fun hh => absurd rfl hh) fun _ => Br.f rfl (Br.mk (fun c => ?_) fun c => Br.dec (fun c2 => ?_) fun c2 => ?_)
          · refine ⟨(alive 0 σ).length - (seen ++ [z]).length, by simp; omega, seen ++ [z], I97, e97', ?_, rfl⟩
            have : ∃ w ∈ seen, x ≤ w.2 ∧ w.2 < y := by simpa using c
            obtain ⟨w, hw, hw2⟩ := this
            exact (decide_eq_true ⟨w, by simp [hw], hw2⟩).symm
          · refine ⟨(alive 0 σ).length - (seen ++ [z]).length, by simp; omega, seen ++ [z], I97, e97', ?_, rfl⟩
            have hno : ¬ ∃ w ∈ seen, x ≤ w.2 ∧ w.2 < y := by simpa using c
            rw [Bool.eq_iff_iff]
            simp only [decide_eq_true_eq, List.mem_append, List.mem_singleton]
            constructor
            · exact fun hh => ⟨z, .inr rfl, c2, hh⟩
            · rintro ⟨w, hw | rfl, hw2⟩
              · exact absurd ⟨w, hw, hw2⟩ hno
              · exact hw2.2
          · refine ⟨(alive 0 σ).length - (seen ++ [z]).length, by simp; omega, seen ++ [z], I97, e97', ?_, rfl⟩
            have hno : ¬ ∃ w ∈ seen, x ≤ w.2 ∧ w.2 < y := by simpa using c
            rw [eq_comm, decide_eq_false_iff_not]
            rintro ⟨w, hw, hw2⟩
            rcases List.mem_append.1 hw with hw | hw
            · exact hno ⟨w, hw, hw2⟩
            · simp at hw; subst hw; exact c2 hw2.1

end Go.V.Yteojmnnobmpdiaa
