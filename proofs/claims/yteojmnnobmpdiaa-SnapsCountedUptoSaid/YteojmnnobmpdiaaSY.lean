/- This text proves a part of the laws of seat Yteojmnnobmpdiaa, under no condition: T11s X24a X24b X24c. -/
import Derived.Test.YteojmnnobmpdiaaSC
import Derived.Eval
import Derived.Test.YteojmnnobmpdiaaChecked
import Derived.Test.YteojmnnobmpdiaaSE
import Derived.Test.YteojmnnobmpdiaaSV
import Derived.Test.YteojmnnobmpdiaaSW
import Derived.Test.YteojmnnobmpdiaaSP
set_option linter.unusedVariables false
set_option maxRecDepth 100000
namespace Go.V.Yteojmnnobmpdiaa
open Go Go.V
/- 11: sediment.sedimentlaw22.SnapsCounted () · loop 8: #5 · loop 19: #10 · loop 23: #11, #12 · loop 29: #13 · loop 33: #14, #15 · loop 40: #16 · loop 45: #16, #20 -/
def pl11 : Plan := {
  blk := fun _ => none
  seq := fun _ => none
  loop := fun | 8 => some ⟨[(5, .one (.int .i64))], [], []⟩ | 19 => some ⟨[(10, .one (.int .i64))], [], []⟩ | 23 => some ⟨[(11, .one .bool), (12, .one (.int .i64))], [], []⟩ | 29 => some ⟨[(13, .one (.int .i64))], [], []⟩ | 33 => some ⟨[(14, .one .bool), (15, .one (.int .i64))], [], []⟩ | 40 => some ⟨[(16, .one (.int .i64))], [], []⟩ | 45 => some ⟨[(16, .one (.int .i64)), (20, .one (.int .i64))], [], []⟩ | _ => none
  live := fun | 0 => some [0] | 1 => some [0, 22] | 2 => some [2] | 3 => some [0, 3] | 4 => some [0, 3, 25] | 5 => some [2] | 6 => some [0, 3, 4] | 7 => some [0, 3, 4, 5] | 8 => some [0, 3, 4, 5, 30] | 9 => some [0, 3, 4, 5] | 10 => some [0, 3, 4, 5, 38] | 11 => some [0, 3, 4, 5] | 12 => some [0, 3, 4, 5, 6, 7] | 13 => some [0, 3, 4, 5, 6, 7, 69] | 14 => some [0, 3, 4, 5, 6, 7, 8, 9] | 15 => some [0, 3, 4, 5, 6, 8, 83] | 16 => some [2] | 17 => some [0, 3, 4, 5, 6, 8] | 18 => some [0, 3, 4, 5, 6, 8, 10] | 19 => some [0, 3, 4, 5, 6, 8, 10, 93] | 20 => some [0, 3, 4, 5, 6, 8, 10] | 21 => some [0, 3, 4, 5, 6, 8, 10, 11] | 22 => some [0, 3, 4, 5, 6, 8, 10, 11, 12] | 23 => some [0, 3, 4, 5, 6, 8, 10, 11, 12, 99] | 24 => some [0, 3, 4, 5, 6, 8, 10, 11, 12] | 25 => some [0, 3, 4, 5, 6, 8, 10, 11, 12] | 26 => some [0, 3, 4, 5, 6, 8, 10, 124] | 27 => some [2] | 28 => some [0, 3, 4, 5, 6, 8, 13] | 29 => some [0, 3, 4, 5, 6, 8, 13, 128] | 30 => some [0, 3, 4, 5, 6, 8, 13] | 31 => some [0, 3, 4, 5, 6, 8, 13, 14] | 32 => some [0, 3, 4, 5, 6, 8, 13, 14, 15] | 33 => some [0, 3, 4, 5, 6, 8, 13, 14, 15, 134] | 34 => some [0, 3, 4, 5, 6, 8, 13, 14, 15] | 35 => some [0, 3, 4, 5, 6, 8, 13, 14, 15] | 36 => some [0, 3, 4, 5, 6, 8, 13, 157] | 37 => some [2] | 38 => some [3, 4, 16] | 39 => some [3, 16, 159] | 40 => some [3, 16, 159, 161] | 41 => some [3, 16, 18, 159] | 42 => some [3, 16, 159] | 43 => some [3, 16, 19] | 44 => some [3, 16, 19, 20] | 45 => some [3, 16, 19, 20, 173] | 46 => some [3, 16, 19, 20] | 47 => some [3, 16, 19, 20] | 48 => some [2] | _ => none
  track := fun | _ => false
  draw := fun | 11 => .still 0 (.still 1 (.still 3 (.still 4 (.still 5 (.still 6 (.still 7 (.still 10 (.still 11 (.still 12 (.still 13 (.still 14 (.mem 2 (.mem 8 (.mem 9 (.mem 15 (.done)))))))))))))))) | 25 => .still 0 (.still 1 (.still 2 (.still 3 (.still 4 (.still 5 (.still 6 (.still 7 (.still 8 (.still 9 (.still 10 (.still 11 (.still 12 (.done))))))))))))) | 35 => .still 0 (.still 1 (.still 2 (.still 3 (.still 4 (.still 5 (.still 6 (.still 7 (.still 8 (.still 9 (.still 10 (.still 11 (.still 12 (.done))))))))))))) | _ => .done
  iter := fun | 159 => some 98 | _ => none }
def vc11 (a0 : Slc) (h : Heap) (R : Bool → Heap → Prop) : Prop :=
  Call Go.Proofs.Try.prog 45 [] h [VT.one LT.bool] fun (c0 : Bool) (h1 : Heap) =>
    Br (!c0) (R Bool.false h1)
      (Call Go.Proofs.Try.prog 35 [] h1 [VT.one LT.ptr] fun (p2 : Option (Nat × Nat)) (h3 : Heap) =>
        Br (Option.isNone p2) (R Bool.false h3)
          (NewM h3 fun (b4 : Nat) (h5 : Heap) =>
            ∃ (I6 : Int → Heap → Nat → Prop),
              (∃ (b7 : Nat), I6 (0 : Int) h5 b7) ∧
                ∀ (i8 : Int) (h9 : Heap) (b10 : Nat),
                  I6 i8 h9 b10 →
                    Br (Decidable.decide (i8 < (↑(Slc.len a0) : Int)))
                      (IxC a0 i8 4 fun (b11 b12 : Nat) =>
                        ∃ (i13 : Int),
                          cellsAt h9 b11 (b12 + 0) [Lf.int IntKind.i64 i13] ∧
                            Br (i13 == (3 : Int))
                              (IxC a0 i8 4 fun (b14 b15 : Nat) =>
                                ∃ (s16 : Slc),
                                  cellsAt h9 b14 (b15 + 3) [Lf.slc s16] ∧
                                    IxC a0 i8 4 fun (b17 b18 : Nat) =>
                                      ∃ (s19 : Slc),
                                        cellsAt h9 b17 (b18 + 3) [Lf.slc s19] ∧
                                          New 22 [] h9 fun (b20 : Nat) (h21 : Heap) =>
                                            cellsAt h21 b17 (b18 + 3) [Lf.slc s19] ∧
                                              cellsAt h21 b14 (b15 + 3) [Lf.slc s16] ∧
                                                AppC 22 [Lf.int IntKind.u64 (0 : Int)] 1 8 (Slc.mk (Option.some (b20, 0)) 0 0) s16 h21
                                                  fun (s22 : Slc) (h23 : Heap) =>
                                                  cellsAt h23 b17 (b18 + 3) [Lf.slc s19] ∧
                                                    Call Go.Proofs.Try.prog 36 [VV.lf (Lf.ptr p2), VV.lf (Lf.slc s22)] h23 [VT.one (LT.int IntKind.i64)]
                                                      fun (i24 : Int) (h25 : Heap) =>
                                                      cellsAt h25 b17 (b18 + 3) [Lf.slc s19] ∧
                                                        UpdC (LT.int IntKind.i64) (VT.one LT.slc) h25 (Option.some b4) i24 [Lf.slc s19] fun (h26 : Heap) =>
                                                          ∃ (b27 : Nat), b27 < b10 ∧ I6 (IntKind.wrap IntKind.i64 (i8 + (1 : Int))) h26 b27)
                              (IxC a0 i8 4 fun (b28 b29 : Nat) =>
                                ∃ (i30 : Int),
                                  cellsAt h9 b28 (b29 + 1) [Lf.int IntKind.i64 i30] ∧
                                    ∃ (s31 : Slc),
                                      ∃ (c32 : Bool),
                                        LookR h9 (LT.int IntKind.i64) (VT.one LT.slc) [Lf.slc (Slc.mk Option.none 0 0)] (Option.some b4) i30
                                            [Lf.slc s31] c32 ∧
                                          IxC a0 i8 4 fun (b33 b34 : Nat) =>
                                            ∃ (i35 : Int),
                                              cellsAt h9 b33 (b34 + 0) [Lf.int IntKind.i64 i35] ∧
                                                Br (i35 != (4 : Int)) (∃ (b36 : Nat), b36 < b10 ∧ I6 (IntKind.wrap IntKind.i64 (i8 + (1 : Int))) h9 b36)
                                                  (IxC a0 i8 4 fun (b37 b38 : Nat) =>
                                                    ∃ (i39 : Int),
                                                      cellsAt h9 b37 (b38 + 1) [Lf.int IntKind.i64 i39] ∧
                                                        Call Go.Proofs.Try.prog 38 [VV.lf (Lf.ptr p2), VV.lf (Lf.int IntKind.i64 i39)] h9
                                                          [VT.one LT.slc, VT.one (LT.int IntKind.i64)] fun (s40 : Slc) (i41 : Int) (h42 : Heap) =>
                                                          Br (!(i41 == (0 : Int)) == c32) (R Bool.false h42)
                                                            (IxC a0 i8 4 fun (b43 b44 : Nat) =>
                                                              ∃ (i45 : Int),
                                                                cellsAt h42 b43 (b44 + 1) [Lf.int IntKind.i64 i45] ∧
                                                                  DelC (LT.int IntKind.i64) (VT.one LT.slc) h42 (Option.some b4) i45 fun (h46 : Heap) =>
                                                                    ∃ (I47 : Int → Heap → Nat → Prop),
                                                                      (∃ (b48 : Nat), I47 (0 : Int) h46 b48) ∧
                                                                        ∀ (i49 : Int) (h50 : Heap) (b51 : Nat),
                                                                          I47 i49 h50 b51 →
                                                                            Br (Decidable.decide (i49 < (↑(Slc.len s40) : Int)))
                                                                              (∃ (I52 : Bool → Int → Heap → Nat → Prop),
                                                                                (∃ (b53 : Nat), I52 Bool.false (0 : Int) h50 b53) ∧
                                                                                  ∀ (c54 : Bool) (i55 : Int) (h56 : Heap) (b57 : Nat),
                                                                                    I52 c54 i55 h56 b57 →
                                                                                      Br (Decidable.decide (i55 < (↑(Slc.len s31) : Int)))
                                                                                        (Br c54 (∃ (b58 : Nat), b58 < b57 ∧ I52 Bool.true (IntKind.wrap IntKind.i64 (i55 + (1 : Int))) h56 b58)
                                                                                          (IxC s31 i55 1 fun (b59 b60 : Nat) =>
                                                                                            ∃ (i61 : Int),
                                                                                              cellsAt h56 b59 b60 [Lf.int IntKind.u64 i61] ∧
                                                                                                IxC s40 i49 1 fun (b62 b63 : Nat) =>
                                                                                                  ∃ (i64 : Int),
                                                                                                    cellsAt h56 b62 b63 [Lf.int IntKind.u64 i64] ∧
                                                                                                      ∃ (b65 : Nat),
                                                                                                        b65 < b57 ∧ I52 (i61 == i64) (IntKind.wrap IntKind.i64 (i55 + (1 : Int))) h56 b65))
                                                                                        (Br (!c54) (R Bool.false h56)
                                                                                          (IxC s40 i49 1 fun (b66 b67 : Nat) =>
                                                                                            ∃ (i68 : Int),
                                                                                              cellsAt h56 b66 b67 [Lf.int IntKind.u64 i68] ∧
                                                                                                Call Go.Proofs.Try.prog 43
                                                                                                  [VV.lf (Lf.ptr p2), VV.lf (Lf.int IntKind.u64 i68)] h56
                                                                                                  [VT.one (LT.int IntKind.i64)] fun (i69 : Int) (h70 : Heap) =>
                                                                                                  Br (i69 != (0 : Int)) (R Bool.false h70)
                                                                                                    (∃ (b71 : Nat), b71 < b51 ∧ I47 (IntKind.wrap IntKind.i64 (i49 + (1 : Int))) h70 b71))))
                                                                              (∃ (I72 : Int → Heap → Nat → Prop),
                                                                                (∃ (b73 : Nat), I72 (0 : Int) h50 b73) ∧
                                                                                  ∀ (i74 : Int) (h75 : Heap) (b76 : Nat),
                                                                                    I72 i74 h75 b76 →
                                                                                      Br (Decidable.decide (i74 < (↑(Slc.len s31) : Int)))
                                                                                        (∃ (I77 : Bool → Int → Heap → Nat → Prop),
                                                                                          (∃ (b78 : Nat), I77 Bool.false (0 : Int) h75 b78) ∧
                                                                                            ∀ (c79 : Bool) (i80 : Int) (h81 : Heap) (b82 : Nat),
                                                                                              I77 c79 i80 h81 b82 →
                                                                                                Br (Decidable.decide (i80 < (↑(Slc.len s40) : Int)))
                                                                                                  (Br c79
                                                                                                    (∃ (b83 : Nat), b83 < b82 ∧ I77 Bool.true (IntKind.wrap IntKind.i64 (i80 + (1 : Int))) h81 b83)
                                                                                                    (IxC s40 i80 1 fun (b84 b85 : Nat) =>
                                                                                                      ∃ (i86 : Int),
                                                                                                        cellsAt h81 b84 b85 [Lf.int IntKind.u64 i86] ∧
                                                                                                          IxC s31 i74 1 fun (b87 b88 : Nat) =>
                                                                                                            ∃ (i89 : Int),
                                                                                                              cellsAt h81 b87 b88 [Lf.int IntKind.u64 i89] ∧
                                                                                                                ∃ (b90 : Nat),
                                                                                                                  b90 < b82 ∧
                                                                                                                    I77 (i86 == i89) (IntKind.wrap IntKind.i64 (i80 + (1 : Int))) h81 b90))
                                                                                                  (IxC s31 i74 1 fun (b91 b92 : Nat) =>
                                                                                                    ∃ (i93 : Int),
                                                                                                      cellsAt h81 b91 b92 [Lf.int IntKind.u64 i93] ∧
                                                                                                        Call Go.Proofs.Try.prog 43
                                                                                                          [VV.lf (Lf.ptr p2), VV.lf (Lf.int IntKind.u64 i93)] h81
                                                                                                          [VT.one (LT.int IntKind.i64)] fun (i94 : Int) (h95 : Heap) =>
                                                                                                          Br (!c79 == (i94 == (0 : Int))) (R Bool.false h95)
                                                                                                            (∃ (b96 : Nat), b96 < b76 ∧ I72 (IntKind.wrap IntKind.i64 (i74 + (1 : Int))) h95 b96)))
                                                                                        (∃ (b97 : Nat), b97 < b10 ∧ I6 (IntKind.wrap IntKind.i64 (i8 + (1 : Int))) h75 b97))))))
                      (RngC h9 (Option.some b4) fun (b98 : Nat) (h99 : Heap) =>
                        ∃ (I100 : Int → Heap → Nat → Prop),
                          (∃ (b101 : Nat), I100 (0 : Int) h99 b101) ∧
                            ∀ (i102 : Int) (h103 : Heap) (b104 : Nat),
                              I100 i102 h103 b104 →
                                NextC (LT.int IntKind.i64) (VT.one LT.slc) h103 b98
                                  (fun (h105 : Heap) =>
                                    Call Go.Proofs.Try.prog 41 [VV.lf (Lf.ptr p2)] h105 [VT.one LT.slc] fun (s106 : Slc) (h107 : Heap) =>
                                      ∃ (I108 : Int → Int → Heap → Nat → Prop),
                                        (∃ (b109 : Nat), I108 i102 (0 : Int) h107 b109) ∧
                                          ∀ (i110 i111 : Int) (h112 : Heap) (b113 : Nat),
                                            I108 i110 i111 h112 b113 →
                                              Br (Decidable.decide (i111 < (↑(Slc.len s106) : Int)))
                                                (IxC s106 i111 1 fun (b114 b115 : Nat) =>
                                                  ∃ (i116 : Int),
                                                    cellsAt h112 b114 b115 [Lf.int IntKind.u64 i116] ∧
                                                      Call Go.Proofs.Try.prog 43 [VV.lf (Lf.ptr p2), VV.lf (Lf.int IntKind.u64 i116)] h112
                                                        [VT.one (LT.int IntKind.i64)] fun (i117 : Int) (h118 : Heap) =>
                                                        ∃ (b119 : Nat), b119 < b113 ∧ I108 (IntKind.wrap IntKind.i64 (i110 - i117)) (IntKind.wrap IntKind.i64 (i111 + (1 : Int))) h118 b119)
                                                (R (i110 == (0 : Int)) h112))
                                  fun (i120 : Int) (x121 : List Lf) (h122 : Heap) =>
                                  ∃ (i123 : Int),
                                    ∃ (s124 : Slc),
                                      EntryR h122 b98 (LT.int IntKind.i64) (VT.one LT.slc) i123 [Lf.slc s124] ∧
                                        ∃ (b125 : Nat), b125 < b104 ∧ I100 (IntKind.wrap IntKind.i64 (i102 + (↑(Slc.len s124) : Int))) h122 b125)))
theorem eq11 (a0 : Slc) (h : Heap) (R : Bool → Heap → Prop) : vc11 a0 h R = vcFn Go.Proofs.Try.prog pl11 Go.Proofs.Try.f11 [.lf (.slc a0)] h [.one .bool] R := by kernel_rfl
theorem ok11 {a0 : Slc} {h : Heap} {R : Bool → Heap → Prop} (hv : vc11 a0 h R) : Call Go.Proofs.Try.prog 11 [.lf (.slc a0)] h [.one .bool] R := call_eq hng hmix Go.Proofs.Try.func11 (eq11 a0 h R) hv
end Go.V.Yteojmnnobmpdiaa
set_option linter.unusedVariables false
set_option linter.unusedSimpArgs false
/-! SnapsCounted: what is held, by the law; sums. -/
namespace Go.V.Yteojmnnobmpdiaa
open Go Go.V Go.V.Snap

theorem sum_map_add {α : Type} (f g : α → Nat) (N : List α) : (N.map fun x => f x + g x).sum = (N.map f).sum + (N.map g).sum := by
  induction N with
  | nil => rfl
  | cons a N ih => simp only [List.map_cons, List.sum_cons, ih]; omega

theorem sum_ind {N : List Int} {a : Int} (h : N.Nodup) (ha : a ∈ N) : (N.map fun f => if a = f then 1 else 0).sum = 1 := by
  induction N with
  | nil => simp at ha
  | cons b N ih =>
    simp only [List.nodup_cons] at h
    simp only [List.map_cons, List.sum_cons]
    by_cases e : a = b
    · subst e
      have : (N.map fun f => if a = f then 1 else 0).sum = 0 := by
        rw [List.sum_eq_zero_iff_forall_eq_nat] <;> skip
        intro x hx
        obtain ⟨f, hf, rfl⟩ := List.mem_map.1 hx
        exact if_neg fun h' => h.1 (by rw [h']; exact hf)
      rw [this, if_pos rfl]
    · rw [if_neg e, ih h.2 (by simpa [e] using ha)]

/-- How often each is in a row, summed. -/
theorem sum_count {N : List Int} (hN : N.Nodup) : ∀ {l : List Int}, (∀ x ∈ l, x ∈ N) → (N.map fun f => l.count f).sum = l.length
  | [], _ => by
    simp only [List.count_nil, List.length_nil]
    induction N with
    | nil => rfl
    | cons a N ih => simp only [List.nodup_cons] at hN; simpa using ih hN.2
  | a :: l, h => by
    have h1 : (N.map fun f => (a :: l).count f) = N.map fun f => l.count f + (if a = f then 1 else 0) := by
      apply List.map_congr_left
      intro f _
      rw [List.count_cons]
      congr 1
      simp only [beq_iff_eq]
    rw [h1, sum_map_add, sum_count hN (fun x hx => h x (List.mem_cons_of_mem _ hx)), sum_ind hN (h a (List.mem_cons_self ..)), List.length_cons]

/-- The rows that are held, summed. -/
theorem alive_sum : ∀ (η : List ((Slc × List Int) × Bool)) (k : Nat), ((aliveP k η).map fun x => x.2.2.length).sum = (ment (texts η)).length
  | [], k => by simp [aliveP, texts, ment]
  | ((s, L), true) :: η, k => by
    have := alive_sum η (k + 1)
    simp only [aliveP, List.map_cons, List.sum_cons, this]
    simp [texts, ment]
  | ((s, L), false) :: η, k => by
    have := alive_sum η (k + 1)
    simp only [aliveP, this]
    simp [texts, ment]

/-- The program's files, and what the law holds of them. -/
structure CW (h0 h : Heap) (p m1 m2 b : Nat) (ρ η : List ((Slc × List Int) × Bool)) : Prop where
  prog : RF h p m1 m2 ρ
  held : MapR h b (.int .i64) (.one .slc) rF (aliveP 0 η)
  same : texts ρ = texts η
  ext : Ext0 h0 h
  newP : ∀ b, RB p m1 m2 ρ b → h0.size ≤ b
  newB : h0.size ≤ b
  arr : ∀ x ∈ η, Arr 1 uF h0 x.1.1 x.1.2
  ne : ¬ RB p m1 m2 ρ b

theorem CW.len {h0 h : Heap} {p m1 m2 b : Nat} {ρ η : List ((Slc × List Int) × Bool)} (S : CW h0 h p m1 m2 b ρ η) : η.length = ρ.length := by
  have := congrArg List.length S.same
  simpa [texts] using this.symm

theorem CW.ext0 {h0 h h' : Heap} {p m1 m2 b : Nat} {ρ η : List ((Slc × List Int) × Bool)} (S : CW h0 h p m1 m2 b ρ η) (e : Ext0 h h') : CW h0 h' p m1 m2 b ρ η :=
  ⟨S.prog.ext0 e, S.held.ext e, S.same, S.ext.trans e, S.newP, S.newB, S.arr, S.ne⟩

/-- What a look at the law's map and Drop come to. -/
theorem CW.drop {h0 h : Heap} {p m1 m2 b : Nat} {ρ η : List ((Slc × List Int) × Bool)} (S : CW h0 h p m1 m2 b ρ η) (x : Int) :
    ∃ (s31 : Slc) (c32 : Bool) (L : List Int), LookR h (.int .i64) (.one .slc) [.slc ⟨none, 0, 0⟩] (some b) x [.slc s31] c32 ∧ Arr 1 uF h0 s31 L ∧ L.length ≤ (ment (texts ρ)).length ∧
      ∀ {K : Slc → Int → Heap → Prop}, (∀ s40 i41 h42 (ρ' : List ((Slc × List Int) × Bool)) G, (!(i41 == 0) == c32) = false → Own 1 uF h42 s40 G → G.length ≤ 1073741824 → (∀ f, f ∈ G ↔ f ∈ L ∧ cnt (texts ρ') f = 0) → ρ'.length = ρ.length →
          (ment (texts ρ')).length ≤ (ment (texts ρ)).length → Ext0 h0 h42 → RF h42 p m1 m2 ρ' → (∀ b, RB p m1 m2 ρ' b → RB p m1 m2 ρ b) → MapR h42 b (.int .i64) (.one .slc) rF (aliveP 0 η) →
          (∀ h', Ext (fun i => i = b) h42 h' → MapR h' b (.int .i64) (.one .slc) rF (adel (.int .i64) x (aliveP 0 η)) → CW h0 h' p m1 m2 b ρ' (letGo η x) ∧ Own 1 uF h' s40 G) → K s40 i41 h42) →
        Call Go.Proofs.Try.prog 38 [.lf (.ptr (some (p, 0))), .lf (.int .i64 x)] h [.one .slc, .one (.int .i64)] K := by
  have hsm := hgot_same S.same x
  have hts := letGo_same S.same x
  cases hx : hgot η x with
  | none =>
    have hpx : hgot ρ x = none := by
      rw [hx] at hsm
      cases hh : hgot ρ x with
      | none => rfl
      | some y => rw [hh] at hsm; cases hsm
    refine ⟨⟨none, 0, 0⟩, false, [], S.held.miss klt (hgot_not hx) trivial _, Arr.nil _ _ _ _, by simp, fun {K} k => c38 S.prog (fun _ => ?_) fun s L s' h' G hs => by rw [hpx] at hs; cases hs⟩
    refine k _ _ h ρ [] rfl (Own.nil _ _ _) (by simp) (by simp) rfl (Nat.le_refl _) S.ext S.prog (fun _ z => z) S.held fun h' e M => ⟨⟨S.prog.ext e fun b' hb z => S.ne (z ▸ hb), ?_, ?_, S.ext.trans' e fun i hi z => ?_, S.newP, S.newB, ?_, S.ne⟩, Own.nil _ _ _⟩
    · rw [adel_none klt (hgot_not hx)] at M
      unfold letGo; rw [hx]; exact M
    · unfold letGo; rw [hx]; exact S.same
    · have : i = b := z
      have := S.newB; omega
    · unfold letGo; rw [hx]; exact S.arr
  | some y =>
    obtain ⟨s31, L⟩ := y
    obtain ⟨hx1, hx2, hx3⟩ := hgot_some hx
    have hmem := hgot_mem.2 hx
    refine ⟨s31, true, L, S.held.hit klt hmem trivial _ rfl, S.arr _ (List.mem_of_getElem? hx3), ?_, fun {K} k => c38 S.prog (fun hn => ?_) fun s1 L1 s40 h42 G hs1 P42 e42 o42 _ mG lG n42 => ?_⟩
    · have h1 := ment_set (texts_get hx3)
      have := h1.length_eq
      rw [S.same, this]
      simp
    · rw [hx, hn] at hsm; cases hsm
    · have hLL : L1 = L := by rw [hs1, hx] at hsm; simpa using hsm
      subst hLL
      have hrb : ∀ b, RB p m1 m2 (letGo ρ x) b → RB p m1 m2 ρ b := by
        rintro b (z | z | z | ⟨y, hy, z⟩)
        · exact .inl z
        · exact .inr (.inl z)
        · exact .inr (.inr (.inl z))
        · obtain ⟨y', hy', e'⟩ := letGo_pay ρ x y hy
          exact .inr (.inr (.inr ⟨y', hy', by rw [e']; exact z⟩))
      have e42' : Ext0 h0 h42 := S.ext.trans' e42 fun i hi z => by
        have := S.newP i (by rcases z with z | z <;> simp [RB, z])
        omega
      have nb : ¬ (b = m1 ∨ b = m2) := fun z => S.ne (by rcases z with z | z <;> simp [RB, z])
      have M42 := S.held.ext e42 nb
      refine k s40 0 h42 (letGo ρ x) G rfl o42 lG mG ?_ (letGo_few ρ x) e42' P42 hrb M42 fun h' e M => ⟨⟨P42.ext e fun b' hb z => S.ne (by have z : b' = b := z; rw [← z]; exact hrb _ hb), ?_, hts, e42'.trans' e fun i hi z => ?_, fun b' hb => S.newP b' (hrb b' hb), S.newB, ?_, fun z => S.ne (hrb _ z)⟩, ?_⟩
      · have := congrArg List.length (letGo_rows ρ x); simpa using this
      · have hd := aliveP_del (k := 0) hx3
        rw [show (((0 : Nat) : Int) + ((x - 1).toNat : Int) + 1 : Int) = x by omega] at hd
        unfold letGo; rw [hx]
        show MapR h' b (.int .i64) (.one .slc) rF (aliveP 0 (η.set (x - 1).toNat ((s31, L1), false)))
        rw [hd]; exact M
      · have : i = b := z
        have := S.newB; omega
      · intro z hz
        obtain ⟨z', hz', e'⟩ := letGo_pay η x z hz
        rw [← e']; exact S.arr z' hz'
      · refine o42.ext e fun ⟨b', off, z1, z2⟩ => ?_
        have h1 := n42 b' off z1
        have z2 : b' = b := z2
        have := S.held.lt
        omega

end Go.V.Yteojmnnobmpdiaa
set_option linter.unusedVariables false
set_option linter.unusedSimpArgs false
/-! SnapsCounted. -/
namespace Go.V.Yteojmnnobmpdiaa
open Go Go.V Go.V.Snap

theorem told_or {x : Int} {l : List Int} {r : Nat} (h : r < l.length) (c : x ∈ l.take r) : true = decide (x ∈ l.take (r + 1)) := by
  rw [List.take_add_one]; exact (decide_eq_true (List.mem_append_left _ c)).symm
theorem told_new {x : Int} {l : List Int} {r : Nat} (h : r < l.length) (c : ¬ x ∈ l.take r) : (l[r] == x) = decide (x ∈ l.take (r + 1)) := by
  rw [List.take_add_one, List.getElem?_eq_getElem h, Bool.eq_iff_iff]
  simp only [beq_iff_eq, decide_eq_true_eq, List.mem_append, Option.toList_some, List.mem_singleton]
  exact ⟨fun e => .inr e.symm, fun e => e.elim (fun z => absurd z c) Eq.symm⟩

theorem c11 {h : Heap} {s : Slc} {l : List SAct} (a : Arr 4 aF h s l) (hl : l.length ≤ 4398046511000) (hq : ∀ x ∈ l, x.hand ≤ 9223372036854775807 ∧ 0 ≤ x.seq)
    {Ls : List (List Int)} (hLs : Ls.length = l.length) (hfl : ∀ (i : Nat) x L, l[i]? = some x → Ls[i]? = some L → Arr 1 uF h x.files L) (htot : (Ls.map List.length).sum ≤ 1048576) {R : Bool → Heap → Prop} (k : ∀ h', Ext0 h h' → R true h') :
    Call Go.Proofs.Try.prog 11 [.lf (.slc s)] h [.one .bool] R := by
  refine ok11 (c45 fun h1 e1 => Br.f rfl (c35 fun p m1 m2 h3 hp hm1 hm2 P3 e3 => Br.f rfl (NewM.mk fun b4 h5 hb4 hs5 e5 k5 => ?_)))
  have hlen : s.len = l.length := a.len
  have h01 := e1.size
  have h13 := e3.size
  have S0 : CW h h5 p m1 m2 b4 [] [] := by
    have hlt := P3.lt
    refine ⟨P3.ext0 e5, MapR.new k5, rfl, (e1.trans e3).trans e5, ?_, by omega, by simp, fun z => by have := hlt _ z; omega⟩
    rintro b (rfl | rfl | rfl | ⟨x, hx, _⟩)
    · omega
    · omega
    · omega
    · cases hx
  refine ⟨fun i hh n => ∃ (q : Nat) (ρ η : List ((Slc × List Int) × Bool)), i = q ∧ q ≤ l.length ∧ ρ.length ≤ q ∧ (ment (texts ρ)).length ≤ ((Ls.take q).map List.length).sum ∧ CW h hh p m1 m2 b4 ρ η ∧ n = l.length - q,
    ⟨_, 0, [], [], rfl, by omega, by simp, by simp [texts, ment], S0, rfl⟩, ?_⟩
  rintro _ h9 _ ⟨q, ρ, η, rfl, hql, hρ, hmn, S, rfl⟩
  rw [hlen]
  have hST := sum_take_le Ls
  have hSq := hST q
  refine Br.dec (fun hlt => ?_) fun hge => ?_
  · have hpl : q < l.length := by omega
    have hpL : q < Ls.length := by omega
    have hsum := sum_take hpL
    have hx := hq l[q] (List.getElem_mem hpl)
    have hget : l[q]? = some l[q] := by simp [hpl]
    have ax := hfl q l[q] Ls[q] hget (by simp [hpL])
    generalize l[q] = x at hx hget ax
    generalize Ls[q] = L at hsum ax
    have hLt : L.length ≤ 1048576 := by have := hST (q + 1); omega
    have next : ∀ (hh : Heap) (ρ' η' : List ((Slc × List Int) × Bool)), ρ'.length ≤ q + 1 → (ment (texts ρ')).length ≤ ((Ls.take (q + 1)).map List.length).sum → CW h hh p m1 m2 b4 ρ' η' → ∃ b27, b27 < l.length - q ∧ ∃ (q' : Nat) (ρ η : List ((Slc × List Int) × Bool)),
        IntKind.wrap .i64 ((q : Int) + 1) = q' ∧ q' ≤ l.length ∧ ρ.length ≤ q' ∧ (ment (texts ρ)).length ≤ ((Ls.take q').map List.length).sum ∧ CW h hh p m1 m2 b4 ρ η ∧ b27 = l.length - q' :=
      fun hh ρ' η' h1 h2 h3 => ⟨l.length - (q + 1), by omega, q + 1, ρ', η', by rw [wi64 (by omega) (by omega)]; omega, by omega, h1, h2, h3, rfl⟩
    have fc : ∀ {hh : Heap} {b off : Nat}, cellsAt h b off (aF x) → Ext0 h hh → cellsAt hh b (off + 3) [.slc x.files] := fun hb e => cellsAt.ext e id (show cellsAt h _ (_ + 3) [.slc x.files] from ⟨hb.2.2.2.1, trivial⟩)
    have kc : ∀ {hh : Heap} {b off : Nat}, cellsAt h b off (aF x) → Ext0 h hh → cellsAt hh b (off + 0) [.int .i64 x.kind] := fun hb e => cellsAt.ext e id (show cellsAt h _ (_ + 0) [.int .i64 x.kind] from ⟨hb.1, trivial⟩)
    have hc : ∀ {hh : Heap} {b off : Nat}, cellsAt h b off (aF x) → Ext0 h hh → cellsAt hh b (off + 1) [.int .i64 x.hand] := fun hb e => cellsAt.ext e id (show cellsAt h _ (_ + 1) [.int .i64 x.hand] from ⟨hb.2.1, trivial⟩)
    refine a.ix rfl hget fun b11 b12 hb11 => ⟨x.kind, kc hb11 S.ext, Br.eq (fun c => ?_) fun c => ?_⟩
    · refine a.ix rfl hget fun b14 b15 hb14 => ⟨x.files, fc hb14 S.ext, a.ix rfl hget fun b17 b18 hb17 => ⟨x.files, fc hb17 S.ext, New.mk fun b20 h21 hb20 hs21 e21 k21 => ?_⟩⟩
      have S21 := S.ext0 e21
      refine ⟨fc hb17 S21.ext, fc hb14 S21.ext, ?_⟩
      have o21 : Own 1 uF h21 ⟨some (b20, 0), 0, 0⟩ [] := Own.new (l := ([] : List Int)) uF_sized k21
      refine AppC.grow uF_sized (by omega) rfl o21 (ax.ext0 S21.ext) (by simp; omega) fun s22 h23 o22 g22 => ?_
      have ltP := S.prog.lt
      have ltB := S.held.lt
      have n22 : ∀ b off, s22.a = some (b, off) → h9.size ≤ b := by
        intro b off hb
        rcases g22.new with n | ⟨b', n, hb'⟩
        · rw [n] at hb; cases hb; omega
        · rw [n] at hb; cases hb; omega
      have e23 : Ext0 h9 h23 := e21.trans' g22.ext fun i hi ⟨off, z⟩ => by cases z; omega
      have S23 := S.ext0 e23
      have s23 := e23.size
      refine ⟨fc hb17 S23.ext, ?_⟩
      have o22' : Own 1 uF h23 s22 L := by simpa using o22
      have hST1 := hST (q + 1)
      refine c36 S23.prog (by omega) (o22'.arr uF_sized) (fun b off hb => ?_) (by omega) fun s' h25 P25 e25 n25 => ?_
      · have h1 := n22 b off hb
        have h2 := ltP p (.inl rfl)
        have h3 := ltP m1 (.inr (.inl rfl))
        have h4 := ltP m2 (.inr (.inr (.inl rfl)))
        exact ⟨by omega, by omega, by omega⟩
      have pm : ∀ b, (b = p ∨ b = m1 ∨ b = m2) → RB p m1 m2 ρ b := fun b z => by rcases z with z | z | z <;> simp [RB, z]
      have e25' : Ext0 h h25 := S23.ext.trans' e25 fun i hi z => by have := S.newP i (pm i z); omega
      have M25 := S23.held.ext e25 fun z => S.ne (pm _ z)
      have hno : ∀ y ∈ aliveP 0 η, y.1 ≠ (ρ.length : Int) + 1 := by
        rintro ⟨w, t⟩ hy hw
        obtain ⟨i, hi, hs⟩ := aliveP_mem.1 hy
        have hi2 : i < η.length := by
          rcases Nat.lt_or_ge i η.length with h | h
          · exact h
          · rw [List.getElem?_eq_none h] at hs; cases hs
        have h2 : ((0 : Nat) : Int) + (i : Int) + 1 = (ρ.length : Int) + 1 := hi.symm.trans hw
        have := S.len
        omega
      refine ⟨fc hb17 e25', M25.put klt (v := (x.files, L)) trivial rfl fun h26 hs26 M26 e26 => next h26 (ρ ++ [((s', L), true)]) (η ++ [((x.files, L), true)]) (by simp; omega) (by rw [texts_snoc, ment_snoc, List.length_append]; omega) ?_⟩
      rw [aput_new klt hno] at M26
      have hrb : ∀ b, RB p m1 m2 (ρ ++ [((s', L), true)]) b → RB p m1 m2 ρ b ∨ h9.size ≤ b := by
        rintro b (z | z | z | ⟨y, hy, z⟩)
        · exact .inl (.inl z)
        · exact .inl (.inr (.inl z))
        · exact .inl (.inr (.inr (.inl z)))
        · rcases List.mem_append.1 hy with hy | hy
          · exact .inl (.inr (.inr (.inr ⟨y, hy, z⟩)))
          · simp at hy
            subst hy
            obtain ⟨off, z⟩ := z
            have := n25 b off z
            exact .inr (by omega)
      have hneB : ¬ RB p m1 m2 (ρ ++ [((s', L), true)]) b4 := fun z => by
        rcases hrb _ z with z | z
        · exact S.ne z
        · omega
      have hs9 := S.ext.size
      refine ⟨P25.ext e26 fun b hb z => hneB (by have z : b = b4 := z; rw [← z]; exact hb), ?_, by rw [texts_snoc, texts_snoc, S.same], e25'.trans' e26 fun i hi z => by have : i = b4 := z; have := S.newB; omega, fun b hb => ?_, S.newB, fun z hz => ?_, hneB⟩
      · rw [aliveP_snoc, S.len]
        simpa using M26
      · rcases hrb b hb with z | z
        · exact S.newP b z
        · omega
      · rcases List.mem_append.1 hz with hz | hz
        · exact S.arr z hz
        · simp at hz
          subst hz
          exact ax
    · obtain ⟨s31, c32, L, hlook, aL, hLl, hcall⟩ := S.drop x.hand
      have h31 : s31.len = L.length := aL.len
      refine a.ix rfl hget fun b28 b29 hb28 => ⟨x.hand, hc hb28 S.ext, s31, c32, hlook, a.ix rfl hget fun b33 b34 hb33 => ⟨x.kind, kc hb33 S.ext, Br.ne (fun c1 => next h9 ρ η (by omega) (by omega) S) fun c1 => ?_⟩⟩
      refine a.ix rfl hget fun b37 b38 hb37 => ⟨x.hand, hc hb37 S.ext, hcall fun s40 i41 h42 ρ' G hc41 o42 lG mG hρ' hmn' e42 P42 hrb M42 hdel => ?_⟩
      refine Br.f hc41 (a.ix rfl hget fun b43 b44 hb43 => ⟨x.hand, hc hb43 e42, M42.del trivial fun h46 hs46 M46 e46 => ?_⟩)
      obtain ⟨S46, o46⟩ := hdel h46 e46 M46
      have h40 : s40.len = G.length := o46.len
      have a46 := o46.arr uF_sized
      have aL46 := aL.ext0 S46.ext
      have P46 := S46.prog
      refine ⟨fun i hh n => ∃ r : Nat, i = r ∧ r ≤ G.length ∧ h46 = hh ∧ n = G.length - r, ⟨_, 0, rfl, by omega, rfl, rfl⟩, ?_⟩
      rintro _ _ _ ⟨r, rfl, hr, rfl, rfl⟩
      rw [h40, h31]
      refine Br.dec (fun hlt2 => ?_) fun hge2 => ?_
      · have hrl : r < G.length := by omega
        have hin := (mG G[r]).1 (List.getElem_mem hrl)
        refine ⟨fun c i hh n => ∃ t : Nat, i = t ∧ t ≤ L.length ∧ h46 = hh ∧ c = decide (G[r] ∈ L.take t) ∧ n = L.length - t, ⟨_, 0, rfl, by omega, rfl, by simp, rfl⟩, ?_⟩
        rintro c54 _ _ _ ⟨t, rfl, ht, rfl, rfl, rfl⟩
        refine Br.dec (fun hlt3 => ?_) fun hge3 => ?_
        · have htl : t < L.length := by omega
          refine Br.mk (fun cc => ?_) fun cc => ?_
          · exact ⟨L.length - (t + 1), by omega, t + 1, by rw [wi64 (by omega) (by omega)]; omega, by omega, rfl, told_or htl (by simpa using cc), rfl⟩
          · exact aL46.ix rfl (getE htl) fun b off hb => ⟨_, hb, a46.ix rfl (getE hrl) fun b off hb => ⟨_, hb, L.length - (t + 1), by omega, t + 1, by rw [wi64 (by omega) (by omega)]; omega, by omega, rfl, told_new htl (by simpa using cc), rfl⟩⟩
        · have ht' : t = L.length := by omega
          subst ht'
          rw [List.take_length]
          refine Br.f (by simpa using hin.1) (a46.ix rfl (getE hrl) fun b off hb => ⟨_, hb, c43 P46 ?_⟩)
          rw [hin.2]
          exact Br.f (by decide) ⟨G.length - (r + 1), by omega, r + 1, by rw [wi64 (by omega) (by omega)]; omega, by omega, rfl, rfl⟩
      · refine ⟨fun i hh n => ∃ r : Nat, i = r ∧ r ≤ L.length ∧ h46 = hh ∧ n = L.length - r, ⟨_, 0, rfl, by omega, rfl, rfl⟩, ?_⟩
        rintro _ _ _ ⟨r, rfl, hr, rfl, rfl⟩
        refine Br.dec (fun hlt2 => ?_) fun hge3 => ?_
        · have hrl : r < L.length := by omega
          refine ⟨fun c i hh n => ∃ t : Nat, i = t ∧ t ≤ G.length ∧ h46 = hh ∧ c = decide (L[r] ∈ G.take t) ∧ n = G.length - t, ⟨_, 0, rfl, by omega, rfl, by simp, rfl⟩, ?_⟩
          rintro c54 _ _ _ ⟨t, rfl, ht, rfl, rfl, rfl⟩
          refine Br.dec (fun hlt3 => ?_) fun hge4 => ?_
          · have htl : t < G.length := by omega
            refine Br.mk (fun cc => ?_) fun cc => ?_
            · exact ⟨G.length - (t + 1), by omega, t + 1, by rw [wi64 (by omega) (by omega)]; omega, by omega, rfl, told_or htl (by simpa using cc), rfl⟩
            · exact a46.ix rfl (getE htl) fun b off hb => ⟨_, hb, aL46.ix rfl (getE hrl) fun b off hb => ⟨_, hb, G.length - (t + 1), by omega, t + 1, by rw [wi64 (by omega) (by omega)]; omega, by omega, rfl, told_new htl (by simpa using cc), rfl⟩⟩
          · have ht' : t = G.length := by omega
            subst ht'
            rw [List.take_length]
            refine aL46.ix rfl (getE hrl) fun b off hb => ⟨_, hb, c43 P46 (Br.f ?_ ⟨L.length - (r + 1), by omega, r + 1, by rw [wi64 (by omega) (by omega)]; omega, by omega, rfl, rfl⟩)⟩
            have hm := mG L[r]
            have hLr : L[r] ∈ L := List.getElem_mem hrl
            by_cases hz : cnt (texts ρ') L[r] = 0
            · rw [decide_eq_true (hm.2 ⟨hLr, hz⟩), hz]; rfl
            · rw [decide_eq_false fun z => hz (hm.1 z).2]
              have : ((cnt (texts ρ') L[r] : Int) == 0) = false := by simpa using hz
              rw [this]; rfl
        · exact next h46 ρ' (letGo η x.hand) (by omega) (by omega) S46
  · have hsame := congrArg (fun c => (ment c).length) S.same
    have hsame : (ment (texts ρ)).length = (ment (texts η)).length := hsame
    refine Iter.start S.held fun b98 h99 hb98 hs99 e99 I99 => ?_
    refine ⟨fun i hh n => ∃ seen rest, Iter hh b98 b4 (.int .i64) (.one .slc) rF (aliveP 0 η) seen ∧ Ext0 h9 hh ∧ (aliveP 0 η).Perm (seen ++ rest) ∧ i = ((seen.map fun x => x.2.2.length).sum : Nat) ∧ n = (aliveP 0 η).length - seen.length, ⟨_, [], aliveP 0 η, I99, e99, List.Perm.refl _, rfl, rfl⟩, ?_⟩
    rintro _ h103 _ ⟨seen, rest0, I103, e103, hp103, rfl, rfl⟩
    have hal := alive_sum η 0
    refine I103.next (fun hperm => ?_) fun y rest h122 hperm hs122 e122 I122 E122 => ⟨y.1, y.2.1, E122, ?_⟩
    · have hsum : (seen.map fun x => x.2.2.length).sum = (ment (texts η)).length := by rw [← hal]; exact (hperm.map _).sum_nat
      rw [hsum]
      refine c41 (S.prog.ext0 e103) fun s106 h107 N o107 hN mN lN f107 => ?_
      have h106 : s106.len = N.length := o107.len
      have a107 := o107.arr uF_sized
      have P107 := (S.prog.ext0 e103).ext0 f107.ext
      have hcs : (N.map fun f => cnt (texts ρ) f).sum = (ment (texts ρ)).length := sum_count (hN.imp fun h => by omega) fun x hx => (mN x).2 (List.count_pos_iff.2 hx)
      have hpart : ∀ t, t ≤ N.length → ((N.take t).map fun f => cnt (texts ρ) f).sum ≤ (N.map fun f => cnt (texts ρ) f).sum := by
        intro t _
        have : (N.map fun f => cnt (texts ρ) f).sum = ((N.take t).map fun f => cnt (texts ρ) f).sum + ((N.drop t).map fun f => cnt (texts ρ) f).sum := by
          rw [← List.sum_append, ← List.map_append, List.take_append_drop]
        omega
      refine ⟨fun tot i hh n => ∃ t : Nat, i = t ∧ t ≤ N.length ∧ h107 = hh ∧ tot = ((ment (texts η)).length : Int) - (((N.take t).map fun f => cnt (texts ρ) f).sum : Nat) ∧ n = N.length - t, ⟨_, 0, rfl, by omega, rfl, by simp, rfl⟩, ?_⟩
      rintro _ _ _ _ ⟨t, rfl, ht, rfl, rfl, rfl⟩
      rw [h106]
      refine Br.dec (fun hlt2 => ?_) fun hge2 => ?_
      · have htl : t < N.length := by omega
        refine a107.ix rfl (getE htl) fun b off hb => ⟨_, hb, c43 P107 ⟨N.length - (t + 1), by omega, t + 1, by rw [wi64 (by omega) (by omega)]; omega, by omega, rfl, ?_, rfl⟩⟩
        have h1 := hpart (t + 1) (by omega)
        have h2 : ((N.take (t + 1)).map fun f => cnt (texts ρ) f).sum = ((N.take t).map fun f => cnt (texts ρ) f).sum + cnt (texts ρ) N[t] := by
          rw [List.take_add_one, getE htl, List.map_append, List.sum_append]; simp
        rw [wi64 (by omega) (by omega)]
        omega
      · have ht' : t = N.length := by omega
        subst ht'
        rw [List.take_length, hcs, hsame, show (((ment (texts η)).length : Int) - ((ment (texts η)).length : Nat) == 0) = true by simp]
        exact k h107 ((S.ext.trans e103).trans f107.ext)
    · have hly : ((seen ++ [y]).map fun x => x.2.2.length).sum ≤ (ment (texts η)).length := by
        have h1 : ((aliveP 0 η).map fun x => x.2.2.length).sum = ((seen ++ y :: rest).map fun x => x.2.2.length).sum := (hperm.map _).sum_nat
        rw [hal] at h1
        rw [h1]
        simp only [List.map_append, List.map_cons, List.map_nil, List.sum_append, List.sum_cons, List.sum_nil]
        omega
      have hy : y ∈ aliveP 0 η := hperm.mem_iff.2 (by simp)
      have hyl : y.2.1.len = y.2.2.length := by
        obtain ⟨i, _, hs⟩ := aliveP_mem.1 (show (y.1, y.2) ∈ aliveP 0 η from hy)
        exact (S.arr _ (List.mem_of_getElem? hs)).len
      have hln : (aliveP 0 η).length = seen.length + (rest.length + 1) := by have := hperm.length_eq; simpa using this
      have hs2 : ((seen ++ [y]).map fun x => x.2.2.length).sum = (seen.map fun x => x.2.2.length).sum + y.2.2.length := by simp
      refine ⟨(aliveP 0 η).length - (seen ++ [y]).length, by simp; omega, seen ++ [y], rest, I122, e103.trans' e122 fun i hi w => by have : i = b98 := w; omega, by simpa using hperm, ?_, rfl⟩
      rw [hyl, hs2, wi64 (by omega) (by omega)]
      omega

end Go.V.Yteojmnnobmpdiaa
set_option linter.unusedVariables false
set_option linter.unusedSimpArgs false
/-! SnapsCounted, of all inputs of some bulk. -/
namespace Go.V.Yteojmnnobmpdiaa
open Go Go.V Go.V.Snap Go.ChangeShapes Go.WideShapes Go.Proofs.Yteojmnnobmpdiaa.Rows

set_option maxRecDepth 100000 in
theorem snapsCounted_lifted (os : Os) (started : os.Started) (H : Type) (enc : TypeId × Value → H) (F0 : Stop.Interp) :
    ReturnsInHanded {} Go.Proofs.Try.checked os 11 .any ((OpenSpec.upto snapsCountedSpec).pre6 enc Go.Proofs.Try.prog Go.Proofs.Try.f11 snapsCountedUptoRow.domain false)
      (((OpenSpec.upto snapsCountedSpec).at F0).post enc Go.Proofs.Try.prog Go.Proofs.Try.f11 false true false false) := by
  refine liftC (C := Go.Proofs.Try.checked) (k := uptoSmall) rfl (tb := 4) own22 started (by kernel_rfl) Go.Proofs.Try.func11
    (OpenSpec.witness (enc := enc) (C := Go.Proofs.Try.checked) (s := OpenSpec.upto snapsCountedSpec) (k := uptoSmall) rfl false ⟨#[], #[.slice none 0 0], []⟩ 8 (by kernel_rfl) (by kernel_rfl) (by kernel_rfl)
      (x := ([.nil], [], [])) (by kernel_rfl) (by kernel_rfl) (by kernel_rfl))
    laid22 rfl (by kernel_rfl) (by kernel_rfl) (by kernel_rfl) ?_ ?_
  · intro ds hds
    rw [Go.Proofs.Try.params11] at hds
    match ds, hds with
    | [d1], _ => rfl
  · intro W base args ds p hval hA hz hk _
    rw [Go.Proofs.Try.params11] at hA hval
    obtain ⟨v0, d0, p0, rfl, rfl, h0⟩ : ∃ v0 d0 p0, args = #[v0] ∧ ds = [d0] ∧ DataW.Trod enc Go.Proofs.Try.prog W 0 (fun _ => true) true 69 v0 d0 p0 := by
      obtain ⟨v, vs, d, ds', p, q, hv, rfl, _, h1, h2⟩ := trodAll_cons hA
      obtain ⟨rfl, rfl, _⟩ := trodAll_nil h2
      exact ⟨v, d, p, Array.toList_inj.1 hv, rfl, h1⟩
    obtain ⟨s1, l1, Ls, rfl, a1, o1, n1, hLs, hfl, ht⟩ := snaps_openB (hval 0 69 v0 rfl rfl) h0 hk
    exact Call.calls (args := [.lf (.slc s1)]) rfl (c11 a1 (by omega) o1 hLs hfl ht fun h' e => ⟨rfl, e⟩)

theorem snapsCounted_holds : SnapsCountedUptoSaid :=
  OpenClaim.holds_of_cond 11 Go.Proofs.Try.f11 rfl rfl rfl rfl rfl rfl rfl ⟨rfl, rfl, rfl, rfl, rfl⟩ rfl rfl rfl rfl rfl (by kernel_rfl) Go.Proofs.Try.func11 (by kernel_rfl)
    (of_decide_eq_true (by kernel_rfl)) (by unfold Func.isWrapper; first | (rw [if_pos (by decide +kernel)]; kernel_rfl) | (rw [if_neg (by decide +kernel)]; exact ⟨rfl, rfl⟩))
    (fun os started H enc _ F0 => snapsCounted_lifted os started H enc F0)

end Go.V.Yteojmnnobmpdiaa
