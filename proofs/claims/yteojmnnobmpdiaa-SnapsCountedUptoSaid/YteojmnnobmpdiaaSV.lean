/- This text proves a part of the laws of seat Yteojmnnobmpdiaa, under no condition: X23a T8 X23b. -/
import Derived.Test.YteojmnnobmpdiaaSU
import Derived.Test.YteojmnnobmpdiaaSM
import Derived.Test.YteojmnnobmpdiaaSC
import Derived.Eval
import Derived.Test.YteojmnnobmpdiaaChecked
import Derived.Test.YteojmnnobmpdiaaSE
set_option linter.unusedVariables false
set_option linter.unusedSimpArgs false
/-! SnapsRefs: both kept together. -/
namespace Go.V.Yteojmnnobmpdiaa
open Go Go.V Go.V.Snap

/-- make, empty, with room. -/
theorem mkEmpty {α : Type} {sz bytes : Nat} {f : α → List Lf} {e : TypeId} {zc : List Lf} (hz : zc.length = sz) {n : Nat} {j : Int} (hj : j = n) (hb : bytes * n ≤ 140737488355328) (hn : n ≤ 140737488355328) {h : Heap} {K : Slc → Heap → Prop}
    (k : ∀ s h', Own sz f h' s ([] : List α) → s.a = some (h.size, 0) → Ext0 h h' → K s h') : MkC e zc sz bytes 0 j h K := by
  subst hj
  have hc : ((bytes : Int) * (n : Int)) = ((bytes * n : Nat) : Int) := by simp
  refine ⟨by omega, by omega, by omega, by rw [hc]; omega, ?_⟩
  rintro b h' rfl rfl
  refine k _ _ ⟨rfl, by simp, .inr ⟨_, _, e, rfl, by simp; rfl, ?_, by simp⟩, rfl⟩ rfl (push_ext h _)
  rw [zeroCells_size]; simp [hz]

/-- Both in memory, alike. -/
structure RW (h0 h : Heap) (p m1 m2 d : Nat) (sl sh : Slc) (ρp ρd : List ((Slc × List Int) × Bool)) : Prop where
  prog : RF h p m1 m2 ρp
  doc : DF h d sl sh ρd
  same : texts ρp = texts ρd
  sep : ∀ b, FB d sl sh ρd b → ¬ RB p m1 m2 ρp b
  ext : Ext0 h0 h
  newP : ∀ b, RB p m1 m2 ρp b → h0.size ≤ b
  newD : ∀ b, FB d sl sh ρd b → h0.size ≤ b

theorem RW.len {h0 h : Heap} {p m1 m2 d : Nat} {sl sh : Slc} {ρp ρd : List ((Slc × List Int) × Bool)} (S : RW h0 h p m1 m2 d sl sh ρp ρd) : ρp.length = ρd.length := by
  have := congrArg List.length S.same
  simpa [texts] using this

theorem RF.lt {h : Heap} {p m1 m2 : Nat} {ρ : List ((Slc × List Int) × Bool)} (L : RF h p m1 m2 ρ) : ∀ b, RB p m1 m2 ρ b → b < h.size := by
  rintro b (rfl | rfl | rfl | ⟨x, hx, off, hb⟩)
  · exact L.blk.lt
  · exact L.by_.lt
  · exact L.times.lt
  · exact ((L.arr x hx).2 b off hb).2.2.2
theorem DF.lt {h : Heap} {d : Nat} {sl sh : Slc} {ρ : List ((Slc × List Int) × Bool)} (L : DF h d sl sh ρ) : ∀ b, FB d sl sh ρ b → b < h.size := by
  rintro b (rfl | ⟨off, hb⟩ | ⟨off, hb⟩ | ⟨x, hx, off, hb⟩)
  · exact L.blk.lt
  · exact (L.rows.lt _ _ hb).1
  · exact (L.held.lt _ _ hb).1
  · exact ((L.arr x hx).2 b off hb).2.2.2

theorem RW.ext0 {h0 h h' : Heap} {p m1 m2 d : Nat} {sl sh : Slc} {ρp ρd : List ((Slc × List Int) × Bool)} (S : RW h0 h p m1 m2 d sl sh ρp ρd) (e : Ext0 h h') : RW h0 h' p m1 m2 d sl sh ρp ρd :=
  ⟨S.prog.ext0 e, S.doc.ext0 e, S.same, S.sep, S.ext.trans e, S.newP, S.newD⟩

/-- A step of the program's, then one of the document's; scratch between them is not theirs. -/
theorem RW.both {h0 h h1 h2 h3 : Heap} {p m1 m2 d : Nat} {sl sh sl' sh' : Slc} {ρp ρd ρp' ρd' : List ((Slc × List Int) × Bool)} (S : RW h0 h p m1 m2 d sl sh ρp ρd)
    (P1 : RF h1 p m1 m2 ρp') (e1 : Ext (fun b => b = p ∨ b = m1 ∨ b = m2) h h1) (subP : ∀ b, RB p m1 m2 ρp' b → RB p m1 m2 ρp b ∨ h.size ≤ b)
    (e2 : Ext0 h1 h2) (D3 : DF h3 d sl' sh' ρd') (e3 : Ext (FW d sl sh) h2 h3) (subD : ∀ b, FB d sl' sh' ρd' b → FB d sl sh ρd b ∨ h2.size ≤ b) (hs : texts ρp' = texts ρd') : RW h0 h3 p m1 m2 d sl' sh' ρp' ρd' := by
  have lp := S.prog.lt
  have ld := S.doc.lt
  have lp1 := P1.lt
  have s1 := e1.size
  have s2 := e2.size
  have s0 := S.ext.size
  have inFB : ∀ b, FW d sl sh b → FB d sl sh ρd b := fun b hb => hb.imp id fun x => x.imp id fun y => .inl y
  refine ⟨(P1.ext0 e2).ext e3 fun b hb hx => ?_, D3, hs, fun b hb hx => ?_, ((S.ext.trans' e1 fun i hi x => ?_).trans e2).trans' e3 fun i hi x => ?_, fun b hb => ?_, fun b hb => ?_⟩
  · rcases subP b hb with h4 | h4
    · exact S.sep b (inFB b hx) h4
    · have := ld b (inFB b hx); omega
  · rcases subD b hb with h4 | h4
    · rcases subP b hx with h5 | h5
      · exact S.sep b h4 h5
      · have := ld b h4; omega
    · have := lp1 b hx; omega
  · have h4 := S.newP i (by rcases x with x | x | x <;> simp [RB, x])
    omega
  · have := S.newD i (inFB i x); omega
  · rcases subP b hb with h4 | h4
    · exact S.newP b h4
    · omega
  · rcases subD b hb with h4 | h4
    · exact S.newD b h4
    · omega

theorem hgot_same {ρ ρ' : List ((Slc × List Int) × Bool)} (h : texts ρ = texts ρ') (x : Int) : (hgot ρ x).map (·.2) = (hgot ρ' x).map (·.2) := by
  unfold hgot
  split
  · have e : (texts ρ)[(x - 1).toNat]? = (texts ρ')[(x - 1).toNat]? := by rw [h]
    unfold texts at e
    rw [List.getElem?_map, List.getElem?_map] at e
    cases h1 : ρ[(x - 1).toNat]? with
    | none =>
      rw [h1] at e
      cases h2 : ρ'[(x - 1).toNat]? with
      | none => rfl
      | some w => rw [h2] at e; cases e
    | some v =>
      rw [h1] at e
      cases h2 : ρ'[(x - 1).toNat]? with
      | none => rw [h2] at e; cases e
      | some w =>
        rw [h2] at e
        obtain ⟨⟨v1, v2⟩, v3⟩ := v
        obtain ⟨⟨w1, w2⟩, w3⟩ := w
        simp at e
        obtain ⟨rfl, rfl⟩ := e
        cases v3 <;> rfl
  · rfl

theorem letGo_texts (ρ : List ((Slc × List Int) × Bool)) (x : Int) : texts (letGo ρ x) = match (hgot ρ x).map (·.2) with | some L => (texts ρ).set (x - 1).toNat (L, false) | none => texts ρ := by
  unfold letGo
  cases hgot ρ x with
  | none => rfl
  | some y => exact texts_set _ _ _ _

theorem letGo_same {ρ ρ' : List ((Slc × List Int) × Bool)} (h : texts ρ = texts ρ') (x : Int) : texts (letGo ρ x) = texts (letGo ρ' x) := by
  rw [letGo_texts, letGo_texts, hgot_same h, h]

theorem letGo_pay (ρ : List ((Slc × List Int) × Bool)) (x : Int) : ∀ z ∈ letGo ρ x, ∃ z' ∈ ρ, z'.1 = z.1 := by
  intro z hz
  have : z.1 ∈ (letGo ρ x).map (·.1) := List.mem_map.2 ⟨z, hz, rfl⟩
  rw [letGo_rows] at this
  exact List.mem_map.1 this

end Go.V.Yteojmnnobmpdiaa
set_option linter.unusedVariables false
set_option maxRecDepth 100000
namespace Go.V.Yteojmnnobmpdiaa
open Go Go.V
/- 8: sediment.sedimentlaw22.SnapsRefs () · blk 1:  · blk 2:  · seq 22: #83 · loop 5: #5 · loop 13: #9 -/
def pl8 : Plan := {
  blk := fun | 1 => some ⟨[], [], []⟩ | 2 => some ⟨[], [], []⟩ | _ => none
  seq := fun | 22 => some ⟨[(83, .one .bool)], [], []⟩ | _ => none
  loop := fun | 5 => some ⟨[(5, .one (.int .i64))], [], []⟩ | 13 => some ⟨[(9, .one (.int .i64))], [], []⟩ | _ => none
  live := fun | 0 => some [0] | 1 => some [0, 3, 4] | 2 => some [0, 3, 4, 18] | 3 => some [2] | 4 => some [0, 3, 4, 5] | 5 => some [0, 3, 4, 5, 22] | 6 => some [0, 3, 4, 5] | 7 => some [0, 3, 4, 5, 6] | 8 => some [0, 3, 4, 5, 6, 30] | 9 => some [0, 3, 4, 5, 6, 30, 31] | 10 => some [0, 3, 4, 5, 6, 7] | 11 => some [0, 3, 4, 5, 6, 7, 8] | 12 => some [0, 3, 4, 5, 6, 7, 8, 9] | 13 => some [0, 3, 4, 5, 6, 7, 8, 9, 47] | 14 => some [0, 3, 4, 5, 6, 7, 8, 9] | 15 => some [0, 3, 4, 5, 6, 7, 8, 9] | 16 => some [0, 3, 4, 5, 6, 58] | 17 => some [2] | 18 => some [0, 3, 4, 5, 6, 59] | 19 => some [0, 3, 4, 5, 6, 10, 11] | 20 => some [0, 3, 4, 5, 6, 10, 11, 12, 13] | 21 => some [0, 3, 4, 5, 6, 83] | 22 => some [2] | 23 => some [0, 3, 4, 5, 100] | 24 => some [2] | 25 => some [2] | _ => none
  track := fun | 6 => true | _ => false
  draw := fun | 10 => .still 0 (.still 1 (.still 2 (.still 3 (.still 5 (.still 6 (.mem 4 (.mem 7 (.still 8 (.done))))))))) | 23 => .still 0 (.still 2 (.mem 1 (.mem 3 (.mem 4 (.still 5 (.still 6 (.still 7 (.still 8 (.still 9 (.still 11 (.still 12 (.still 13 (.mem 10 (.mem 14 (.still 15 (.still 16 (.done))))))))))))))))) | 25 => .still 0 (.still 3 (.still 4 (.still 5 (.still 6 (.still 7 (.still 8 (.mem 1 (.mem 2 (.still 9 (.still 10 (.still 11 (.still 13 (.mem 12 (.mem 14 (.still 15 (.still 16 (.still 17 (.still 18 (.done))))))))))))))))))) | _ => .done
  iter := fun | _ => none }
def vc8 (a0 : Slc) (h : Heap) (R : Bool → Heap → Prop) : Prop :=
  Call Go.Proofs.Try.prog 35 [] h [VT.one LT.ptr] fun (p0 : Option (Nat × Nat)) (h1 : Heap) =>
    New 76 [Lf.slc (Slc.mk Option.none 0 0), Lf.slc (Slc.mk Option.none 0 0)] h1 fun (b2 : Nat) (h3 : Heap) =>
      Br (Option.isNone p0) (R Bool.false h3)
        (∃ (I4 : Int → Heap → Nat → Prop),
          (∃ (b5 : Nat), I4 (0 : Int) h3 b5) ∧
            ∀ (i6 : Int) (h7 : Heap) (b8 : Nat),
              I4 i6 h7 b8 →
                Br (Decidable.decide (i6 < (↑(Slc.len a0) : Int)))
                  (∃ (I9 : Heap → Prop),
                    (IxC a0 i6 4 fun (b10 b11 : Nat) =>
                        ∃ (i12 : Int),
                          ∃ (i13 : Int),
                            ∃ (i14 : Int),
                              ∃ (s15 : Slc),
                                cellsAt h7 b10 b11 [Lf.int IntKind.i64 i12, Lf.int IntKind.i64 i13, Lf.int IntKind.u64 i14, Lf.slc s15] ∧
                                  New 79
                                    [Lf.int IntKind.i64 (0 : Int), Lf.int IntKind.i64 (0 : Int), Lf.int IntKind.u64 (0 : Int),
                                      Lf.slc (Slc.mk Option.none 0 0)]
                                    h7 fun (b16 : Nat) (h17 : Heap) =>
                                    Set b16 79 [Lf.int IntKind.i64 i12, Lf.int IntKind.i64 i13, Lf.int IntKind.u64 i14, Lf.slc s15] h17
                                      fun (h18 : Heap) =>
                                      ∃ (I19 : Heap → Prop),
                                        Br (i12 == (3 : Int))
                                            (MkC 22 [Lf.int IntKind.u64 (0 : Int)] 1 8 (0 : Int)
                                              (IntKind.wrap IntKind.i64 ((↑(Slc.len s15) : Int) + (1 : Int))) h18 fun (s20 : Slc) (h21 : Heap) =>
                                              AppC 22 [Lf.int IntKind.u64 (0 : Int)] 1 8 s20 s15 h21 fun (s22 : Slc) (h23 : Heap) =>
                                                keepB h21 h23 [b16] ∧
                                                  Call Go.Proofs.Try.prog 36 [VV.lf (Lf.ptr p0), VV.lf (Lf.slc s22)] h23 [VT.one (LT.int IntKind.i64)]
                                                    fun (i24 : Int) (h25 : Heap) =>
                                                    keepB h23 h25 [b16] ∧
                                                      ∃ (I26 : Int → Heap → Nat → Prop),
                                                        (∃ (b27 : Nat), I26 (0 : Int) h25 b27) ∧
                                                          ∀ (i28 : Int) (h29 : Heap) (b30 : Nat),
                                                            I26 i28 h29 b30 →
                                                              Br (Decidable.decide (i28 < (↑(Slc.len s22) : Int)))
                                                                (IxC s22 i28 1 fun (b31 b32 : Nat) =>
                                                                  StC h29 b31 b32 [Lf.int IntKind.u64 (77 : Int)] fun (h33 : Heap) =>
                                                                    keepB h29 h33 [b16] ∧ ∃ (b34 : Nat), b34 < b30 ∧ I26 (IntKind.wrap IntKind.i64 (i28 + (1 : Int))) h33 b34)
                                                                (Call Go.Proofs.Try.prog 37 [VV.lf (Lf.ptr (Option.some (b2, 0))), VV.lf (Lf.slc s15)] h29
                                                                  [VT.one (LT.int IntKind.i64)] fun (i35 : Int) (h36 : Heap) =>
                                                                  keepB h29 h36 [b16] ∧ Br (i24 != i35) (R Bool.false h36) (I19 h36)))
                                            (Br (i12 == (4 : Int))
                                              (Call Go.Proofs.Try.prog 38 [VV.lf (Lf.ptr p0), VV.lf (Lf.int IntKind.i64 i13)] h18
                                                [VT.one LT.slc, VT.one (LT.int IntKind.i64)] fun (s37 : Slc) (i38 : Int) (h39 : Heap) =>
                                                keepB h18 h39 [b16] ∧
                                                  Call Go.Proofs.Try.prog 39 [VV.lf (Lf.ptr (Option.some (b2, 0))), VV.lf (Lf.int IntKind.i64 i13)] h39
                                                    [VT.one LT.slc, VT.one (LT.int IntKind.i64)] fun (s40 : Slc) (i41 : Int) (h42 : Heap) =>
                                                    keepB h39 h42 [b16] ∧
                                                      ∃ (I43 : Bool → Heap → Prop),
                                                        (Call Go.Proofs.Try.prog 40 [VV.lf (Lf.slc s37), VV.lf (Lf.slc s40)] h42 [VT.one LT.bool]
                                                            fun (c44 : Bool) (h45 : Heap) => keepB h42 h45 [b16] ∧ Br (!c44) (I43 Bool.true h45) (I43 (i38 != i41) h45)) ∧
                                                          ∀ (c46 : Bool) (h47 : Heap), I43 c46 h47 → Br c46 (R Bool.false h47) (I19 h47))
                                              (I19 h18)) ∧
                                          ∀ (h48 : Heap),
                                            I19 h48 →
                                              Call Go.Proofs.Try.prog 41 [VV.lf (Lf.ptr p0)] h48 [VT.one LT.slc] fun (s49 : Slc) (h50 : Heap) =>
                                                keepB h48 h50 [b16] ∧
                                                  Call Go.Proofs.Try.prog 42 [VV.lf (Lf.ptr (Option.some (b2, 0)))] h50 [VT.one LT.slc]
                                                    fun (s51 : Slc) (h52 : Heap) =>
                                                    keepB h50 h52 [b16] ∧
                                                      Call Go.Proofs.Try.prog 40 [VV.lf (Lf.slc s49), VV.lf (Lf.slc s51)] h52 [VT.one LT.bool]
                                                        fun (c53 : Bool) (h54 : Heap) =>
                                                        keepB h52 h54 [b16] ∧
                                                          Br (!c53) (R Bool.false h54)
                                                            (Call Go.Proofs.Try.prog 43 [VV.lf (Lf.ptr p0), VV.lf (Lf.int IntKind.u64 i14)] h54
                                                              [VT.one (LT.int IntKind.i64)] fun (i55 : Int) (h56 : Heap) =>
                                                              keepB h54 h56 [b16] ∧
                                                                Call Go.Proofs.Try.prog 44
                                                                  [VV.lf (Lf.ptr (Option.some (b2, 0))), VV.lf (Lf.int IntKind.u64 i14)] h56
                                                                  [VT.one (LT.int IntKind.i64)] fun (i57 : Int) (h58 : Heap) =>
                                                                  keepB h56 h58 [b16] ∧ Br (i55 != i57) (R Bool.false h58) (I9 h58))) ∧
                      ∀ (h59 : Heap), I9 h59 → ∃ (b60 : Nat), b60 < b8 ∧ I4 (IntKind.wrap IntKind.i64 (i6 + (1 : Int))) h59 b60)
                  (∃ (s61 : Slc),
                    cellsAt h7 b2 0 [Lf.slc s61] ∧
                      New 22 [Lf.int IntKind.u64 (4 : Int)] h7 fun (b62 : Nat) (h63 : Heap) =>
                        cellsAt h63 b2 0 [Lf.slc s61] ∧
                          Call Go.Proofs.Try.prog 36 [VV.lf (Lf.ptr p0), VV.lf (Lf.slc (Slc.mk (Option.some (b62, 0)) 1 1))] h63
                            [VT.one (LT.int IntKind.i64)] fun (i64 : Int) (h65 : Heap) =>
                            cellsAt h65 b2 0 [Lf.slc s61] ∧
                              Br (i64 == IntKind.wrap IntKind.i64 ((↑(Slc.len s61) : Int) + (1 : Int)))
                                (Call Go.Proofs.Try.prog 43 [VV.lf (Lf.ptr p0), VV.lf (Lf.int IntKind.u64 (4 : Int))] h65 [VT.one (LT.int IntKind.i64)]
                                  fun (i66 : Int) (h67 : Heap) =>
                                  Call Go.Proofs.Try.prog 44 [VV.lf (Lf.ptr (Option.some (b2, 0))), VV.lf (Lf.int IntKind.u64 (4 : Int))] h67
                                    [VT.one (LT.int IntKind.i64)] fun (i68 : Int) (h69 : Heap) => R (i66 == IntKind.wrap IntKind.i64 (i68 + (1 : Int))) h69)
                                (R Bool.false h65)))
theorem eq8 (a0 : Slc) (h : Heap) (R : Bool → Heap → Prop) : vc8 a0 h R = vcFn Go.Proofs.Try.prog pl8 Go.Proofs.Try.f8 [.lf (.slc a0)] h [.one .bool] R := by kernel_rfl
theorem ok8 {a0 : Slc} {h : Heap} {R : Bool → Heap → Prop} (hv : vc8 a0 h R) : Call Go.Proofs.Try.prog 8 [.lf (.slc a0)] h [.one .bool] R := call_eq hng hmix Go.Proofs.Try.func8 (eq8 a0 h R) hv
end Go.V.Yteojmnnobmpdiaa
set_option linter.unusedVariables false
set_option linter.unusedSimpArgs false
/-! SnapsRefs. -/
namespace Go.V.Yteojmnnobmpdiaa
open Go Go.V Go.V.Snap

theorem sum_take {Ls : List (List Int)} {q : Nat} (hq : q < Ls.length) : ((Ls.take (q + 1)).map List.length).sum = ((Ls.take q).map List.length).sum + Ls[q].length := by
  rw [List.take_add_one, show Ls[q]? = some Ls[q] by simp [hq], List.map_append, List.sum_append]
  simp
theorem sum_take_le (Ls : List (List Int)) (q : Nat) : ((Ls.take q).map List.length).sum ≤ (Ls.map List.length).sum := by
  have : (Ls.map List.length).sum = ((Ls.take q).map List.length).sum + ((Ls.drop q).map List.length).sum := by
    rw [← List.sum_append, ← List.map_append, List.take_append_drop]
  omega

theorem RW.extS {h0 h h' : Heap} {p m1 m2 d : Nat} {sl sh : Slc} {ρp ρd : List ((Slc × List Int) × Bool)} (W : RW h0 h p m1 m2 d sl sh ρp ρd) {S : Nat → Prop} (e : Ext S h h') (hP : ∀ b, RB p m1 m2 ρp b → ¬ S b) (hD : ∀ b, FB d sl sh ρd b → ¬ S b) (h00 : ∀ i, i < h0.size → ¬ S i) :
    RW h0 h' p m1 m2 d sl sh ρp ρd :=
  ⟨W.prog.ext e hP, W.doc.ext e hD, W.same, W.sep, W.ext.trans' e fun i hi x => (h00 i hi x).elim, W.newP, W.newD⟩

theorem c8 {h : Heap} {s : Slc} {l : List SAct} (a : Arr 4 aF h s l) (hl : l.length ≤ 4398046511000) (hq : ∀ x ∈ l, x.hand ≤ 9223372036854775807 ∧ 0 ≤ x.seq)
    {Ls : List (List Int)} (hLs : Ls.length = l.length) (hfl : ∀ (i : Nat) x L, l[i]? = some x → Ls[i]? = some L → Arr 1 uF h x.files L) (htot : (Ls.map List.length).sum ≤ 1048576) {R : Bool → Heap → Prop} (k : ∀ h', Ext0 h h' → R true h') :
    Call Go.Proofs.Try.prog 8 [.lf (.slc s)] h [.one .bool] R := by
  refine ok8 (c35 fun p m1 m2 h1 hp hm1 hm2 P1 e1 => New.mk fun d h3 hd hs3 e3 k3 => Br.f rfl ?_)
  have hlen : s.len = l.length := a.len
  have S0 : RW h h3 p m1 m2 d ⟨none, 0, 0⟩ ⟨none, 0, 0⟩ [] [] := by
    have hlt := P1.lt
    have := e1.size
    refine ⟨P1.ext0 e3, ⟨k3, Own.nil _ _ _, Own.nil _ _ _, by simp, (fun ⟨off, e⟩ => by cases e), (fun ⟨off, e⟩ => by cases e), (fun b ⟨off, e⟩ => by cases e), by simp, by simp [texts, ment], by simp⟩, rfl, ?_, e1.trans e3, ?_, ?_⟩
    · rintro b (rfl | ⟨off, x⟩ | ⟨off, x⟩ | ⟨x, hx, _⟩) hr
      · have := hlt _ hr; omega
      · cases x
      · cases x
      · cases hx
    · rintro b (rfl | rfl | rfl | ⟨x, hx, _⟩)
      · exact hp
      · exact hm1
      · exact hm2
      · cases hx
    · rintro b (rfl | ⟨off, x⟩ | ⟨off, x⟩ | ⟨x, hx, _⟩)
      · omega
      · cases x
      · cases x
      · cases hx
  refine ⟨fun i hh n => ∃ (q : Nat) (ρp ρd : List ((Slc × List Int) × Bool)) (sl sh : Slc), i = q ∧ q ≤ l.length ∧ ρp.length ≤ q ∧ (ment (texts ρp)).length ≤ ((Ls.take q).map List.length).sum ∧ RW h hh p m1 m2 d sl sh ρp ρd ∧ n = l.length - q,
    ⟨_, 0, [], [], _, _, rfl, by omega, by simp, by simp [texts, ment], S0, rfl⟩, ?_⟩
  rintro _ h7 _ ⟨q, ρp, ρd, sl, sh, rfl, hql, hρ, hmn, S, rfl⟩
  rw [hlen]
  have hST := sum_take_le Ls
  refine Br.dec (fun hlt => ?_) fun hge => ?_
  · have hpl : q < l.length := by omega
    have hpL : q < Ls.length := by omega
    have hsum := sum_take hpL
    have hx := hq l[q] (List.getElem_mem hpl)
    have hget : l[q]? = some l[q] := by simp [hpl]
    have ax := hfl q l[q] Ls[q] hget (by simp [hpL])
    generalize l[q] = x at hx hget ax
    generalize Ls[q] = L at hsum ax
    have hLt : L.length ≤ 1048576 := by have := hST (q + 1); omega
    have hxl : x.files.len = L.length := ax.len
    refine ⟨fun hh => ∃ (ρp ρd : List ((Slc × List Int) × Bool)) (sl sh : Slc), ρp.length ≤ q + 1 ∧ (ment (texts ρp)).length ≤ ((Ls.take (q + 1)).map List.length).sum ∧ RW h hh p m1 m2 d sl sh ρp ρd, ?_, ?_⟩
    · refine (a.ext0 S.ext).ix rfl hget fun b off hb => ⟨_, _, _, _, hb, New.mk fun b16 h17 hb16 hs17 e17 k17 => Set.mk fun h18 hs18 e18 k18 => ?_⟩
      have eT : Ext0 h7 h18 := Ext.tmp e17 e18 (by omega)
      have S18 := S.ext0 eT
      have ltP := S.prog.lt
      have ltD := S.doc.lt
      have n16 : b16 < h18.size := by omega
      have np16 : ¬ RB p m1 m2 ρp b16 := fun z => by have := ltP _ z; omega
      have nd16 : ¬ FB d sl sh ρd b16 := fun z => by have := ltD _ z; omega
      have ax18 := ax.ext0 S18.ext
      obtain ⟨I, hI⟩ : ∃ I : Heap → Prop, ∀ hh, I hh ↔ (b16 < hh.size ∧ ∃ (ρp ρd : List ((Slc × List Int) × Bool)) (sl sh : Slc), ρp.length ≤ q + 1 ∧ (ment (texts ρp)).length ≤ ((Ls.take (q + 1)).map List.length).sum ∧ RW h hh p m1 m2 d sl sh ρp ρd) := ⟨_, fun _ => Iff.rfl⟩
      refine ⟨I, Br.eq (fun c => ?_) fun c => Br.eq (fun c1 => ?_) fun c1 => (hI _).2 ⟨n16, ρp, ρd, sl, sh, by omega, by omega, S18⟩, ?_⟩
      · rw [hxl, wi64 (by omega) (by omega)]
        have hb18 : b16 < h18.size := n16
        refine mkEmpty (f := uF) (n := L.length + 1) rfl (by push_cast; omega) (by omega) (by omega) fun s20 h21 o20 ha20 e21 => ?_
        refine AppC.grow uF_sized (by omega) rfl o20 (ax18.ext0 e21) (by simp; omega) fun s22 h23 o22 g22 => ?_
        have s21 := e21.size
        have n22 : ∀ b, inS s22 b → h18.size ≤ b := by
          rintro b ⟨off, hb⟩
          rcases g22.new with n | ⟨b', n, hb'⟩
          · rw [n, ha20] at hb; cases hb; exact Nat.le_refl _
          · rw [n] at hb; cases hb; omega
        have e23 : Ext0 h18 h23 := e21.trans' g22.ext fun i hi ⟨off, z⟩ => by rw [ha20] at z; cases z; omega
        have S23 := S18.ext0 e23
        have s23 := e23.size
        have hST1 := hST (q + 1)
        have o22' : Own 1 uF h23 s22 L := by simpa using o22
        refine ⟨g22.ext.keep (by omega) fun ⟨off, z⟩ => by rw [ha20] at z; cases z; omega, ?_⟩
        refine c36 S23.prog (by omega) (o22'.arr uF_sized) (fun b off hb => ?_) (by omega) fun s' h25 P25 e25 n25 => ?_
        · have h1 := n22 b ⟨off, hb⟩
          have h2 := ltP p (.inl rfl)
          have h3 := ltP m1 (.inr (.inl rfl))
          have h4 := ltP m2 (.inr (.inr (.inl rfl)))
          exact ⟨by omega, by omega, by omega⟩
        have pm : ∀ b, (b = p ∨ b = m1 ∨ b = m2) → RB p m1 m2 ρp b := fun b z => by rcases z with z | z | z <;> simp [RB, z]
        have s25 := e25.size
        refine ⟨e25.keep (by omega) fun z => np16 (pm _ z), ?_⟩
        have o25 : Own 1 uF h25 s22 L := o22'.ext e25 fun ⟨b, off, h1, h2⟩ => by have := n22 b ⟨off, h1⟩; have := ltP b (pm b h2); omega
        have hl22 : s22.len = L.length := o22'.len
        refine ⟨fun i hh n => ∃ (r : Nat) (A : List Int), i = r ∧ r ≤ L.length ∧ Own 1 uF hh s22 A ∧ A.length = L.length ∧ Ext (inS s22) h25 hh ∧ n = L.length - r, ⟨_, 0, L, rfl, by omega, o25, rfl, Ext.refl _ _, rfl⟩, ?_⟩
        rintro _ h29 _ ⟨r, A, rfl, hr, oA, hA, x29, rfl⟩
        have s29 := x29.size
        rw [hl22]
        refine Br.dec (fun hlt2 => ?_) fun hge2 => ?_
        · refine IxC.set uF_sized oA (k := r) rfl (by omega) (x := 77) rfl fun h33 hs33 o33 e33 => ⟨e33.keep (by omega) fun z => by have := n22 _ z; omega, L.length - (r + 1), by omega, r + 1, A.set r 77, by rw [wi64 (by omega) (by omega)]; omega, by omega, o33, by simp [hA], x29.trans e33, rfl⟩
        · have nw : ∀ b, FB d sl sh ρd b → ¬ (b = p ∨ b = m1 ∨ b = m2) := fun b hb z => S.sep b hb (pm b z)
          have D29 : DF h29 d sl sh ρd := (S23.doc.ext e25 nw).ext x29 fun b hb z => by have := n22 b z; have := ltD b hb; omega
          have e29 : Ext (fun b => b = p ∨ b = m1 ∨ b = m2) h18 h29 := (e23.of0.trans e25).trans' x29 fun i hi z => by have := n22 i z; omega
          have e29' : Ext0 h h29 := S18.ext.trans' e29 fun i hi z => by have := S.newP i (pm i z); omega
          have hfd := S.doc.few
          have hsm := congrArg (fun c => (ment c).length) S.same
          have hsm : (ment (texts ρp)).length = (ment (texts ρd)).length := hsm
          have hlen2 := S.len
          refine c37 D29 (by omega) (ax.ext0 e29') (by omega) fun s'' sl' sh' h36 D36 e36 sub36 => ?_
          have s36 := e36.size
          refine ⟨e36.keep (by omega) fun z => nd16 (z.imp id fun y => y.imp id fun w => .inl w), ?_⟩
          have P29 : RF h29 p m1 m2 (ρp ++ [((s', L), true)]) := P25.ext x29 fun b hb z => by
            have h1 := n22 b z
            rcases hb with y | y | y | ⟨y, hy, y2⟩
            · have := ltP b (.inl y); omega
            · have := ltP b (.inr (.inl y)); omega
            · have := ltP b (.inr (.inr (.inl y))); omega
            · rcases List.mem_append.1 hy with hy | hy
              · have := ltP b (.inr (.inr (.inr ⟨y, hy, y2⟩))); omega
              · simp at hy
                subst hy
                obtain ⟨off, y2⟩ := y2
                obtain ⟨off', z⟩ := z
                have := n25 b off y2
                have := (o22'.lt _ _ z).1
                omega
          rw [hlen2]
          refine Br.ne (fun e => absurd rfl e) fun _ => (hI _).2 ⟨by omega, ρp ++ [((s', L), true)], ρd ++ [((s'', L), true)], sl', sh', by simp; omega, by rw [texts_snoc, ment_snoc, List.length_append]; omega, ?_⟩
          refine S18.both P29 e29 (fun b hb => ?_) (Ext.refl none' h29) D36 e36 sub36 (by rw [texts_snoc, texts_snoc, S.same])
          rcases hb with y | y | y | ⟨y, hy, y2⟩
          · exact .inl (.inl y)
          · exact .inl (.inr (.inl y))
          · exact .inl (.inr (.inr (.inl y)))
          · rcases List.mem_append.1 hy with hy | hy
            · exact .inl (.inr (.inr (.inr ⟨y, hy, y2⟩)))
            · simp at hy
              subst hy
              obtain ⟨off, y2⟩ := y2
              have := n25 b off y2
              exact .inr (by omega)
      · have fin : ∀ (s37 s40 : Slc) (G G' : List Int) (e : Int) (h42 : Heap), Own 1 uF h42 s37 G → Own 1 uF h42 s40 G' → G = G' → G.length ≤ 1073741824 → b16 < h42.size → (∀ b, inS s37 b → h18.size ≤ b ∧ ¬ inS s40 b) → (∀ hh, Ext (inS s37) h42 hh → I hh) →
            ∃ I43 : Bool → Heap → Prop, (Call Go.Proofs.Try.prog 40 [.lf (.slc s37), .lf (.slc s40)] h42 [.one .bool] fun c44 h45 => keepB h42 h45 [b16] ∧ Br (!c44) (I43 true h45) (I43 (e != e) h45)) ∧ ∀ c46 h47, I43 c46 h47 → Br c46 (R false h47) (I h47) := by
          intro s37 s40 G G' e h42 o1 o2 hg hl2 hb hsep hk
          refine ⟨fun c hh => c = false ∧ I hh, c40 o1 (o2.arr uF_sized) (by omega) (fun b off h1 off' h2 => (hsep b ⟨off, h1⟩).2 ⟨off', h2⟩) fun h45 e45 => ⟨e45.keep hb fun z => by have := (hsep _ z).1; omega, ?_⟩, ?_⟩
          · rw [decide_eq_true hg]
            exact Br.f rfl ⟨by simp, hk h45 e45⟩
          · rintro _ h47 ⟨rfl, h⟩
            exact Br.f rfl h
        have hsm := hgot_same S.same x.hand
        refine c38 S18.prog (fun hn => ?_) fun s1 L1 s37 h39 G hs1 P39 e39 o39 hG mG lG n39 => ?_
        · refine ⟨(Ext.refl none' h18).keep n16, ?_⟩
          refine c39 S18.doc hx.1 (fun hn' => ⟨(Ext.refl none' h18).keep n16, ?_⟩) fun s2 L2 t2 w2 G2 hs2 _ _ _ _ _ _ _ => ?_
          · refine fin ⟨none, 0, 0⟩ ⟨none, 0, 0⟩ [] [] 220 h18 (Own.nil _ _ _) (Own.nil _ _ _) rfl (by simp) n16 (fun b ⟨off, z⟩ => by cases z) fun hh e => (hI _).2 ⟨by have := e.size; omega, ρp, ρd, sl, sh, by omega, by omega, S18.ext0 (e.mono fun i ⟨off, z⟩ => by cases z)⟩
          · rw [hn, hs2] at hsm; cases hsm
        · have nw : ∀ b, FB d sl sh ρd b → ¬ (b = m1 ∨ b = m2) := fun b hb z => S.sep b hb (by rcases z with z | z <;> simp [RB, z])
          refine ⟨e39.keep n16 fun z => np16 (by rcases z with z | z <;> simp [RB, z]), c39 (S18.doc.ext e39 nw) hx.1 (fun hn' => ?_) fun s2 L2 s40 h42 G' hs2 D42 e42 o42 hG' mG' lG' n42 => ?_⟩
          · rw [hs1, hn'] at hsm; cases hsm
          · have hLL : L1 = L2 := by rw [hs1, hs2] at hsm; simpa using hsm
            have hts := letGo_same S.same x.hand
            have hGG : G = G' := hG.eq hG' fun f => by rw [mG, mG', hLL, hts]
            have s39 := e39.size
            have s42 := e42.size
            have o39' : Own 1 uF h42 s37 G := o39.ext e42 fun ⟨b, off, h1, h2⟩ => by have := n39 b off h1; have := S18.doc.lt b (.inr (.inr (.inl h2))); omega
            refine ⟨e42.keep (by omega) fun z => nd16 (.inr (.inr (.inl z))), fin s37 s40 G G' 0 h42 o39' o42 hGG lG (by omega) (fun b ⟨off, z⟩ => ⟨n39 b off z, fun ⟨off', z'⟩ => by have := n42 b off' z'; have := (o39.lt _ _ z).1; omega⟩) fun hh e => (hI _).2 ⟨by have := e.size; omega, letGo ρp x.hand, letGo ρd x.hand, sl, sh, ?_, ?_, ?_⟩⟩
            · have : (letGo ρp x.hand).length = ρp.length := by have := congrArg List.length (letGo_rows ρp x.hand); simpa using this
              omega
            · have := letGo_few ρp x.hand; omega
            · have SB := S18.both P39 (e39.mono fun i z => .inr z) (fun b hb => ?_) (Ext.refl none' h39) D42 (e42.mono fun i z => .inr (.inr z)) (fun b hb => ?_) hts
              · exact SB.extS e (fun b hb ⟨off, z⟩ => by
                  have h1 := n39 b off z
                  have h2 : b < h7.size := by
                    rcases hb with y | y | y | ⟨y, hy, y2⟩
                    · exact ltP b (.inl y)
                    · exact ltP b (.inr (.inl y))
                    · exact ltP b (.inr (.inr (.inl y)))
                    · obtain ⟨y', hy', e'⟩ := letGo_pay ρp x.hand y hy
                      exact ltP b (.inr (.inr (.inr ⟨y', hy', by rw [e']; exact y2⟩)))
                  omega) (fun b hb ⟨off, z⟩ => by
                  have h1 := n39 b off z
                  have h2 : b < h7.size := by
                    rcases hb with y | y | y | ⟨y, hy, y2⟩
                    · exact ltD b (.inl y)
                    · exact ltD b (.inr (.inl y))
                    · exact ltD b (.inr (.inr (.inl y)))
                    · obtain ⟨y', hy', e'⟩ := letGo_pay ρd x.hand y hy
                      exact ltD b (.inr (.inr (.inr ⟨y', hy', by rw [e']; exact y2⟩)))
                  omega) fun i hi ⟨off, z⟩ => by
                  have h1 := n39 i off z
                  have := S18.ext.size
                  omega
              · rcases hb with z | z | z | ⟨y, hy, z⟩
                · exact .inl (.inl z)
                · exact .inl (.inr (.inl z))
                · exact .inl (.inr (.inr (.inl z)))
                · obtain ⟨y', hy', e'⟩ := letGo_pay ρp x.hand y hy
                  exact .inl (.inr (.inr (.inr ⟨y', hy', by rw [e']; exact z⟩)))
              · rcases hb with z | z | z | ⟨y, hy, z⟩
                · exact .inl (.inl z)
                · exact .inl (.inr (.inl z))
                · exact .inl (.inr (.inr (.inl z)))
                · obtain ⟨y', hy', e'⟩ := letGo_pay ρd x.hand y hy
                  exact .inl (.inr (.inr (.inr ⟨y', hy', by rw [e']; exact z⟩)))
      · intro h48 hi48
        obtain ⟨l48, ρp1, ρd1, sl1, sh1, hρ1, hmn1, S48⟩ := (hI _).1 hi48
        refine c41 S48.prog fun s49 h50 N o50 hN mN lN f50 => ⟨f50.ext.keep l48, ?_⟩
        have S50 := S48.ext0 f50.ext
        refine c42 S50.doc fun s51 h52 o52 f52 => ⟨f52.ext.keep (by have := f50.ext.size; omega), ?_⟩
        have S52 := S50.ext0 f52.ext
        obtain ⟨nd1, nd2⟩ := needD_spec (ment (texts ρd1))
        have hNN : N = needD (ment (texts ρd1)) := by
          refine hN.eq nd1 fun f => ?_
          rw [mN, nd2, ← S48.same]
          exact List.count_pos_iff
        have s50 := f50.ext.size
        have s52 := f52.ext.size
        refine c40 (o50.ext0 f52.ext) (o52.arr uF_sized) (by omega) (fun b off h1 off' h2 => by have := f52.new _ _ h2; have := (o50.lt _ _ h1).1; omega) fun h54 e54 => ⟨e54.keep (by omega) fun ⟨off, z⟩ => by have := f50.new _ _ z; omega, ?_⟩
        rw [decide_eq_true hNN]
        have S54 := S48.ext0 ((f50.ext.trans f52.ext).trans' e54 fun i hi ⟨off, z⟩ => by have := f50.new _ _ z; omega)
        have s54 := e54.size
        refine Br.f rfl (c43 S54.prog ⟨(Ext.refl none' h54).keep (by omega), c44 S54.doc ⟨(Ext.refl none' h54).keep (by omega), ?_⟩⟩)
        rw [S48.same]
        exact Br.ne (fun e => absurd rfl e) fun _ => ⟨ρp1, ρd1, sl1, sh1, hρ1, hmn1, S54⟩
    · rintro h59 ⟨ρp1, ρd1, sl1, sh1, hρ1, hmn1, S59⟩
      exact ⟨l.length - (q + 1), by omega, q + 1, ρp1, ρd1, sl1, sh1, by rw [wi64 (by omega) (by omega)]; omega, by omega, hρ1, hmn1, S59, rfl⟩
  · refine ⟨sl, S.doc.blk.cell rfl, New.mk fun b62 h63 hb62 hs63 e63 k63 => ⟨(S.doc.blk.ext e63).cell rfl, ?_⟩⟩
    have S63 := S.ext0 e63
    have a62 : Arr 1 uF h63 ⟨some (b62, 0), 1, 1⟩ [(4 : Int)] := (Own.new (l := [(4 : Int)]) (sz := 1) (f := uF) uF_sized (by simpa [uF] using k63)).arr uF_sized
    have ltP := S.prog.lt
    have := hST q
    refine c36 S63.prog (by omega) a62 (fun b off hb => by
      cases hb
      have h1 := ltP p (.inl rfl)
      have h2 := ltP m1 (.inr (.inl rfl))
      have h3 := ltP m2 (.inr (.inr (.inl rfl)))
      exact ⟨by omega, by omega, by omega⟩) (by simp; omega) fun s' h65 P65 e65 n65 => ?_
    have nw : ∀ b, FB d sl sh ρd b → ¬ (b = p ∨ b = m1 ∨ b = m2) := fun b hb hx => S.sep b hb (by rcases hx with z | z | z <;> simp [RB, z])
    have D65 := S63.doc.ext e65 nw
    have hb65 : Blk h65 d 76 [.slc sl, .slc sh] := D65.blk
    have hsl : (sl.len : Int) = (ρp.length : Int) := by rw [S.doc.len1, S.len]
    refine ⟨hb65.cell rfl, ?_⟩
    rw [hsl, wi64 (by omega) (by omega)]
    refine Br.t (by simp) (c43 P65 (c44 D65 ?_))
    have hcnt : cnt (texts (ρp ++ [((s', [(4 : Int)]), true)])) 4 = cnt (texts ρd) 4 + 1 := by
      rw [texts_snoc, cnt_snoc, S.same]; rfl
    have hcl := cnt_le (texts ρd) 4
    have hfd := S.doc.few
    rw [hcnt, wi64 (by omega) (by omega)]
    have e65' : Ext0 h h65 := S63.ext.trans' e65 fun i hi z => by
      have := S.newP i (by rcases z with z | z | z <;> simp [RB, z])
      omega
    have := k h65 e65'
    rwa [show (((cnt (texts ρd) 4 + 1 : Nat) : Int) == (cnt (texts ρd) 4 : Int) + 1) = true by simp]

end Go.V.Yteojmnnobmpdiaa
