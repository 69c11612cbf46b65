/- This text proves a part of the laws of seat Yteojmnnobmpdiaa, under no condition: T10 X22i. -/
import Derived.Test.YteojmnnobmpdiaaSC
import Derived.Eval
import Derived.Test.YteojmnnobmpdiaaChecked
import Derived.Test.YteojmnnobmpdiaaSE
import Derived.Test.YteojmnnobmpdiaaSL
set_option linter.unusedVariables false
set_option maxRecDepth 100000
namespace Go.V.Yteojmnnobmpdiaa
open Go Go.V
/- 10: sediment.sedimentlaw22.SnapsAll () · blk 1:  · blk 2:  · seq 13: #64 · seq 23: #123 · loop 5: #5 -/
def pl10 : Plan := {
  blk := fun | 1 => some ⟨[], [], []⟩ | 2 => some ⟨[], [], [0]⟩ | _ => none
  seq := fun | 13 => some ⟨[(64, .one .bool)], [], [0]⟩ | 23 => some ⟨[(123, .one .bool)], [], [0]⟩ | _ => none
  loop := fun | 5 => some ⟨[(5, .one (.int .i64))], [], []⟩ | _ => none
  live := fun | 0 => some [0] | 1 => some [0, 3, 4] | 2 => some [0, 3, 4, 28] | 3 => some [2] | 4 => some [0, 3, 4, 5] | 5 => some [0, 3, 4, 5, 32] | 6 => some [0, 3, 4, 5] | 7 => some [0, 3, 4, 5, 6] | 8 => some [0, 3, 4, 5, 6, 40] | 9 => some [0, 3, 4, 5, 6, 40, 41] | 10 => some [0, 3, 4, 5, 6, 7, 8] | 11 => some [0, 3, 4, 5, 7, 8, 9, 10] | 12 => some [0, 3, 4, 5, 64] | 13 => some [2] | 14 => some [0, 3, 4, 5, 6, 40, 65] | 15 => some [0, 3, 4, 5, 75] | 16 => some [2] | 17 => some [0, 3, 4, 5, 6, 76] | 18 => some [0, 3, 4, 5, 6, 11, 12] | 19 => some [0, 3, 4, 5, 6, 11, 12, 13, 14] | 20 => some [0, 3, 4, 5, 6, 11, 12, 13, 14, 15, 16] | 21 => some [0, 3, 4, 5, 11, 12, 13, 14, 15, 16, 17, 18] | 22 => some [0, 3, 4, 5, 123] | 23 => some [2] | 24 => some [0, 3, 4, 5, 19] | 25 => some [0, 3, 4, 5, 19, 20, 21] | 26 => some [0, 3, 4, 5, 167] | 27 => some [2] | 28 => some [3, 22, 23] | 29 => some [2] | _ => none
  track := fun | 6 => true | _ => false
  draw := fun | 15 => .still 0 (.still 1 (.still 2 (.still 4 (.still 5 (.still 6 (.mem 3 (.mem 7 (.still 8 (.done))))))))) | _ => .done
  iter := fun | _ => none }
def vc10 (a0 : Slc) (h : Heap) (R : Bool → Heap → Prop) : Prop :=
  Call Go.Proofs.Try.prog 46 [] h [VT.one LT.ptr] fun (p0 : Option (Nat × Nat)) (h1 : Heap) =>
    New 96 [Lf.slc (Slc.mk Option.none 0 0), Lf.slc (Slc.mk Option.none 0 0)] h1 fun (b2 : Nat) (h3 : Heap) =>
      Br (Option.isNone p0) (R Bool.false h3)
        (∃ (I4 : Int → Heap → Nat → Prop),
          (∃ (b5 : Nat), I4 (0 : Int) h3 b5) ∧
            ∀ (i6 : Int) (h7 : Heap) (b8 : Nat),
              I4 i6 h7 b8 →
                Br (Decidable.decide (i6 < (↑(Slc.len a0) : Int)))
                  (∃ (I9 : Heap → Prop),
                    (IxC a0 i6 4 fun (b10 b11 : Nat) =>
                        ∃ (i12 : Int),
                          ∃ (i13 : Int),
                            ∃ (i14 : Int),
                              ∃ (s15 : Slc),
                                cellsAt h7 b10 b11 [Lf.int IntKind.i64 i12, Lf.int IntKind.i64 i13, Lf.int IntKind.u64 i14, Lf.slc s15] ∧
                                  New 79
                                    [Lf.int IntKind.i64 (0 : Int), Lf.int IntKind.i64 (0 : Int), Lf.int IntKind.u64 (0 : Int),
                                      Lf.slc (Slc.mk Option.none 0 0)]
                                    h7 fun (b16 : Nat) (h17 : Heap) =>
                                    Set b16 79 [Lf.int IntKind.i64 i12, Lf.int IntKind.i64 i13, Lf.int IntKind.u64 i14, Lf.slc s15] h17
                                      fun (h18 : Heap) =>
                                      ∃ (I19 : Heap → Prop),
                                        Br (i12 == (0 : Int))
                                            (Call Go.Proofs.Try.prog 47 [VV.lf (Lf.ptr p0), VV.lf (Lf.int IntKind.u64 i14)] h18
                                              [VT.one (LT.int IntKind.i64), VT.one (LT.int IntKind.i64)] fun (i20 i21 : Int) (h22 : Heap) =>
                                              keepB h18 h22 [b16] ∧
                                                Call Go.Proofs.Try.prog 52 [VV.lf (Lf.ptr (Option.some (b2, 0))), VV.lf (Lf.int IntKind.u64 i14)] h22
                                                  [VT.one (LT.int IntKind.i64), VT.one (LT.int IntKind.i64)] fun (i23 i24 : Int) (h25 : Heap) =>
                                                  keepB h22 h25 [b16] ∧
                                                    ∃ (I26 : Bool → Heap → Prop),
                                                      Br (i20 != i23) (I26 Bool.true h25) (I26 (i21 != i24) h25) ∧
                                                        ∀ (c27 : Bool) (h28 : Heap), I26 c27 h28 → Br c27 (R Bool.false h28) (I19 h28))
                                            (Br (i12 == (1 : Int))
                                              (Call Go.Proofs.Try.prog 48 [VV.lf (Lf.ptr p0), VV.lf (Lf.int IntKind.i64 i13)] h18
                                                [VT.one (LT.int IntKind.i64)] fun (i29 : Int) (h30 : Heap) =>
                                                keepB h18 h30 [b16] ∧
                                                  Call Go.Proofs.Try.prog 53 [VV.lf (Lf.ptr (Option.some (b2, 0))), VV.lf (Lf.int IntKind.i64 i13)] h30
                                                    [VT.one (LT.int IntKind.i64)] fun (i31 : Int) (h32 : Heap) =>
                                                    keepB h30 h32 [b16] ∧ Br (i29 != i31) (R Bool.false h32) (I19 h32))
                                              (Br (i12 == (2 : Int))
                                                (Call Go.Proofs.Try.prog 50 [VV.lf (Lf.ptr p0), VV.lf (Lf.int IntKind.i64 i13)] h18
                                                  [VT.one (LT.int IntKind.u64), VT.one (LT.int IntKind.i64)] fun (i33 i34 : Int) (h35 : Heap) =>
                                                  keepB h18 h35 [b16] ∧
                                                    Call Go.Proofs.Try.prog 54 [VV.lf (Lf.ptr (Option.some (b2, 0))), VV.lf (Lf.int IntKind.i64 i13)] h35
                                                      [VT.one (LT.int IntKind.u64), VT.one (LT.int IntKind.i64)] fun (i36 i37 : Int) (h38 : Heap) =>
                                                      keepB h35 h38 [b16] ∧
                                                        Call Go.Proofs.Try.prog 51 [VV.lf (Lf.ptr p0), VV.lf (Lf.int IntKind.u64 i14)] h38
                                                          [VT.one (LT.int IntKind.u64), VT.one LT.bool] fun (i39 : Int) (c40 : Bool) (h41 : Heap) =>
                                                          keepB h38 h41 [b16] ∧
                                                            Call Go.Proofs.Try.prog 55 [VV.lf (Lf.ptr (Option.some (b2, 0))), VV.lf (Lf.int IntKind.u64 i14)]
                                                              h41 [VT.one (LT.int IntKind.u64), VT.one LT.bool] fun (i42 : Int) (c43 : Bool) (h44 : Heap) =>
                                                              keepB h41 h44 [b16] ∧
                                                                ∃ (I45 : Bool → Heap → Prop),
                                                                  Br (i33 != i36) (I45 Bool.true h44)
                                                                      (Br (i34 != i37) (I45 Bool.true h44) (Br (i39 != i42) (I45 Bool.true h44) (I45 (!c40 == c43) h44))) ∧
                                                                    ∀ (c46 : Bool) (h47 : Heap), I45 c46 h47 → Br c46 (R Bool.false h47) (I19 h47))
                                                (I19 h18))) ∧
                                          ∀ (h48 : Heap),
                                            I19 h48 →
                                              Call Go.Proofs.Try.prog 56 [VV.lf (Lf.ptr (Option.some (b2, 0)))] h48 [VT.one LT.slc]
                                                fun (s49 : Slc) (h50 : Heap) =>
                                                Call Go.Proofs.Try.prog 57 [VV.lf (Lf.ptr p0)] h50 [VT.one (LT.int IntKind.u64), VT.one LT.bool]
                                                  fun (i51 : Int) (c52 : Bool) (h53 : Heap) =>
                                                  Call Go.Proofs.Try.prog 49 [VV.lf (Lf.ptr p0)] h53 [VT.one LT.slc] fun (s54 : Slc) (h55 : Heap) =>
                                                    Call Go.Proofs.Try.prog 40 [VV.lf (Lf.slc s54), VV.lf (Lf.slc s49)] h55 [VT.one LT.bool]
                                                      fun (c56 : Bool) (h57 : Heap) =>
                                                      Br (!c56) (R Bool.false h57)
                                                        (Call Go.Proofs.Try.prog 58 [VV.lf (Lf.ptr p0)] h57 [VT.one (LT.int IntKind.i64)]
                                                          fun (i58 : Int) (h59 : Heap) =>
                                                          Call Go.Proofs.Try.prog 59 [VV.lf (Lf.ptr (Option.some (b2, 0)))] h59 [VT.one (LT.int IntKind.i64)]
                                                            fun (i60 : Int) (h61 : Heap) =>
                                                            Br (i58 != i60) (R Bool.false h61)
                                                              (Br (!c52 == Decidable.decide ((↑(Slc.len s49) : Int) > (0 : Int))) (R Bool.false h61)
                                                                (Br c52
                                                                  (IxC s49 (0 : Int) 1 fun (b62 b63 : Nat) =>
                                                                    ∃ (i64 : Int),
                                                                      cellsAt h61 b62 b63 [Lf.int IntKind.u64 i64] ∧
                                                                        Br (i51 != i64) (R Bool.false h61) (Br (!c52) (Br (i51 != (0 : Int)) (R Bool.false h61) (I9 h61)) (I9 h61)))
                                                                  (Br (!c52) (Br (i51 != (0 : Int)) (R Bool.false h61) (I9 h61)) (I9 h61)))))) ∧
                      ∀ (h65 : Heap), I9 h65 → ∃ (b66 : Nat), b66 < b8 ∧ I4 (IntKind.wrap IntKind.i64 (i6 + (1 : Int))) h65 b66)
                  (Call Go.Proofs.Try.prog 47 [VV.lf (Lf.ptr p0), VV.lf (Lf.int IntKind.u64 (5 : Int))] h7
                    [VT.one (LT.int IntKind.i64), VT.one (LT.int IntKind.i64)] fun (i67 i68 : Int) (h69 : Heap) =>
                    Br (i68 == (2 : Int))
                      (Br (i67 == (0 : Int)) (R Bool.true h69)
                        (Br (Decidable.decide (i67 > (0 : Int)))
                          (Br (i68 == (0 : Int))
                            (Call Go.Proofs.Try.prog 48 [VV.lf (Lf.ptr p0), VV.lf (Lf.int IntKind.i64 i67)] h69 [VT.one (LT.int IntKind.i64)]
                              fun (i70 : Int) (h71 : Heap) => R (i70 == (0 : Int)) h71)
                            (R Bool.false h69))
                          (R Bool.false h69)))
                      (Br (Decidable.decide (i67 > (0 : Int)))
                        (Br (i68 == (0 : Int))
                          (Call Go.Proofs.Try.prog 48 [VV.lf (Lf.ptr p0), VV.lf (Lf.int IntKind.i64 i67)] h69 [VT.one (LT.int IntKind.i64)]
                            fun (i72 : Int) (h73 : Heap) => R (i72 == (0 : Int)) h73)
                          (R Bool.false h69))
                        (R Bool.false h69))))
theorem eq10 (a0 : Slc) (h : Heap) (R : Bool → Heap → Prop) : vc10 a0 h R = vcFn Go.Proofs.Try.prog pl10 Go.Proofs.Try.f10 [.lf (.slc a0)] h [.one .bool] R := by kernel_rfl
theorem ok10 {a0 : Slc} {h : Heap} {R : Bool → Heap → Prop} (hv : vc10 a0 h R) : Call Go.Proofs.Try.prog 10 [.lf (.slc a0)] h [.one .bool] R := call_eq hng hmix Go.Proofs.Try.func10 (eq10 a0 h R) hv
end Go.V.Yteojmnnobmpdiaa
set_option linter.unusedVariables false
set_option linter.unusedSimpArgs false
/-! SnapsAll. -/
namespace Go.V.Yteojmnnobmpdiaa
open Go Go.V Go.V.Snap

structure SAct where
  kind : Int
  hand : Int
  seq : Int
  files : Slc
def aF (x : SAct) : List Lf := [.int .i64 x.kind, .int .i64 x.hand, .int .u64 x.seq, .slc x.files]
theorem aF_sized : Sized 4 aF := fun _ => rfl

/-- Both lists in memory, alike. -/
structure SW (h0 h : Heap) (p m d : Nat) (ss sh : Slc) (σ : List (Int × Bool)) : Prop where
  prog : PL h p m σ
  doc : DL h d ss sh σ
  sep : ∀ b, DB d ss sh b → b ≠ p ∧ b ≠ m
  ext : Ext0 h0 h
  np : h0.size ≤ p
  nm : h0.size ≤ m
  nd : ∀ b, DB d ss sh b → h0.size ≤ b
  pos : ∀ x ∈ σ, 0 ≤ x.1

section
variable {h0 h : Heap} {p m d : Nat} {ss sh : Slc} {σ : List (Int × Bool)} (S : SW h0 h p m d ss sh σ)
include S

theorem SW.lt : p < h.size ∧ m < h.size ∧ ∀ b, DB d ss sh b → b < h.size := ⟨S.prog.blk.lt, S.prog.map.lt, S.doc.lt⟩
theorem SW.ext0 {h' : Heap} (e : Ext0 h h') : SW h0 h' p m d ss sh σ := ⟨S.prog.ext0 e, S.doc.ext0 e, S.sep, S.ext.trans e, S.np, S.nm, S.nd, S.pos⟩

/-- A call of the program's, then one of the document's. -/
theorem SW.both {h1 h2 : Heap} {ss' sh' : Slc} {σ' : List (Int × Bool)} (P1 : PL h1 p m σ') (e1 : Ext (fun b => b = p ∨ b = m) h h1) (D2 : DL h2 d ss' sh' σ') (e2 : Ext (DB d ss sh) h1 h2) (sub : Sub (DB d ss sh) (DB d ss' sh') h1) (hp : ∀ x ∈ σ', 0 ≤ x.1) :
    SW h0 h2 p m d ss' sh' σ' := by
  have hlt := S.lt
  have hs := e1.size
  refine ⟨P1.ext e2 (fun x => (S.sep _ x).1 rfl) (fun x => (S.sep _ x).2 rfl), D2, fun b hb => ?_, (S.ext.trans' e1 fun i hi x => ?_).trans' e2 fun i hi x => ?_, S.np, S.nm, fun b hb => ?_, hp⟩
  · rcases sub b hb with x | x
    · exact S.sep b x
    · exact ⟨by omega, by omega⟩
  · have := S.np; have := S.nm; rcases x with x | x <;> omega
  · have := S.nd _ x; omega
  · rcases sub b hb with x | x
    · exact S.nd b x
    · have := S.ext.size; omega

theorem SW.doc1 {h1 : Heap} (e1 : Ext (fun b => b = p ∨ b = m) h h1) : DL h1 d ss sh σ := S.doc.ext e1 fun b hb x => by
  obtain ⟨a, b⟩ := S.sep _ hb
  exact x.elim a b
end

theorem allD_pos {σ : List (Int × Bool)} (hp : ∀ x ∈ σ, 0 ≤ x.1) : ∀ x ∈ allD σ, 0 ≤ x := by
  intro x hx
  have := ((allD_spec σ).2 x).1 hx
  rw [vals_eq] at this
  obtain ⟨y, hy, rfl⟩ := List.mem_map.1 this
  exact hp y (List.mem_filter.1 hy).1

theorem below0 {l : List Int} (hp : ∀ x ∈ l, 0 ≤ x) : below l 0 = 0 :=
  below_eq (Nat.zero_le _) (fun _ _ h _ => by omega) fun x hx => hp x (List.mem_of_getElem? hx)

theorem stripe0 {σ : List (Int × Bool)} (hp : ∀ x ∈ σ, 0 ≤ x.1) : stripeS σ 0 = match allD σ with | [] => (0, false) | x :: _ => (x, true) := by
  unfold stripeS
  rw [below0 (allD_pos hp)]
  cases allD σ <;> rfl

theorem set_pos {σ : List (Int × Bool)} (hp : ∀ x ∈ σ, 0 ≤ x.1) (x : Int) : ∀ y ∈ (freeS σ x).2, 0 ≤ y.1 := by
  unfold freeS
  cases hh : hnum σ x with
  | none => exact hp
  | some s =>
    intro y hy
    rcases List.mem_or_eq_of_mem_set hy with h | rfl
    · exact hp y h
    · obtain ⟨i, _, hs⟩ := alive_mem.1 (hnum_mem.2 hh)
      exact hp (s, true) (List.mem_of_getElem? hs)

theorem hold_pos {σ : List (Int × Bool)} (hp : ∀ x ∈ σ, 0 ≤ x.1) {q : Int} (hq : 0 ≤ q) : ∀ y ∈ (holdS σ q).2.2, 0 ≤ y.1 := by
  unfold holdS
  split
  · exact hp
  · split
    · exact hp
    · intro y hy
      rcases List.mem_append.1 hy with h | h
      · exact hp y h
      · simp at h; subst h; exact hq

theorem hold_len (σ : List (Int × Bool)) (q : Int) : (holdS σ q).2.2.length ≤ σ.length + 1 := by
  unfold holdS
  split
  · simp
  · split <;> simp
theorem free_len (σ : List (Int × Bool)) (x : Int) : (freeS σ x).2.length = σ.length := by
  unfold freeS
  split <;> simp

theorem c10 {h : Heap} {s : Slc} {l : List SAct} (a : Arr 4 aF h s l) (hl : l.length ≤ 4398046511000) (hq : ∀ x ∈ l, x.hand ≤ 9223372036854775807 ∧ 0 ≤ x.seq) {R : Bool → Heap → Prop} (k : ∀ h', Ext0 h h' → R true h') :
    Call Go.Proofs.Try.prog 10 [.lf (.slc s)] h [.one .bool] R := by
  refine ok10 (c46 fun p m h1 hp hm P1 e1 => New.mk fun d h3 hd hs3 e3 k3 => Br.f rfl ?_)
  have hlen : s.len = l.length := a.len
  have S0 : SW h h3 p m d ⟨none, 0, 0⟩ ⟨none, 0, 0⟩ [] := by
    have := P1.blk.lt; have := P1.map.lt; have := e1.size
    refine ⟨P1.ext0 e3, ⟨k3, Own.nil _ _ _, Own.nil _ _ _, (fun b off e => by cases e), (fun b off e => by cases e), (fun b off off' e => by cases e), by simp⟩, ?_, e1.trans e3, hp, hm, ?_, by simp⟩
    · rintro b (rfl | ⟨off, x⟩ | ⟨off, x⟩)
      · exact ⟨by omega, by omega⟩
      · cases x
      · cases x
    · rintro b (rfl | ⟨off, x⟩ | ⟨off, x⟩)
      · omega
      · cases x
      · cases x
  refine ⟨fun i hh n => ∃ (q : Nat) (σ : List (Int × Bool)) (ss sh : Slc), i = q ∧ q ≤ l.length ∧ σ.length ≤ q ∧ SW h hh p m d ss sh σ ∧ n = l.length - q, ⟨_, 0, [], _, _, rfl, by omega, by simp, S0, rfl⟩, ?_⟩
  rintro _ h7 _ ⟨q, σ, ss, sh, rfl, hql, hσ, S, rfl⟩
  rw [hlen]
  refine Br.dec (fun hlt => ?_) fun hge => ?_
  · have hpl : q < l.length := by omega
    have hx := hq l[q] (List.getElem_mem hpl)
    have hget : l[q]? = some l[q] := by simp [hpl]
    generalize l[q] = x at hx hget
    refine ⟨fun hh => ∃ (σ : List (Int × Bool)) (ss sh : Slc), σ.length ≤ q + 1 ∧ SW h hh p m d ss sh σ, ?_, ?_⟩
    · refine (a.ext0 S.ext).ix rfl hget fun b off hb => ⟨_, _, _, _, hb, New.mk fun b16 h17 hb16 hs17 e17 k17 => Set.mk fun h18 hs18 e18 k18 => ?_⟩
      have S18 : SW h h18 p m d ss sh σ := S.ext0 (Ext.tmp e17 e18 (by omega))
      have hlt := S.lt
      have n16 : b16 < h18.size := by omega
      have np16 : b16 ≠ p ∧ b16 ≠ m := ⟨by omega, by omega⟩
      have nd16 : ¬ DB d ss sh b16 := fun x => by have := hlt.2.2 _ x; omega
      refine ⟨fun hh => ∃ (σ : List (Int × Bool)) (ss sh : Slc), σ.length ≤ q + 1 ∧ SW h hh p m d ss sh σ, Br.eq (fun c => ?_) fun c => Br.eq (fun c1 => ?_) fun c1 => Br.eq (fun c2 => ?_) fun c2 => ⟨σ, ss, sh, by omega, S18⟩, ?_⟩
      · refine c47 S18.prog (by omega) fun h22 P22 e22 => ⟨e22.keep n16 (fun x => x.elim np16.1 np16.2), ?_⟩
        refine c52 (S18.doc1 e22) (by omega) fun ss' sh' h25 D25 e25 sub25 => ⟨e25.keep (by have := e22.size; omega) nd16, ?_⟩
        have S25 := S18.both P22 e22 D25 e25 sub25 (hold_pos S.pos hx.2)
        refine ⟨fun c hh => c = false ∧ ∃ (σ : List (Int × Bool)) (ss sh : Slc), σ.length ≤ q + 1 ∧ SW h hh p m d ss sh σ, ?_, ?_⟩
        · have hh := hold_len σ x.seq
          exact Br.ne (fun e => absurd rfl e) fun _ => ⟨by simp, _, _, _, by omega, S25⟩
        · rintro _ h28 ⟨rfl, S28⟩
          exact Br.f rfl S28
      · refine c48 S18.prog fun h30 P30 e30 => ⟨e30.keep n16 (fun x => x.elim np16.1 np16.2), ?_⟩
        refine c53 (S18.doc1 e30) hx.1 fun h32 D32 e32 => ⟨e32.keep (by have := e30.size; omega) nd16, ?_⟩
        have S32 := S18.both P30 e30 D32 e32 (Sub.refl _ _) (set_pos S.pos _)
        have hh := free_len σ x.hand
        exact Br.ne (fun e => absurd rfl e) fun _ => ⟨_, _, _, by omega, S32⟩
      · refine c50 S18.prog ⟨(Ext.refl none' h18).keep n16, c54 S18.doc hx.1 ⟨(Ext.refl none' h18).keep n16, ?_⟩⟩
        refine c51 S18.prog fun h41 e41 => ⟨e41.keep n16, ?_⟩
        have S41 := S18.ext0 e41
        refine c55 S41.doc fun h44 e44 => ⟨e44.keep (by have := e41.size; omega), ?_⟩
        have S44 := S41.ext0 e44
        refine ⟨fun c hh => c = false ∧ ∃ (σ : List (Int × Bool)) (ss sh : Slc), σ.length ≤ q + 1 ∧ SW h hh p m d ss sh σ, ?_, ?_⟩
        · exact Br.ne (fun e => absurd rfl e) fun _ => Br.ne (fun e => absurd rfl e) fun _ => Br.ne (fun e => absurd rfl e) fun _ => ⟨by simp, _, _, _, by omega, S44⟩
        · rintro _ h47 ⟨rfl, S47⟩
          exact Br.f rfl S47
      · rintro h48 ⟨σ1, ss1, sh1, hσ1, S48⟩
        have hal := allD_len σ1
        refine c56 S48.doc fun s49 h50 o50 f50 => ?_
        have S50 := S48.ext0 f50.ext
        refine c57 S50.prog fun h53 e53 => ?_
        have S53 := S50.ext0 e53
        refine c49 S53.prog fun s54 h55 o55 f55 => ?_
        have S55 := S53.ext0 f55.ext
        have o49 := (o50.ext0 e53).ext0 f55.ext
        have o49' := o50.ext0 e53
        refine c40 o55 (o49.arr uF_sized) (by omega) (fun b off h1 off' h2 => ?_) fun h57 e57 => ?_
        · have := f55.new _ _ h1
          have := (o49'.lt _ _ h2).1
          omega
        have e57' : Ext0 h53 h57 := f55.ext.trans' e57 fun i hi ⟨off, hx⟩ => by have := f55.new _ _ hx; omega
        have S57 := S53.ext0 e57'
        have o57 := o49'.ext0 e57'
        have hl49 : s49.len = (allD σ1).length := o50.len
        refine Br.f (by simp) (c58 S57.prog (c59 S57.doc (Br.ne (fun e => absurd rfl e) fun _ => ?_)))
        have done : ∃ (σ : List (Int × Bool)) (ss sh : Slc), σ.length ≤ q + 1 ∧ SW h h57 p m d ss sh σ := ⟨σ1, ss1, sh1, hσ1, S57⟩
        rw [stripe0 S48.pos, hl49]
        cases hal : allD σ1 with
        | nil => exact Br.f (by simp) (Br.f rfl (Br.t rfl (Br.ne (fun e => absurd rfl e) fun _ => done)))
        | cons y r =>
          rw [hal] at o57
          refine Br.f (by simp) (Br.t rfl ?_)
          refine (o57.arr uF_sized).ix (k := 0) rfl (x := y) rfl fun b off hb => ⟨_, hb, Br.ne (fun e => absurd rfl e) fun _ => Br.f rfl done⟩
    · rintro h65 ⟨σ1, ss1, sh1, hσ1, S65⟩
      exact ⟨l.length - (q + 1), by omega, q + 1, σ1, ss1, sh1, by rw [wi64 (by omega) (by omega)]; omega, by omega, hσ1, S65, rfl⟩
  · refine c47 S.prog (by omega) fun h69 P69 e69 => ?_
    have e69' : Ext0 h h69 := S.ext.trans' e69 fun i hi x => by have := S.np; have := S.nm; rcases x with x | x <;> omega
    have h5 : ¬ (5 : Int) > 72057594037927935 := by omega
    unfold holdS at P69 ⊢
    rw [if_neg h5] at P69 ⊢
    by_cases hc : (alive 0 σ).length ≥ 4096
    · rw [if_pos hc] at P69 ⊢
      exact Br.t rfl (Br.t rfl (k h69 e69'))
    · rw [if_neg hc] at P69 ⊢
      refine Br.f rfl (Br.t (by simp) (Br.t rfl (c48 P69 fun h73 P73 e73 => ?_)))
      have hn : hnum (σ ++ [(5, true)]) ((σ.length : Int) + 1) = some 5 := by
        rw [← hnum_mem, alive_mem]
        exact ⟨σ.length, by simp, by simp⟩
      have : (freeS (σ ++ [(5, true)]) ((σ.length : Int) + 1)).1 = 0 := by unfold freeS; rw [hn]
      rw [this]
      exact k h73 (e69'.trans' e73 fun i hi x => by have := S.np; have := S.nm; rcases x with x | x <;> omega)

end Go.V.Yteojmnnobmpdiaa
