/- This text proves a part of the laws of seat Yteojmnnobmpdiaa, under no condition: T3 C11v C11w. -/
import Derived.Test.YteojmnnobmpdiaaEC
import Derived.Eval
import Derived.Test.YteojmnnobmpdiaaChecked
import Derived.Test.YteojmnnobmpdiaaCA
import Derived.Test.YteojmnnobmpdiaaCI
set_option linter.unusedVariables false
set_option maxRecDepth 100000
namespace Go.V.Yteojmnnobmpdiaa
open Go Go.V
/- 3: sediment.sedimentlaw11.CacheRoom () · seq 12: #7 · seq 13: #86 · loop 6: #7, #8 · loop 16: #11 -/
def pl3 : Plan := {
  blk := fun _ => none
  seq := fun | 12 => some ⟨[(7, .one .slc)], [], []⟩ | 13 => some ⟨[(86, .one .bool)], [], []⟩ | _ => none
  loop := fun | 6 => some ⟨[(7, .one .slc), (8, .one (.int .i64))], [], []⟩ | 16 => some ⟨[(11, .one (.int .i64))], [], []⟩ | _ => none
  live := fun | 0 => some [1, 2] | 1 => some [1, 2, 5, 6] | 2 => some [1, 2, 5, 6, 23] | 3 => some [4] | 4 => some [1, 2, 5, 7] | 5 => some [1, 2, 5, 7, 8] | 6 => some [1, 2, 5, 7, 8, 43] | 7 => some [1, 2, 5, 7, 8] | 8 => some [1, 2, 5, 7, 8, 51] | 9 => some [1, 2, 5, 7, 8, 9, 10] | 10 => some [1, 2, 5, 7, 8, 9, 73] | 11 => some [1, 2, 5, 7, 8] | 12 => some [1, 2, 5, 7, 8, 86] | 13 => some [4] | 14 => some [1, 2, 5, 7, 8, 92] | 15 => some [1, 2, 5, 7, 8, 11] | 16 => some [1, 2, 5, 7, 8, 11, 96] | 17 => some [1, 2, 5, 7, 8, 11] | 18 => some [1, 2, 5, 7, 8, 11, 105] | 19 => some [4] | 20 => some [1, 2, 5, 7, 8] | 21 => some [1, 2, 5, 7, 8, 115] | 22 => some [4] | 23 => some [4] | _ => none
  track := fun | 2 => true | _ => false
  draw := fun | 9 => .still 0 (.still 1 (.still 2 (.still 3 (.still 4 (.still 5 (.still 6 (.still 7 (.still 8 (.still 9 (.still 10 (.still 11 (.still 12 (.still 13 (.still 14 (.still 15 (.mem 16 (.still 17 (.still 18 (.still 19 (.still 20 (.still 21 (.done)))))))))))))))))))))) | 12 => .still 0 (.still 1 (.still 2 (.still 3 (.still 5 (.still 6 (.mem 4 (.still 7 (.still 8 (.done))))))))) | 21 => .still 0 (.mem 1 (.still 2 (.still 3 (.still 4 (.still 6 (.still 7 (.mem 5 (.still 8 (.still 9 (.done)))))))))) | _ => .done
  iter := fun | _ => none }
def vc3 (a0 : Int) (a1 : Int) (a2 : Bool) (a3 : Slc) (h : Heap) (R : Bool → Heap → Prop) : Prop :=
  New 24 [Lf.int IntKind.i64 a0, Lf.int IntKind.u64 a1, Lf.bool a2] h fun (b0 : Nat) (h1 : Heap) =>
    Call Go.Proofs.Try.prog 12 [VV.lf (Lf.int IntKind.i64 a0), VV.lf (Lf.int IntKind.u64 a1), VV.lf (Lf.bool a2)] h1
      [VT.one LT.ptr, VT.one (LT.int IntKind.i64)] fun (p2 : Option (Nat × Nat)) (i3 : Int) (h4 : Heap) =>
      keepB h1 h4 [b0] ∧
        Br (Option.isNone p2)
          (Br (i3 == (1 : Int))
            (Br (Decidable.decide (a0 < (1 : Int))) (Call Go.Proofs.Try.prog 13 [] h4 [VT.one LT.bool] fun (c5 : Bool) (h6 : Heap) => keepB h4 h6 [b0] ∧ R c5 h6)
              (Br (Decidable.decide (a0 > (64 : Int)))
                (Call Go.Proofs.Try.prog 13 [] h4 [VT.one LT.bool] fun (c7 : Bool) (h8 : Heap) => keepB h4 h8 [b0] ∧ R c7 h8) (R Bool.false h4)))
            (R Bool.false h4))
          (New 3 [] h4 fun (b9 : Nat) (h10 : Heap) =>
            ∃ (I11 : Slc → Int → Heap → Nat → Prop),
              (∃ (b12 : Nat), I11 (Slc.mk (Option.some (b9, 0)) 0 0) (0 : Int) h10 b12) ∧
                ∀ (s13 : Slc) (i14 : Int) (h15 : Heap) (b16 : Nat),
                  I11 s13 i14 h15 b16 →
                    Br (Decidable.decide (i14 < (↑(Slc.len a3) : Int)))
                      (IxC a3 i14 5 fun (b17 b18 : Nat) =>
                        ∃ (i19 : Int),
                          cellsAt h15 b17 (b18 + 0) [Lf.int IntKind.i64 i19] ∧
                            Br (Decidable.decide (i19 > (1 : Int))) (∃ (b20 : Nat), b20 < b16 ∧ I11 s13 (IntKind.wrap IntKind.i64 (i14 + (1 : Int))) h15 b20)
                              (IxC a3 i14 5 fun (b21 b22 : Nat) =>
                                ∃ (t23 : ByteArray),
                                  cellsAt h15 b21 (b22 + 2) [Lf.str t23] ∧
                                    IxC a3 i14 5 fun (b24 b25 : Nat) =>
                                      ∃ (i26 : Int),
                                        cellsAt h15 b24 (b25 + 3) [Lf.int IntKind.u64 i26] ∧
                                          IxC a3 i14 5 fun (b27 b28 : Nat) =>
                                            ∃ (i29 : Int),
                                              cellsAt h15 b27 (b28 + 4) [Lf.int IntKind.u64 i29] ∧
                                                Call Go.Proofs.Try.prog 14
                                                  [VV.lf (Lf.ptr p2), VV.lf (Lf.str t23), VV.lf (Lf.int IntKind.u64 i26), VV.lf (Lf.int IntKind.u64 i29)]
                                                  h15 [VT.one (LT.int IntKind.i64), VT.one (LT.int IntKind.i64)] fun (i30 i31 : Int) (h32 : Heap) =>
                                                  keepB h15 h32 [b0] ∧
                                                    ∃ (I33 : Slc → Heap → Prop),
                                                      Br (i31 == (0 : Int))
                                                          (New 3 [Lf.int IntKind.i64 i30] h32 fun (b34 : Nat) (h35 : Heap) =>
                                                            AppC 3 [Lf.int IntKind.i64 (0 : Int)] 1 8 s13
                                                              (Slc.mk (Option.some (b34, 0)) 1 1) h35 fun (s36 : Slc) (h37 : Heap) =>
                                                              keepB h35 h37 [b0] ∧ I33 s36 h37)
                                                          (I33 s13 h32) ∧
                                                        ∀ (s38 : Slc) (h39 : Heap),
                                                          I33 s38 h39 →
                                                            ∃ (I40 : Bool → Heap → Prop),
                                                              Br a2
                                                                  (Call Go.Proofs.Try.prog 15 [VV.lf (Lf.ptr p2)] h39 [VT.one (LT.int IntKind.u64)]
                                                                    fun (i41 : Int) (h42 : Heap) => keepB h39 h42 [b0] ∧ I40 (Decidable.decide (i41 > a1)) h42)
                                                                  (I40 Bool.false h39) ∧
                                                                ∀ (c43 : Bool) (h44 : Heap),
                                                                  I40 c43 h44 →
                                                                    Br c43 (R Bool.false h44)
                                                                      (IxC a3 i14 5 fun (b45 b46 : Nat) =>
                                                                        ∃ (i47 : Int),
                                                                          cellsAt h44 b45 (b46 + 0) [Lf.int IntKind.i64 i47] ∧
                                                                            Br (i47 == (1 : Int))
                                                                              (∃ (I48 : Int → Heap → Nat → Prop),
                                                                                (∃ (b49 : Nat), I48 (0 : Int) h44 b49) ∧
                                                                                  ∀ (i50 : Int) (h51 : Heap) (b52 : Nat),
                                                                                    I48 i50 h51 b52 →
                                                                                      Br (Decidable.decide (i50 < (↑(Slc.len s38) : Int)))
                                                                                        (IxC s38 i50 1 fun (b53 b54 : Nat) =>
                                                                                          ∃ (i55 : Int),
                                                                                            cellsAt h51 b53 b54 [Lf.int IntKind.i64 i55] ∧
                                                                                              Call Go.Proofs.Try.prog 16
                                                                                                [VV.lf (Lf.ptr p2), VV.lf (Lf.int IntKind.i64 i55)] h51
                                                                                                [VT.one (LT.int IntKind.i64)] fun (i56 : Int) (h57 : Heap) =>
                                                                                                keepB h51 h57 [b0] ∧
                                                                                                  Br (i56 != (0 : Int)) (R Bool.false h57)
                                                                                                    (∃ (b58 : Nat), b58 < b52 ∧ I48 (IntKind.wrap IntKind.i64 (i50 + (1 : Int))) h57 b58))
                                                                                        (Call Go.Proofs.Try.prog 17 [VV.lf (Lf.ptr p2)] h51
                                                                                          [VT.one (LT.int IntKind.u64)] fun (i59 : Int) (h60 : Heap) =>
                                                                                          keepB h51 h60 [b0] ∧
                                                                                            Br (i59 != (0 : Int)) (R Bool.false h60)
                                                                                              (Call Go.Proofs.Try.prog 15 [VV.lf (Lf.ptr p2)] h60
                                                                                                [VT.one (LT.int IntKind.u64)] fun (i61 : Int) (h62 : Heap) =>
                                                                                                keepB h60 h62 [b0] ∧
                                                                                                  Br (Decidable.decide (i61 > a1)) (R Bool.false h62)
                                                                                                    (∃ (b63 : Nat),
                                                                                                      b63 < b16 ∧
                                                                                                        I11 (Slc.mk Option.none 0 0)
                                                                                                          (IntKind.wrap IntKind.i64 (i14 + (1 : Int))) h62 b63))))
                                                                              (∃ (b64 : Nat), b64 < b16 ∧ I11 s38 (IntKind.wrap IntKind.i64 (i14 + (1 : Int))) h44 b64))))
                      (Call Go.Proofs.Try.prog 13 [] h15 [VT.one LT.bool] fun (c65 : Bool) (h66 : Heap) => keepB h15 h66 [b0] ∧ R c65 h66))
theorem eq3 (a0 : Int) (a1 : Int) (a2 : Bool) (a3 : Slc) (h : Heap) (R : Bool → Heap → Prop) : vc3 a0 a1 a2 a3 h R = vcFn Go.Proofs.Try.prog pl3 Go.Proofs.Try.f3 [.agg [.int .i64 a0, .int .u64 a1, .bool a2], .lf (.slc a3)] h [.one .bool] R := by kernel_rfl
theorem ok3 {a0 : Int} {a1 : Int} {a2 : Bool} {a3 : Slc} {h : Heap} {R : Bool → Heap → Prop} (hv : vc3 a0 a1 a2 a3 h R) : Call Go.Proofs.Try.prog 3 [.agg [.int .i64 a0, .int .u64 a1, .bool a2], .lf (.slc a3)] h [.one .bool] R := call_eq hng hmix Go.Proofs.Try.func3 (eq3 a0 a1 a2 a3 h R) hv
end Go.V.Yteojmnnobmpdiaa
set_option linter.unusedVariables false
set_option linter.unusedSimpArgs false
/-! CacheRoom. -/
namespace Go.V.Yteojmnnobmpdiaa
open Go Go.V

theorem freeT_rest {m : Nat} {σ : CS} {n : Int} {x : Nat} {X : It} (I : Inv m σ) (hn : (n, x) ∈ σ.pins) (hX : σ.it x = some X) (r : Rest σ) : Rest (freeT σ n x X) := by
  obtain ⟨s, hs, hm, eX, hp1⟩ := I.at hn hX
  have hu := unpin_keep (n := n) hX
  have hshare : share (freeT σ n x X) = share σ := by
    have := freeT_same (n := n) hX hs
    unfold share; rw [this.1, this.2.2.2.2.1]
  have hx : (unpin σ n x X).it x = some { X with pins := X.pins - 1 } := by simp [unpin, CS.setIt]
  have rU : Rest (unpin σ n x X) := fun j t ht => by
    have ht' : σ.sh[j]? = some t := ht
    rw [used_same I ht' hu]
    exact r j t ht'
  intro j t ht
  rw [hshare]
  rw [freeT_eq (m := m) hs] at ht ⊢
  split at ht
  · rename_i h1
    rw [if_pos h1]
    exact rU j t ht
  · rename_i h1
    rw [if_neg h1]
    split at ht
    · rename_i hin
      rw [if_pos hin]
      have IW := I.wait hn hX hs h1 hin
      have hi := sh_lt hs
      have hsW : (waitS σ n x X s).sh[shardOf σ.sh.length X.key]? = some { s with waits := s.waits ++ [x] } := by simp [waitS, CS.setSh, unpin, CS.setIt, hi]
      by_cases hj : j = shardOf σ.sh.length X.key
      · subst hj
        obtain ⟨s', hs', hend⟩ := makesS_end (more := 0) (room := share σ) (s.waits.length + 1) IW hsW (by simp)
        rw [ht] at hs'; cases hs'
        refine hend.imp (fun h => ?_) id
        rwa [plusS_zero (used_range (Inv.makes _ _ _ _ IW) t).1 (used_range (Inv.makes _ _ _ _ IW) t).2] at h
      · have hl := makesS_less (shardOf σ.sh.length X.key) 0 (share σ) (s.waits.length + 1) (waitS σ n x X s)
        rw [hl.oth j hj] at ht
        have hW : (waitS σ n x X s).sh[j]? = some t := ht
        have ht' : σ.sh[j]? = some t := by
          have : ¬ shardOf σ.sh.length X.key = j := fun e => hj e.symm
          simpa [waitS, CS.setSh, unpin, CS.setIt, this] using ht
        rw [used_same IW hW hl.keep]
        have h2 : usedS (waitS σ n x X s).it t = usedS σ.it t := used_same I ht' (show Keep σ (waitS σ n x X s) from hu)
        rw [h2]
        exact r j t ht'
    · rename_i hin
      rw [if_neg hin]
      have hsU : (unpin σ n x X).sh[shardOf σ.sh.length X.key]? = some s := hs
      have hl := goneS_less hsU hx
      obtain ⟨u, hu', h2, h3⟩ := hl.sh ht
      have hu2 : σ.sh[j]? = some u := hu'
      have h4 := used_sub I hu2 (hu.trans hl.keep) h2
      exact (r j u hu2).imp (fun h => Int.le_trans h4 h) h3
theorem freeT_tight {m : Nat} {σ : CS} {n : Int} {x : Nat} {X : It} (I : Inv m σ) (hn : (n, x) ∈ σ.pins) (hX : σ.it x = some X) (r : Tight σ) : Tight (freeT σ n x X) := by
  obtain ⟨s, hs, hm, eX, hp1⟩ := I.at hn hX
  have hf := freeT_same (n := n) hX hs
  have hshare : share (freeT σ n x X) = share σ := by
    unfold share; rw [hf.1, hf.2.2.2.2.1]
  have hsub : ∀ (j : Nat) (t : Sh), (freeT σ n x X).sh[j]? = some t → ∃ u, σ.sh[j]? = some u ∧ t.all.Sublist u.all := by
    intro j t ht
    have hx : (unpin σ n x X).it x = some { X with pins := X.pins - 1 } := by simp [unpin, CS.setIt]
    rw [freeT_eq (m := m) hs] at ht
    split at ht
    · exact ⟨t, ht, List.Sublist.refl _⟩
    · split at ht
      · obtain ⟨u, hu, h2, _⟩ := (makesS_less (shardOf σ.sh.length X.key) 0 (share σ) (s.waits.length + 1) (waitS σ n x X s)).sh ht
        have hu' : (σ.sh.set (shardOf σ.sh.length X.key) { s with waits := s.waits ++ [x] })[j]? = some u := hu
        rw [List.getElem?_set] at hu'
        split at hu'
        · rename_i hj
          split at hu'
          · cases hu'; exact ⟨s, by rw [← hj]; exact hs, h2⟩
          · cases hu'
        · exact ⟨u, hu', h2⟩
      · obtain ⟨u, hu, h2, _⟩ := (goneS_less (show (unpin σ n x X).sh[shardOf σ.sh.length X.key]? = some s from hs) hx).sh ht
        exact ⟨u, hu, h2⟩
  intro j t ht
  rw [hshare]
  obtain ⟨u, hu, h2⟩ := hsub j t ht
  exact Int.le_trans (used_sub I hu hf.2.2.2.2.2 h2) (r j u hu)

theorem fold_le {b : Int} (hb : 0 ≤ b) : ∀ {l : List Int} {a : Int}, (∀ x ∈ l, x ≤ b) → l.foldl plusS a ≤ a + (l.length : Int) * b
  | [], a, _ => by simp
  | x :: l, a, h => by
    rw [List.foldl_cons]
    have h1 := fold_le hb (l := l) (a := plusS a x) fun y hy => h y (List.mem_cons_of_mem _ hy)
    have h2 := h x (List.mem_cons_self ..)
    have h3 : plusS a x ≤ a + x := plusS_le
    rw [List.length_cons]
    have h4 : ((l.length + 1 : Nat) : Int) * b = (l.length : Int) * b + b := by rw [Int.natCast_add, Int.add_mul]; simp
    rw [h4]; omega
theorem charge_le {m : Nat} {σ : CS} (I : Inv m σ) (hn : 1 ≤ σ.sh.length) (r0 : 0 ≤ σ.room) (t : Tight σ) : chargeS σ ≤ σ.room := by
  have hb : 0 ≤ share σ := Int.ediv_nonneg r0 (by omega)
  have := fold_le hb (l := σ.sh.map (usedS σ.it)) (a := 0) fun x hx => by
    obtain ⟨s, hs, rfl⟩ := List.mem_map.1 hx
    obtain ⟨i, hi⟩ := List.mem_iff_getElem?.1 hs
    exact t i s hi
  rw [List.length_map] at this
  have h2 : (σ.sh.length : Int) * share σ ≤ σ.room := by
    unfold share; rw [Int.mul_comm]; exact Int.ediv_mul_le _ (by omega)
  unfold chargeS
  omega

/-- Nothing is pinned. -/
theorem pinned_zero {m : Nat} {σ : CS} (I : Inv m σ) (hp : σ.pins = []) : pinnedS σ = 0 := by
  have h1 : ∀ p, pchOf σ.it p = 0 := fun p => by
    unfold pchOf
    split
    · rename_i X hX
      have := I.cn p X hX
      rw [hp, show cnt p [] = 0 from rfl] at this
      rw [if_neg (by omega)]
    · rfl
  have h2 : ∀ l : List Nat, sums (l.map (pchOf σ.it)) = 0 := fun l => by
    induction l with
    | nil => rfl
    | cons p l ih => simp only [List.map_cons, sums, h1, ih]; rfl
  have h3 : ∀ l : List Sh, pinnedT σ l = 0 := fun l => by
    induction l with
    | nil => rfl
    | cons s l ih =>
      have : pinnedT σ (s :: l) = sums (s.all.map (pchOf σ.it)) + pinnedT σ l := rfl
      rw [this, ih, h2]; rfl
  unfold pinnedS
  rw [h3]; decide
theorem tight_rest {m : Nat} {σ : CS} (I : Inv m σ) (hn : 1 ≤ σ.sh.length) (r0 : 0 ≤ σ.room) (hp : σ.pins = []) (r : Rest σ) : Tight σ := by
  intro i s hs
  rcases r i s hs with h | h
  · exact h
  · have S := I.sh i s hs
    have hall : s.all = [] := by
      cases ha : s.all with
      | nil => rfl
      | cons p l =>
        exfalso
        have hpm : p ∈ s.all := by rw [ha]; exact List.mem_cons_self ..
        obtain ⟨X, hX, e⟩ := S.ent p hpm
        have hc := I.cn p X hX
        rw [hp, show cnt p [] = 0 from rfl] at hc
        have hin : X.inn = true := by
          cases hh : X.inn with
          | true => rfl
          | false => have := e.out hh; omega
        have : p ∈ s.waits := (S.w p).2 ⟨hpm, X, hX, hin, hc⟩
        rw [h] at this; simp at this
    have : usedS σ.it s = 0 := by unfold usedS; rw [hall]; rfl
    rw [this]
    exact Int.ediv_nonneg r0 (by omega)

def iF (n : Int) : List Lf := [.int .i64 n]
theorem iF_sized : Sized 1 iF := fun _ => rfl

theorem new_rest (n : Nat) (room : Int) (strict : Bool) : Rest (newS n room strict) := fun i s hs => by
  right
  have : s = emptySh := by
    simp only [newS, List.getElem?_replicate] at hs
    split at hs
    · cases hs; rfl
    · cases hs
  rw [this]; rfl
theorem new_tight {n : Nat} {room : Int} {strict : Bool} (hn : 1 ≤ n) (r0 : 0 ≤ room) : Tight (newS n room strict) := fun i s hs => by
  have : s = emptySh := by
    simp only [newS, List.getElem?_replicate] at hs
    split at hs
    · cases hs; rfl
    · cases hs
  rw [this]
  have h1 : usedS (newS n room strict).it emptySh = 0 := rfl
  rw [h1]
  exact Int.ediv_nonneg r0 (by simp [newS])

theorem pins_del {n : Int} {x : Nat} {l : List (Int × Nat)} : adel (.int .i64) n ((n, x) :: l) = l := by
  have : keq (.int .i64) n ((n, x) : Int × Nat).1 = true := (keq_iff (kt := .int .i64) trivial _ _).2 rfl
  rw [adel, if_pos this]

/-- What the loop of CacheRoom keeps. -/
structure RoomI (base : Heap) (h : Heap) (m c : Nat) (n : Nat) (room : Int) (strict : Bool) (s : Slc) (L : List Int) (F : Nat → Prop) (σ : CS) : Prop where
  w : CW F h m c σ
  rest : Rest σ
  tight : strict = true → Tight σ
  room : σ.room = room
  strict : σ.strict = strict
  len : σ.sh.length = n
  pins : Own 1 iF h s L
  ap : ∀ b o, s.a = some (b, o) → base.size ≤ b ∧ ¬ F b
  fr : ∀ y, F y → base.size ≤ y
  ext : Ext0 base h

theorem RoomI.ext0 {base h h' : Heap} {m c n : Nat} {room : Int} {strict : Bool} {s : Slc} {L : List Int} {F : Nat → Prop} {σ : CS} (I : RoomI base h m c n room strict s L F σ) (e : Ext0 h h') : RoomI base h' m c n room strict s L F σ :=
  { I with w := I.w.ext0 e, pins := I.pins.ext0 e, ext := I.ext.trans e }
theorem RoomI.mono {base h : Heap} {m m' c n : Nat} {room : Int} {strict : Bool} {s : Slc} {L : List Int} {F : Nat → Prop} {σ : CS} (I : RoomI base h m c n room strict s L F σ) (hm : m ≤ m') : RoomI base h m' c n room strict s L F σ :=
  { I with w := I.w.mono hm }
theorem RoomI.keep {base h h' : Heap} {m c n : Nat} {room : Int} {strict : Bool} {s : Slc} {L : List Int} {F F' : Nat → Prop} {σ : CS} (I : RoomI base h m c n room strict s L F σ) (st : Stp F h F' h') {b : Nat} (hb : b < base.size) : keepB h h' [b] :=
  st.ext.keep (Nat.lt_of_lt_of_le hb I.ext.size) fun hy => by have := I.fr b hy; omega
theorem RoomI.charge {base h : Heap} {m c n : Nat} {room : Int} {strict : Bool} {s : Slc} {L : List Int} {F : Nat → Prop} {σ : CS} (I : RoomI base h m c n room strict s L F σ) (t : Tight σ) : chargeS σ ≤ room := by
  have := charge_le I.w.inv I.w.n.1 I.w.n.2.2.1 t
  rw [I.room] at this; exact this
theorem ap_step {h h' : Heap} {s : Slc} {F F' : Nat → Prop} {α : Type} {f : α → List Lf} {l : List α} {k : Nat} (o : Own 1 f h s l) (ap : ∀ b o, s.a = some (b, o) → k ≤ b ∧ ¬ F b) (st : Stp F h F' h') : ∀ b o, s.a = some (b, o) → k ≤ b ∧ ¬ F' b := fun b o' hb =>
  ⟨(ap b o' hb).1, fun hF => (st.sub b hF).elim (ap b o' hb).2 fun hh => by have := (o.lt b o' hb).1; omega⟩
theorem own_step {h h' : Heap} {s : Slc} {F F' : Nat → Prop} {α : Type} {f : α → List Lf} {l : List α} {k : Nat} (o : Own 1 f h s l) (ap : ∀ b o, s.a = some (b, o) → k ≤ b ∧ ¬ F b) (st : Stp F h F' h') : Own 1 f h' s l :=
  o.ext st.ext fun ⟨b, o', hb, hF⟩ => (ap b o' hb).2 hF

end Go.V.Yteojmnnobmpdiaa
set_option linter.unusedVariables false
set_option linter.unusedSimpArgs false
/-! CacheRoom is true. -/
namespace Go.V.Yteojmnnobmpdiaa
open Go Go.V

def pinNs (σ : CS) : List Int := σ.pins.map (·.1)

theorem c3 {h : Heap} {n room : Int} {strict : Bool} {s : Slc} {l : List Act} (a : Arr 5 Act.lfs h s l) (r0 : 0 ≤ room) (r1 : room ≤ big) (hn0 : -9223372036854775808 ≤ n) (hn1 : n ≤ 9223372036854775807)
    (hl : l.length < 4398046511100) (ok : ∀ x ∈ l, x.Ok) {R : Bool → Heap → Prop} (k : ∀ h', Ext0 h h' → R true h') :
    Call Go.Proofs.Try.prog 3 [.agg [.int .i64 n, .int .u64 room, .bool strict], .lf (.slc s)] h [.one .bool] R := by
  have hlen := a.len
  refine ok3 (New.mk fun b0 h1 hb0 hs1 e1 k1 => w12 r0 r1 hn0 hn1 (fun hbad => ⟨⟨rfl, trivial⟩, Br.t rfl (Br.t rfl ?_)⟩) fun hn1' hn64 F h4 c w e4 hF => ⟨⟨e4.same _ (by omega) id, trivial⟩, Br.f rfl ?_⟩)
  · refine Br.dec (fun _ => c13 fun h2 e2 => ⟨⟨e2.same _ (by omega) id, trivial⟩, k h2 (e1.trans e2)⟩) fun hh => ?_
    refine Br.t (by simp; omega) (c13 fun h2 e2 => ⟨⟨e2.same _ (by omega) id, trivial⟩, k h2 (e1.trans e2)⟩)
  obtain ⟨q, rfl⟩ := Int.eq_ofNat_of_zero_le (show 0 ≤ n by omega)
  rw [Int.toNat_natCast] at w
  have hq1 : 1 ≤ q := by omega
  have hb1 : b0 < h1.size := by omega
  refine New.mk fun b9 h10 hb9 hs10 e10 k10 => ?_
  have I0 : RoomI h1 h10 0 c q room strict ⟨some (b9, 0), 0, 0⟩ [] F (newS q room strict) :=
    ⟨w.ext0 e10, new_rest _ _ _, fun _ => new_tight hq1 r0, rfl, rfl, by simp [newS], Own.new (l := ([] : List Int)) iF_sized k10, fun b o hb => by
      simp only [Option.some.injEq, Prod.mk.injEq] at hb
      obtain ⟨rfl, rfl⟩ := hb
      have := e4.size
      exact ⟨by omega, fun hy => by have := w.lt _ hy; omega⟩, hF, e4.trans e10⟩
  refine ⟨fun sl i h' d => ∃ (m : Nat) (F' : Nat → Prop) (σ : CS), i = m ∧ m ≤ l.length ∧ d = l.length - m ∧ RoomI h1 h' m c q room strict sl (pinNs σ) F' σ, ⟨_, 0, F, newS q room strict, rfl, by omega, rfl, I0⟩, ?_⟩
  rintro s13 _ h15 _ ⟨m, F', σ, rfl, hm, rfl, I⟩
  have e15 := e1.trans I.ext
  refine Br.dec (fun hi => ?_) fun hi => c13 fun h66 e66 => ⟨⟨e66.same _ (by have := I.ext.size; omega) id, trivial⟩, k h66 (e15.trans e66)⟩
  have hi' : m < l.length := by omega
  have ox := ok _ (List.getElem_mem hi')
  have hgx : l[m]? = some l[m] := List.getElem?_eq_getElem hi'
  generalize l[m] = x at ox hgx
  have a15 := a.ext0 e15
  have next : ∀ {sl : Slc} {F'' : Nat → Prop} {τ : CS} {h' : Heap}, RoomI h1 h' (m + 1) c q room strict sl (pinNs τ) F'' τ → ∃ b64, b64 < l.length - m ∧ ∃ (m' : Nat) (F' : Nat → Prop) (σ : CS), IntKind.wrap .i64 ((m : Int) + 1) = (m' : Int) ∧ m' ≤ l.length ∧ b64 = l.length - m' ∧ RoomI h1 h' m' c q room strict sl (pinNs σ) F' σ := fun {sl F'' τ h'} J =>
    ⟨l.length - (m + 1), by omega, m + 1, F'', τ, by rw [wi64 (by omega) (by omega)]; rfl, by omega, rfl, J⟩
  refine a15.ix rfl hgx fun b17 b18 hc => ⟨_, ⟨hc.1, trivial⟩, Br.dec (fun _ => next (I.mono (by omega))) fun hk1 => ?_⟩
  have cell : ∀ {b o : Nat} {h' : Heap}, cellsAt h' b o (Act.lfs x) → cellsAt h' b (o + 0) [.int .i64 x.kind] ∧ cellsAt h' b (o + 2) [.str x.key] ∧ cellsAt h' b (o + 3) [.int .u64 x.v] ∧ cellsAt h' b (o + 4) [.int .u64 x.n] := fun hc =>
    ⟨⟨hc.1, trivial⟩, ⟨hc.2.2.1, trivial⟩, ⟨hc.2.2.2.1, trivial⟩, ⟨hc.2.2.2.2.1, trivial⟩⟩
  refine a15.ix rfl hgx fun b21 b22 hc2 => ⟨_, (cell hc2).2.1, a15.ix rfl hgx fun b24 b25 hc3 => ⟨_, (cell hc3).2.2.1, a15.ix rfl hgx fun b27 b28 hc4 => ⟨_, (cell hc4).2.2.2, ?_⟩⟩⟩
  have hmm : m ≤ 4398046511104 := by omega
  have hI := I.w.inv
  have hn := I.w.n
  refine Call.mono (R := fun (i e : Int) h' => keepB h15 h' [b0] ∧ ∃ F τ, RoomI h1 h' (m + 1) c q room strict s13 (pinNs σ) F τ ∧ ((e = 0 ∧ pinNs τ = pinNs σ ++ [i]) ∨ (e ≠ 0 ∧ pinNs τ = pinNs σ))) ?_ ?_
  · refine w14 I.w hmm ox.v0 ox.v1 ox.n0 ox.n1 ox.key (fun _ => ⟨⟨rfl, trivial⟩, F', σ, I.mono (by omega), .inr ⟨by decide, rfl⟩⟩) (fun _ hfull h32 w32 st32 => ⟨I.keep st32 hb1, ?_⟩) fun _ hno F32 h32 p hp w32 st32 => ⟨I.keep st32 hb1, ?_⟩
    · have same := putM_same σ x.key x.n
      have hless : Less (shardOf σ.sh.length x.key) σ (putM σ x.key x.n) := makesS_less ..
      have ho := st32.to0 I.ext I.fr
      refine ⟨F', putM σ x.key x.n, ⟨w32.mono (by omega), hless.rest hI same.room I.rest, fun hh => hless.tight hI same.room (I.tight hh), same.room.trans I.room, same.strict.trans I.strict, same.len.trans I.len, own_step I.pins I.ap st32, ap_step I.pins I.ap st32, ho.2, ho.1⟩, .inr ⟨by decide, by simp only [pinNs, same.pins]⟩⟩
    · have hpa := putA_pins σ x.key x.v x.n p
      have ho := st32.to0 I.ext I.fr
      refine ⟨F32, putA σ x.key x.v x.n p, ⟨w32, putA_rest hI hn.1 hp ox.n0 ox.n1 I.rest, fun hh => putA_tight hI hn.1 hp ox.n0 ox.n1 (I.strict.trans hh) hno (I.tight hh), hpa.2.2.2.1.trans I.room, hpa.2.2.1.trans I.strict, hpa.2.2.2.2.trans I.len, own_step I.pins I.ap st32, ap_step I.pins I.ap st32, ho.2, ho.1⟩, .inl ⟨rfl, by simp [pinNs, hpa.1]⟩⟩
  intro i30 i31 h32 hmid
  obtain ⟨hk32, F32, τ, J, hcase⟩ := hmid
  refine ⟨hk32, fun sl h' => ∃ (F : Nat → Prop) (τ : CS), RoomI h1 h' (m + 1) c q room strict sl (pinNs τ) F τ, Br.eq (fun h0 => ?_) fun h0 => ⟨F32, τ, ?_⟩, ?_⟩
  · have hτ : pinNs τ = pinNs σ ++ [i30] := hcase.elim (fun x => x.2) fun x => absurd h0 x.1
    have hpl := hI.pl
    refine New.mk fun b34 h35 hb34 hs35 e35 k35 => ?_
    refine AppC.grow iF_sized (by decide) rfl (J.pins.ext0 e35) ((Own.new (l := [i30]) iF_sized k35).arr iF_sized) (by simp only [pinNs, List.length_map, List.length_singleton]; omega) fun s36 h37 o37 g37 => ?_
    have hgr : Ext (fun b => ∃ o, s13.a = some (b, o)) h32 h37 := e35.of0.trans g37.ext
    refine ⟨g37.keep (by have := J.ext.size; omega) fun o ho' => by have := (J.ap _ _ ho').1; omega, F32, τ, ?_⟩
    refine ⟨J.w.ext hgr fun y hy ⟨o, ho'⟩ => (J.ap _ _ ho').2 hy, J.rest, J.tight, J.room, J.strict, J.len, by rw [hτ]; exact o37, fun b o hb => ?_, J.fr, J.ext.to0 hgr fun b ⟨o, hb⟩ => (J.ap b o hb).1⟩
    rcases g37.new with h | ⟨b', h, h'⟩
    · rw [h] at hb; exact J.ap b o hb
    · rw [h] at hb; cases hb
      have := J.ext.size
      have := e35.size
      exact ⟨by omega, fun hy => by have := J.w.lt _ hy; omega⟩
  · have hτ : pinNs τ = pinNs σ := hcase.elim (fun x => absurd x.1 h0) fun x => x.2
    rw [hτ]; exact J
  · rintro s38 h39 ⟨F39, τ, J⟩
    refine ⟨fun cc h' => cc = false ∧ RoomI h1 h' (m + 1) c q room strict s38 (pinNs τ) F39 τ, Br.mk (fun hst => ?_) fun _ => ⟨rfl, J⟩, ?_⟩
    · refine w15 J.w (by omega) fun h42 e42 => ⟨⟨e42.same _ (by have := J.ext.size; omega) id, trivial⟩, ?_, J.ext0 e42⟩
      have := J.charge (J.tight hst)
      simp; omega
    · rintro _ h44 ⟨rfl, J44⟩
      refine Br.f rfl ((a.ext0 (e1.trans J44.ext)).ix rfl hgx fun b45 b46 hc5 => ⟨_, (cell hc5).1, Br.eq (fun _ => ?_) fun _ => next J44⟩)
      have hall := J44.pins.len
      have hpl := J44.w.inv.pl
      simp only [pinNs, List.length_map] at hall
      refine ⟨fun i h' d => ∃ (j : Nat) (G : Nat → Prop) (ρ : CS), i = j ∧ j ≤ s38.len ∧ d = s38.len - j ∧ CW G h' (m + 1) c ρ ∧ Rest ρ ∧ ρ.room = room ∧ ρ.strict = strict ∧ ρ.sh.length = q ∧ (strict = true → Tight ρ) ∧ ρ.pins = τ.pins.drop j ∧
        Own 1 iF h' s38 (pinNs τ) ∧ (∀ b o, s38.a = some (b, o) → h1.size ≤ b ∧ ¬ G b) ∧ (∀ y, G y → h1.size ≤ y) ∧ Ext0 h1 h', ⟨_, 0, F39, τ, rfl, by omega, rfl, J44.w, J44.rest, J44.room, J44.strict, J44.len, J44.tight, rfl, J44.pins, J44.ap, J44.fr, J44.ext⟩, ?_⟩
      rintro _ h51 _ ⟨j, G, ρ, rfl, hj, rfl, wρ, rρ, roρ, stρ, leρ, tiρ, pρ, oρ, apρ, frρ, eρ⟩
      refine Br.dec (fun hlt => ?_) fun hge => ?_
      · have hj' : j < τ.pins.length := by omega
        have hd : τ.pins.drop j = τ.pins[j] :: τ.pins.drop (j + 1) := List.drop_eq_getElem_cons hj'
        refine (oρ.arr iF_sized).ix (k := j) rfl (x := (τ.pins[j]).1) (by simp [pinNs, hj']) fun b53 b54 hc6 => ⟨_, hc6, ?_⟩
        have hin : (τ.pins[j].1, τ.pins[j].2) ∈ ρ.pins := by rw [pρ, hd]; exact List.mem_cons_self ..
        refine w16 wρ (by omega) (fun hno => absurd rfl (hno _ hin)) fun y Y hy hY G57 h57 w57 st57 => ?_
        obtain ⟨t, ht, _⟩ := wρ.inv.at hy hY
        have hf := freeT_same (n := τ.pins[j].1) hY ht
        refine ⟨st57.ext.keep (Nat.lt_of_lt_of_le hb1 eρ.size) fun hy => by have := frρ _ hy; omega, Br.f rfl ⟨_, ?_, j + 1, G57, _, ?_, by omega, rfl, w57, freeT_rest wρ.inv hy hY rρ, hf.1.trans roρ, hf.2.1.trans stρ, hf.2.2.2.2.1.trans leρ, fun hh => freeT_tight wρ.inv hy hY (tiρ hh), ?_, own_step oρ apρ st57, ap_step oρ apρ st57, (st57.to0 eρ frρ).2, (st57.to0 eρ frρ).1⟩⟩
        · show s38.len - (j + 1) < s38.len - j; omega
        · rw [wi64 (by omega) (by omega)]; rfl
        · rw [hf.2.2.2.1, pρ, hd, pins_del]
      · have hjl : j = τ.pins.length := by omega
        subst hjl
        rw [List.drop_length] at pρ
        have hz := pinned_zero wρ.inv pρ
        refine w17 wρ (by omega) fun h60 e60 => ⟨⟨e60.same _ (by have := eρ.size; omega) id, trivial⟩, ?_⟩
        rw [hz]
        refine Br.f rfl (w15 (wρ.ext0 e60) (by omega) fun h62 e62 => ⟨⟨e62.same _ (by have := eρ.size; have := e60.size; omega) id, trivial⟩, ?_⟩)
        have htt := tight_rest wρ.inv wρ.n.1 wρ.n.2.2.1 pρ rρ
        have hch := charge_le wρ.inv wρ.n.1 wρ.n.2.2.1 htt
        rw [roρ] at hch
        refine Br.f (by simp; omega) (next (F'' := G) (τ := ρ) ⟨(wρ.ext0 e60).ext0 e62, rρ, tiρ, roρ, stρ, leρ, ?_, (fun b o hb => by cases hb), frρ, (eρ.trans e60).trans e62⟩)
        simp only [pinNs, pρ]; exact Own.nil _ _ _

end Go.V.Yteojmnnobmpdiaa
