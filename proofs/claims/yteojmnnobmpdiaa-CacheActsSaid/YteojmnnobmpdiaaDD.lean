/- This text proves a part of the laws of seat Yteojmnnobmpdiaa, under no condition: D11h D11i. -/
import Derived.Test.YteojmnnobmpdiaaDC
import Derived.Test.YteojmnnobmpdiaaCE
import Derived.Test.YteojmnnobmpdiaaCK
set_option linter.unusedVariables false
set_option linter.unusedSimpArgs false
/-! The document's cache: Sums. -/
namespace Go.V.Yteojmnnobmpdiaa
open Go Go.V

def inOf (it : Nat → Option It) (p : Nat) : Int := match it p with | some x => if x.inn then 1 else 0 | none => 0
/-- A number of each entry, all together. -/
def allT (f : Nat → Int) (l : List Sh) : Int := sums (l.map fun s => sums (s.all.map f))

theorem allT_step (f : Nat → Int) {l : List Sh} {q : Nat} (hq : q < l.length) : allT f (l.take (q + 1)) = allT f (l.take q) + sums (l[q].all.map f) := by
  unfold allT
  rw [List.take_succ_eq_append_getElem hq, List.map_append, sums_append]
  simp [sums]
theorem sums_step (f : Nat → Int) {l : List Nat} {q : Nat} (hq : q < l.length) : sums ((l.take (q + 1)).map f) = sums ((l.take q).map f) + f l[q] := by
  rw [List.take_succ_eq_append_getElem hq, List.map_append, sums_append]
  simp [sums]
theorem sums_nn {f : Nat → Int} (hf : ∀ p, 0 ≤ f p) (l : List Nat) : 0 ≤ sums (l.map f) := sums_nonneg fun x hx => by
  obtain ⟨p, _, rfl⟩ := List.mem_map.1 hx; exact hf p
theorem allT_nn {f : Nat → Int} (hf : ∀ p, 0 ≤ f p) (l : List Sh) : 0 ≤ allT f l := sums_nonneg fun x hx => by
  obtain ⟨s, _, rfl⟩ := List.mem_map.1 hx; exact sums_nn hf _
theorem sums_le {f : Nat → Int} (hf : ∀ p, f p ≤ 1) : ∀ l : List Nat, sums (l.map f) ≤ l.length
  | [] => by simp [sums]
  | p :: l => by
    have := hf p
    have := sums_le hf l
    simp only [List.map_cons, sums, List.length_cons]; omega

theorem d82 {F : Nat → Prop} {h : Heap} {m c : Nat} {σ : CS} (w : DW F h m c σ) (hm : m ≤ 4398046511100) {R : Int → Int → Int → Heap → Prop}
    (k : R (cap (allT (chOf σ.it) σ.sh)) (cap (allT (pchOf σ.it) σ.sh)) (allT (inOf σ.it) σ.sh) h) : Call Go.Proofs.Try.prog 82 [.lf (.ptr (some (c, 0)))] h [.one (.int .u64), .one (.int .u64), .one (.int .i64)] R := by
  obtain ⟨lab, V, D, I, hF⟩ := w
  have hn1 := D.n1
  have hch : ∀ p, 0 ≤ chOf σ.it p ∧ chOf σ.it p ≤ big := fun p => by
    unfold chOf
    split
    · rename_i X hX; exact ⟨(I.ok p X hX).c0, (I.ok p X hX).c1⟩
    · exact ⟨by decide, by decide⟩
  have hpc : ∀ p, 0 ≤ pchOf σ.it p ∧ pchOf σ.it p ≤ big := fun p => by
    unfold pchOf
    split
    · rename_i X hX
      split
      · exact ⟨(I.ok p X hX).c0, (I.ok p X hX).c1⟩
      · exact ⟨by decide, by decide⟩
    · exact ⟨by decide, by decide⟩
  have hio : ∀ p, 0 ≤ inOf σ.it p ∧ inOf σ.it p ≤ 1 := fun p => by
    unfold inOf
    split
    · split <;> omega
    · omega
  refine ok82 ⟨fun u p n i h' d => ∃ q : Nat, i = q ∧ q ≤ σ.sh.length ∧ d = σ.sh.length - q ∧ h = h' ∧ u = cap (allT (chOf σ.it) (σ.sh.take q)) ∧ p = cap (allT (pchOf σ.it) (σ.sh.take q)) ∧ n = allT (inOf σ.it) (σ.sh.take q) ∧ 0 ≤ n ∧ n ≤ 4398046511100 * (q : Int),
    ⟨_, 0, rfl, by omega, rfl, rfl, by simp [allT, sums, cap, big], by simp [allT, sums, cap, big], by simp [allT, sums], by omega, by simp⟩, ?_⟩
  rintro _ _ n4 _ _ _ ⟨q, rfl, hq, rfl, rfl, rfl, rfl, hn4, hn40, hn41⟩
  refine NilC.mk rfl ⟨_, D.blk.cell rfl, Br.dec (fun hi => ?_) fun hi => ?_⟩
  · have hi' : q < σ.sh.length := by omega
    have hs : σ.sh[q]? = some σ.sh[q] := List.getElem?_eq_getElem hi'
    have st1 := allT_step (chOf σ.it) hi'
    have st2 := allT_step (pchOf σ.it) hi'
    have st3 := allT_step (inOf σ.it) hi'
    generalize σ.sh[q] = s at *
    have S := I.sh q s hs
    have hal := I.len q s hs
    obtain ⟨rl, rw', hrl, hrw, al, rol, aw, row⟩ := D.row hs
    have hall := al.len
    refine ⟨fun u p n i h' d => ∃ j : Nat, i = j ∧ j ≤ s.all.length ∧ d = s.all.length - j ∧ h = h' ∧ u = cap (allT (chOf σ.it) (σ.sh.take q) + sums ((s.all.take j).map (chOf σ.it))) ∧ p = cap (allT (pchOf σ.it) (σ.sh.take q) + sums ((s.all.take j).map (pchOf σ.it))) ∧ n = n4 + sums ((s.all.take j).map (inOf σ.it)),
      ⟨_, 0, rfl, by omega, rfl, rfl, by simp [sums], by simp [sums], by simp [sums]⟩, ?_⟩
    rintro _ _ n15 _ _ _ ⟨j, rfl, hj, rfl, rfl, rfl, rfl, hn15⟩
    refine NilC.mk rfl ⟨V.sl, D.blk.cell rfl, (D.lo.arr slF_sized).ix (k := q) rfl hrl fun b22 b23 hc => ⟨rl, hc, Br.dec (fun hj2 => ?_) fun hj2 => ?_⟩⟩
    · have hj' : j < s.all.length := by omega
      obtain ⟨X, hX, _⟩ := S.ent _ (List.getElem_mem hj')
      have u1 := sums_step (chOf σ.it) hj'
      have u2 := sums_step (pchOf σ.it) hj'
      have u3 := sums_step (inOf σ.it) hj'
      have hget := List.getElem?_eq_getElem hj'
      generalize s.all[j] = p at *
      have hit := D.its p X hX
      have ok := I.ok p X hX
      have c1 : chOf σ.it p = X.ch := by simp only [chOf, hX]
      have c2 : pchOf σ.it p = if X.pins > 0 then X.ch else 0 := by simp only [pchOf, hX]
      have c3 : inOf σ.it p = if X.inn then 1 else 0 := by simp only [inOf, hX]
      have sl := sums_le (fun p => (hio p).2) (s.all.take (j + 1))
      have sn := sums_nn (fun p => (hio p).1) (s.all.take j)
      rw [u3, List.length_take] at sl
      have hA := allT_nn (fun p => (hch p).1) (σ.sh.take q)
      have hA2 := allT_nn (fun p => (hpc p).1) (σ.sh.take q)
      have hB := sums_nn (fun p => (hch p).1) (s.all.take j)
      have hB2 := sums_nn (fun p => (hpc p).1) (s.all.take j)
      have r1 := cap_range (show 0 ≤ allT (chOf σ.it) (σ.sh.take q) + sums ((s.all.take j).map (chOf σ.it)) by omega)
      have r2 := cap_range (show 0 ≤ allT (pchOf σ.it) (σ.sh.take q) + sums ((s.all.take j).map (pchOf σ.it)) by omega)
      have hwj : IntKind.wrap .i64 ((j : Int) + 1) = ((j + 1 : Nat) : Int) := by rw [wi64 (by omega) (by omega)]; rfl
      have e1 : plusS (cap (allT (chOf σ.it) (σ.sh.take q) + sums ((s.all.take j).map (chOf σ.it)))) X.ch = cap (allT (chOf σ.it) (σ.sh.take q) + sums ((s.all.take (j + 1)).map (chOf σ.it))) := by
        rw [plusS_cap (by omega) ok.c0 ok.c1, u1, c1, Int.add_assoc]
      refine NilC.mk rfl ⟨V.sl, D.blk.cell rfl, (D.lo.arr slF_sized).ix (k := q) rfl hrl fun b28 b29 hc2 => ⟨rl, hc2, al.ix rfl hget fun b31 b32 hc3 => ⟨_, hc3, NilC.mk rfl ⟨X.ch, hit.1.cell rfl, c110 r1.1 r1.2 ok.c0 ok.c1 (NilC.mk rfl ⟨X.pins, hit.1.cell rfl, Br.dec (fun hp => ?_) fun hp => ?_⟩)⟩⟩⟩⟩
      · rw [if_pos hp] at c2
        have e2 : plusS (cap (allT (pchOf σ.it) (σ.sh.take q) + sums ((s.all.take j).map (pchOf σ.it)))) X.ch = cap (allT (pchOf σ.it) (σ.sh.take q) + sums ((s.all.take (j + 1)).map (pchOf σ.it))) := by
          rw [plusS_cap (by omega) ok.c0 ok.c1, u2, c2, Int.add_assoc]
        refine NilC.mk rfl ⟨X.ch, hit.1.cell rfl, c110 r2.1 r2.2 ok.c0 ok.c1 (NilC.mk rfl ⟨X.inn, hit.1.cell rfl, Br.mk (fun hin => ?_) fun hin => ?_⟩)⟩
        · rw [if_pos hin] at c3
          exact ⟨s.all.length - (j + 1), by omega, j + 1, hwj, by omega, rfl, rfl, e1, e2, by rw [wi64 (by omega) (by omega), u3, c3, hn15]; omega⟩
        · rw [if_neg (by simp [hin])] at c3
          exact ⟨s.all.length - (j + 1), by omega, j + 1, hwj, by omega, rfl, rfl, e1, e2, by rw [u3, c3, hn15]; omega⟩
      · rw [if_neg hp] at c2
        have e2 : cap (allT (pchOf σ.it) (σ.sh.take q) + sums ((s.all.take j).map (pchOf σ.it))) = cap (allT (pchOf σ.it) (σ.sh.take q) + sums ((s.all.take (j + 1)).map (pchOf σ.it))) := by
          rw [u2, c2, Int.add_zero]
        refine NilC.mk rfl ⟨X.inn, hit.1.cell rfl, Br.mk (fun hin => ?_) fun hin => ?_⟩
        · rw [if_pos hin] at c3
          exact ⟨s.all.length - (j + 1), by omega, j + 1, hwj, by omega, rfl, rfl, e1, e2, by rw [wi64 (by omega) (by omega), u3, c3, hn15]; omega⟩
        · rw [if_neg (by simp [hin])] at c3
          exact ⟨s.all.length - (j + 1), by omega, j + 1, hwj, by omega, rfl, rfl, e1, e2, by rw [u3, c3, hn15]; omega⟩
    · have : j = s.all.length := by omega
      subst this
      rw [List.take_length] at hn15 ⊢
      have sl := sums_le (fun p => (hio p).2) s.all
      have sn := sums_nn (fun p => (hio p).1) s.all
      refine ⟨σ.sh.length - (q + 1), by omega, q + 1, ?_, by omega, rfl, rfl, by rw [st1], by rw [st2], by rw [st3, hn15, hn4], by omega, by omega⟩
      rw [wi64 (by omega) (by omega)]; rfl
  · have : q = σ.sh.length := by omega
    subst this
    rw [List.take_length] at hn4 ⊢
    rw [hn4]
    exact k

theorem plus_cap2 {a b : Int} (ha : 0 ≤ a) (hb : 0 ≤ b) : plusS (cap a) (cap b) = cap (a + b) := by
  unfold plusS cap big; split <;> split <;> split <;> split <;> omega
theorem fold_cap {f : Sh → Int} (hf : ∀ s, 0 ≤ f s) : ∀ {l : List Sh} {a : Int}, 0 ≤ a → (l.map fun s => cap (f s)).foldl plusS (cap a) = cap (a + sums (l.map f))
  | [], a, _ => by simp [sums]
  | s :: l, a, ha => by
    have := hf s
    rw [List.map_cons, List.foldl_cons, plus_cap2 ha this, fold_cap hf (by omega), List.map_cons]
    simp only [sums, Int.add_assoc]
/-- What is used, told twice. -/
theorem charge_all {σ : CS} {m : Nat} (I : Inv m σ) : chargeS σ = cap (allT (chOf σ.it) σ.sh) := by
  have h := fold_cap (f := fun s => sums (s.all.map (chOf σ.it))) (fun s => sums_nonneg (ch_nonneg I)) (l := σ.sh) (a := 0) (by decide)
  have h0 : cap 0 = 0 := by decide
  rw [h0] at h
  unfold chargeS allT
  rw [Int.zero_add] at h
  exact h
theorem pinned_all (σ : CS) : pinnedS σ = cap (allT (pchOf σ.it) σ.sh) := rfl

theorem in_count {n : Nat} {it : Nat → Option It} {i : Nat} {s : Sh} (S : SInv n it i s) : (s.ins.length : Int) = sums (s.all.map (inOf it)) := by
  have h1 : ∀ l : List Nat, sums (l.map (inOf it)) = ((l.filter fun p => decide (inOf it p = 1)).length : Int) := fun l => by
    induction l with
    | nil => rfl
    | cons p l ih =>
      simp only [List.map_cons, sums, ih]
      by_cases h : inOf it p = 1
      · simp only [List.filter_cons, h, decide_true, if_true, List.length_cons]; omega
      · have : inOf it p = 0 := by
          unfold inOf at h ⊢
          split
          · rename_i x hx
            rw [hx] at h
            simp only at h
            split at h
            · exact absurd rfl h
            · rename_i hh; rw [if_neg hh]
          · rfl
        simp only [List.filter_cons, h, decide_false, Bool.false_eq_true, if_false]
        rw [this]; omega
  rw [h1]
  have hnd : (s.ins.map (·.2)).Nodup := by
    have key : ∀ l : List (ByteArray × Nat), (l.map (·.1)).Nodup → (∀ e ∈ l, ∃ X, it e.2 = some X ∧ X.key = e.1) → (l.map (·.2)).Nodup := by
      intro l
      induction l with
      | nil => intro _ _; simp
      | cons e l ih =>
        intro hn hk
        simp only [List.map_cons, List.nodup_cons] at hn ⊢
        refine ⟨fun hm => ?_, ih hn.2 fun x hx => hk x (List.mem_cons_of_mem _ hx)⟩
        obtain ⟨f, hf, hfe⟩ := List.mem_map.1 hm
        obtain ⟨X, hX, hXk⟩ := hk e (List.mem_cons_self ..)
        obtain ⟨Y, hY, hYk⟩ := hk f (List.mem_cons_of_mem _ hf)
        rw [hfe, hX] at hY
        cases hY
        exact hn.1 (List.mem_map.2 ⟨f, hf, by rw [← hYk, hXk]⟩)
    exact key _ S.insN fun e he => by obtain ⟨_, X, hX, hk, _⟩ := S.ins e he; exact ⟨X, hX, hk⟩
  have a := len_of_sub hnd (m := s.all.filter fun p => decide (inOf it p = 1)) fun p hp => by
    obtain ⟨e, he, rfl⟩ := List.mem_map.1 hp
    obtain ⟨h2, X, hX, _, h4⟩ := S.ins e he
    exact List.mem_filter.2 ⟨h2, by simp [inOf, hX, h4]⟩
  have b := len_of_sub (S.nd.filter _) (l := s.all.filter fun p => decide (inOf it p = 1)) (m := s.ins.map (·.2)) fun p hp => by
    obtain ⟨h2, h3⟩ := List.mem_filter.1 hp
    obtain ⟨X, hX, e⟩ := S.ent p h2
    have hin : X.inn = true := by
      have h3 := of_decide_eq_true h3
      unfold inOf at h3
      rw [hX] at h3
      cases hh : X.inn with
      | true => rfl
      | false => simp [hh] at h3
    exact List.mem_map.2 ⟨_, e.inn hin, rfl⟩
  rw [List.length_map] at a b
  omega
theorem len_all {σ : CS} {m : Nat} (I : Inv m σ) : lenS σ = allT (inOf σ.it) σ.sh := by
  unfold lenS allT
  congr 1
  apply List.map_congr_left
  intro s hs
  obtain ⟨i, hi⟩ := List.mem_iff_getElem?.1 hs
  exact in_count (I.sh i s hi)

end Go.V.Yteojmnnobmpdiaa
set_option linter.unusedVariables false
set_option linter.unusedSimpArgs false
/-! The program's cache and the document's: alike behind each call. -/
namespace Go.V.Yteojmnnobmpdiaa
open Go Go.V

/-- All is alike: the parts, and the pins. -/
structure RA (f : Nat → Nat) (σ σ' : CS) : Prop where
  x : RX (fun _ => True) f σ σ'
  last : σ'.last = σ.last
  pins : σ'.pins = σ.pins.map fun e => (e.1, f e.2)

theorem adel_mapP {f : Nat → Nat} {n : Int} : ∀ (l : List (Int × Nat)), adel (.int .i64) n (l.map fun e => (e.1, f e.2)) = (adel (.int .i64) n l).map fun e => (e.1, f e.2)
  | [] => rfl
  | e :: l => by
    by_cases h : keq (.int .i64) n e.1 = true
    · have h' : keq (.int .i64) n ((e.1, f e.2) : Int × Nat).1 = true := h
      rw [List.map_cons, adel, adel, if_pos h, if_pos h']
    · have h' : ¬ keq (.int .i64) n ((e.1, f e.2) : Int × Nat).1 = true := h
      rw [List.map_cons, adel, adel, if_neg h, if_neg h', List.map_cons, adel_mapP l]

theorem RA.new (n : Nat) (room : Int) (strict : Bool) : RA id (newS n room strict) (newS n room strict) := ⟨RX.new .., rfl, rfl⟩

/-- What two caches tell of a pin. -/
theorem RA.pin {f : Nat → Nat} {σ σ' : CS} {m m' : Nat} (r : RA f σ σ') (I : Inv m σ) (I' : Inv m' σ') {n : Int} {x : Nat} (h : (n, x) ∈ σ.pins) : (n, f x) ∈ σ'.pins ∧ ∀ X, σ.it x = some X → σ'.it (f x) = some X := by
  refine ⟨by rw [r.pins]; exact List.mem_map.2 ⟨(n, x), h, rfl⟩, fun X hX => ?_⟩
  obtain ⟨s, hs, hm, _⟩ := I.at h hX
  obtain ⟨s1, s', hs1, hs', R⟩ := r.x.at (sh_lt hs) trivial
  rw [hs] at hs1; cases hs1
  rw [R.it x hm]; exact hX

theorem RA.putM {f : Nat → Nat} {σ σ' : CS} {m m' : Nat} (r : RA f σ σ') (I : Inv m σ) (I' : Inv m' σ') (h1 : 1 ≤ σ.sh.length) (key : ByteArray) (ch : Int) : RA f (putM σ key ch) (putM σ' key ch) := by
  have a := putM_same σ key ch
  have b := putM_same σ' key ch
  exact ⟨r.x.room1 I I' h1 trivial ch, by rw [a.last, b.last, r.last], by rw [a.pins, b.pins, r.pins]⟩
theorem RA.put {f : Nat → Nat} {σ σ' : CS} {m m' p p' : Nat} {key : ByteArray} {v ch : Int} (r : RA f σ σ') (I : Inv m σ) (I' : Inv m' σ') (h1 : 1 ≤ σ.sh.length) (hp : σ.it p = none) (hp' : σ'.it p' = none) :
    RA (ren f p p') (putA σ key v ch p) (putA σ' key v ch p') := by
  have a := putA_pins σ key v ch p
  have b := putA_pins σ' key v ch p'
  refine ⟨r.x.put I I' h1 trivial hp hp', by rw [a.2.1, b.2.1, r.last], ?_⟩
  rw [a.1, b.1, r.pins, r.last, List.map_append]
  congr 1
  · apply List.map_congr_left
    intro e he
    have : e.2 ≠ p := fun h => by
      obtain ⟨_, _, X, hX, _⟩ := I.pin e he
      rw [h, hp] at hX; cases hX
    simp [ren, this]
  · simp [ren]
theorem RA.full {f : Nat → Nat} {σ σ' : CS} {m m' : Nat} (r : RA f σ σ') (I : Inv m σ) (I' : Inv m' σ') (h1 : 1 ≤ σ.sh.length) (key : ByteArray) (ch : Int) : putFull σ' key ch ↔ putFull σ key ch := by
  have rM := r.x.room1 I I' h1 (key := key) trivial ch
  have hlt : shardOf σ.sh.length key < (Yteojmnnobmpdiaa.putM σ key ch).sh.length := by rw [(putM_same ..).len]; exact shardOf_lt h1 key
  obtain ⟨s, s', hs, hs', R⟩ := rM.at hlt trivial
  unfold putFull
  rw [r.x.strict, r.x.share, r.x.sh0, shAt_of hs, shAt_of hs', R.used]

/-- Get, on both sides. -/
theorem RX.get {J : Nat → Prop} {f : Nat → Nat} {σ σ' : CS} {i q m m' : Nat} {s s' : Sh} {X : It} {key : ByteArray} (r : RX J f σ σ') (I : Inv m σ) (I' : Inv m' σ') (hJ : J i) (hs : σ.sh[i]? = some s) (hs' : σ'.sh[i]? = some s') (hq : (key, q) ∈ s.ins) (hX : σ.it q = some X) :
    RX J f (repin σ i s q X) (repin σ' i s' (f q) X) := by
  have R := r.sh i s s' hJ hs hs'
  have S := I.sh i s hs
  obtain ⟨hm, _, _⟩ := S.at hq hX
  have hinj : ∀ p ∈ s.all, f p = f q → p = q := fun p hp h => R.inj p hp q hm h
  refine r.upd (x := q) (x' := f q) I (t := { s with waits := s.waits.filter fun p => !decide (p = q) }) (t' := { s' with waits := s'.waits.filter fun p => !decide (p = f q) }) rfl rfl r.room r.strict (fun p hp => by simp [repin, hp]) (fun p hp => by simp [repin, hp]) (I.only hs hm) (I'.only hs' (R.mem hm)) (fun _ _ => rfl) fun _ _ => ?_
  refine ⟨R.all, ?_, R.ins, R.inj, fun p hp => ?_⟩
  · simp only
    rw [R.waits, map_filter_inj fun p hp => hinj p ((S.w p).1 hp).1]
  · simp only [repin]
    by_cases h : p = q
    · subst h; simp
    · have : f p ≠ f q := fun e => h (hinj p hp e)
      rw [if_neg h, if_neg this]; exact R.it p hp
theorem RA.look {f : Nat → Nat} {σ σ' : CS} (r : RA f σ σ') (h1 : 1 ≤ σ.sh.length) (key : ByteArray) : lookK key (σ'.shAt (shardOf σ'.sh.length key)).ins = (lookK key (σ.shAt (shardOf σ.sh.length key)).ins).map f := by
  obtain ⟨s, s', hs, hs', R⟩ := r.x.at (shardOf_lt h1 key) trivial
  rw [r.x.sh0, shAt_of hs, shAt_of hs', R.ins, lookK_map]
theorem RA.get {f : Nat → Nat} {σ σ' : CS} {m m' q : Nat} {X : It} {key : ByteArray} (r : RA f σ σ') (I : Inv m σ) (I' : Inv m' σ') (h1 : 1 ≤ σ.sh.length) (hq : lookK key (σ.shAt (shardOf σ.sh.length key)).ins = some q) (hX : σ.it q = some X) :
    σ'.it (f q) = some X ∧ RA f (repin σ (shardOf σ.sh.length key) (σ.shAt (shardOf σ.sh.length key)) q X) (repin σ' (shardOf σ'.sh.length key) (σ'.shAt (shardOf σ'.sh.length key)) (f q) X) := by
  obtain ⟨s, s', hs, hs', R⟩ := r.x.at (shardOf_lt h1 key) trivial
  rw [shAt_of hs] at hq
  have hm := lookK_some hq
  have hqa := ((I.sh _ s hs).ins _ hm).1
  refine ⟨by rw [R.it q hqa]; exact hX, ?_, by simp [repin, r.last], by simp [repin, r.pins, r.last]⟩
  rw [r.x.sh0, shAt_of hs, shAt_of hs']
  exact r.x.get I I' trivial hs hs' hm hX

theorem RA.free {f : Nat → Nat} {σ σ' : CS} {m m' x : Nat} {n : Int} {X : It} (r : RA f σ σ') (I : Inv m σ) (I' : Inv m' σ') (hn : (n, x) ∈ σ.pins) (hX : σ.it x = some X) : RA f (freeT σ n x X) (freeT σ' n (f x) X) := by
  obtain ⟨hn', hX'⟩ := r.pin I I' hn
  obtain ⟨s, hs, _⟩ := I.at hn hX
  obtain ⟨s', hs', _⟩ := I'.at hn' (hX' X hX)
  have a := freeT_same (n := n) hX hs
  have b := freeT_same (n := n) (hX' X hX) hs'
  exact ⟨r.x.free I I' hn hn' hX (hX' X hX) trivial, by rw [a.2.2.1, b.2.2.1, r.last], by rw [a.2.2.2.1, b.2.2.2.1, r.pins, adel_mapP]⟩

theorem RA.drop {f : Nat → Nat} {σ σ' : CS} {m m' : Nat} (r : RA f σ σ') (I : Inv m σ) (I' : Inv m' σ') (h1 : 1 ≤ σ.sh.length) (key : ByteArray) : (dropS σ' key).1 = (dropS σ key).1 ∧ RA f (dropS σ key).2 (dropS σ' key).2 := by
  have a := dropS_same I h1 key
  have b := dropS_same I' (by rw [r.x.len]; exact h1) key
  have hpl : (dropS σ' key).2.last = (dropS σ key).2.last ∧ (dropS σ' key).2.pins = (dropS σ key).2.pins.map fun e => (e.1, f e.2) := ⟨by rw [a.1.last, b.1.last, r.last], by rw [a.1.pins, b.1.pins, r.pins]⟩
  obtain ⟨s, s', hs, hs', R⟩ := r.x.at (shardOf_lt h1 key) trivial
  have key1 : (dropS σ' key).1 = (dropS σ key).1 ∧ RX (fun _ => True) f (dropS σ key).2 (dropS σ' key).2 := by
    unfold dropS
    simp only [r.x.sh0, shAt_of hs, shAt_of hs', R.ins, lookK_map]
    cases hl : lookK key s.ins with
    | none => exact ⟨rfl, r.x⟩
    | some q =>
      have hq := lookK_some hl
      obtain ⟨hm, X, hX, _⟩ := (I.sh _ s hs).ins _ hq
      have hX0 : σ.it q = some X := hX
      have hX' : σ'.it (f q) = some X := by rw [R.it q hm]; exact hX0
      simp only [Option.map_some, hX0, hX']
      exact ⟨trivial, r.x.out I I' trivial hs hs' hq hX0⟩
  exact ⟨key1.1, key1.2, hpl.1, hpl.2⟩

theorem RA.room {f : Nat → Nat} {σ σ' : CS} {m m' : Nat} (r : RA f σ σ') (I : Inv m σ) (I' : Inv m' σ') (k : Int) : RA f (roomS σ k) (roomS σ' k) := by
  have a := roomS_same σ k
  have b := roomS_same σ' k
  refine ⟨?_, by rw [a.1.last, b.1.last]; exact r.last, by rw [a.1.pins, b.1.pins]; exact r.pins⟩
  unfold roomS
  rw [r.x.len]
  have I0 : Inv m { σ with room := k } := ⟨I.sh, I.cn, I.pin, I.pinN, I.pl, I.keys, I.l0, I.l1, I.len, I.ok⟩
  have I0' : Inv m' { σ' with room := k } := ⟨I'.sh, I'.cn, I'.pin, I'.pinN, I'.pl, I'.keys, I'.l0, I'.l1, I'.len, I'.ok⟩
  have X0 : RX (fun _ => True) f { σ with room := k } { σ' with room := k } := ⟨r.x.len, rfl, r.x.strict, r.x.sh⟩
  have key : ∀ (l : List Nat) (τ τ' : CS), (∀ i ∈ l, i < τ.sh.length) → RX (fun _ => True) f τ τ' → Inv m τ → Inv m' τ' → RX (fun _ => True) f (l.foldl (fun τ i => makesS i 0 (share τ) (τ.shAt i).waits.length τ) τ) (l.foldl (fun τ i => makesS i 0 (share τ) (τ.shAt i).waits.length τ) τ') := by
    intro l
    induction l with
    | nil => intro τ τ' _ h _ _; exact h
    | cons i l ih =>
      intro τ τ' hl h J J'
      obtain ⟨s, s', hs, hs', R⟩ := h.at (hl i (List.mem_cons_self ..)) trivial
      rw [List.foldl_cons, List.foldl_cons, h.share, shAt_of hs, shAt_of hs', R.waits, List.length_map]
      exact ih _ _ (fun j hj => by rw [(makesS_same ..).len]; exact hl j (List.mem_cons_of_mem _ hj)) (RX.makes trivial _ _ _ h J J') (Inv.makes _ _ _ _ J) (Inv.makes _ _ _ _ J')
  exact key _ _ _ (fun i hi => by simpa using hi) X0 I0 I0'

/-- What is told in all is the same. -/
theorem RX.allT {f : Nat → Nat} {σ σ' : CS} (r : RX (fun _ => True) f σ σ') {g g' : Nat → Int} (h : ∀ (i : Nat) (s : Sh), σ.sh[i]? = some s → ∀ p ∈ s.all, g' (f p) = g p) : allT g' σ'.sh = allT g σ.sh := by
  have key : σ'.sh.map (fun s => sums (s.all.map g')) = σ.sh.map fun s => sums (s.all.map g) := by
    apply List.ext_getElem?
    intro i
    rw [List.getElem?_map, List.getElem?_map]
    by_cases hi : i < σ.sh.length
    · obtain ⟨s, s', hs, hs', R⟩ := r.at hi trivial
      rw [hs, hs']
      simp only [Option.map_some, R.all, List.map_map]
      congr 2
      apply List.map_congr_left
      intro p hp
      exact h i s hs p hp
    · have h1 : σ.sh[i]? = none := List.getElem?_eq_none (by omega)
      have h2 : σ'.sh[i]? = none := List.getElem?_eq_none (by rw [r.len]; omega)
      rw [h1, h2]; rfl
  unfold Yteojmnnobmpdiaa.allT
  rw [key]
theorem RA.sums {f : Nat → Nat} {σ σ' : CS} (r : RA f σ σ') : allT (chOf σ'.it) σ'.sh = allT (chOf σ.it) σ.sh ∧ allT (pchOf σ'.it) σ'.sh = allT (pchOf σ.it) σ.sh ∧ allT (inOf σ'.it) σ'.sh = allT (inOf σ.it) σ.sh := by
  have hit : ∀ (i : Nat) (s : Sh), σ.sh[i]? = some s → ∀ p ∈ s.all, σ'.it (f p) = σ.it p := fun i s hs p hp => by
    obtain ⟨s1, s', hs1, hs', R⟩ := r.x.at (sh_lt hs) trivial
    rw [hs] at hs1; cases hs1
    exact R.it p hp
  exact ⟨r.x.allT fun i s hs p hp => by simp only [chOf, hit i s hs p hp], r.x.allT fun i s hs p hp => by simp only [pchOf, hit i s hs p hp], r.x.allT fun i s hs p hp => by simp only [inOf, hit i s hs p hp]⟩

end Go.V.Yteojmnnobmpdiaa
