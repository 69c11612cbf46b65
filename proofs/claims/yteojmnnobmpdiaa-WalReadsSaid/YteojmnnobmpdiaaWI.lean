/- This text proves a part of the laws of seat Yteojmnnobmpdiaa, under no condition: W5e W5f. -/
import Derived.Test.YteojmnnobmpdiaaWH
set_option linter.unusedVariables false
set_option linter.unusedSimpArgs false
/-! The log's contracts: Read. -/
namespace Go.V.Yteojmnnobmpdiaa
open Go Go.V Go.V.Crc Go.V.Wal

theorem room_run (n : Nat) : IntKind.wrap .i64 (4096 - Int.tmod (n : Int) 4096) = (roomS n : Int) := by
  have := roomS_pos n
  unfold roomS at *
  rw [Int.tmod_eq_emod_of_nonneg (by omega), wi64 (by omega) (by omega)]
  omega

theorem len_run {rest : List UInt8} (h4 : 5 < rest.length) (rec : Bool) :
    IntKind.wrap .i64 (IntKind.wrap .i64 ((headS rec : Nat) + IntKind.wrap .i64 (rest[4].toNat : Int)) + shiftL .i64 (IntKind.wrap .i64 (rest[5].toNat : Int)) 8) = ((headS rec + lenS rest : Nat) : Int) := by
  have h1 := rest[4].toNat_lt
  have h2 := rest[5].toNat_lt
  have hh := headS_two rec
  have e1 : at_ rest 4 = rest[4].toNat := by simp [at_, List.getD, show 4 < rest.length by omega]
  have e2 : at_ rest 5 = rest[5].toNat := by simp [at_, List.getD, h4]
  have hs : shiftL .i64 (IntKind.wrap .i64 (rest[5].toNat : Int)) 8 = 256 * (rest[5].toNat : Int) := by
    unfold shiftL
    rw [show (2 : Int) ^ min (8 : Int).toNat (IntKind.bits .i64) = 256 from rfl, wi64 (n := (rest[5].toNat : Int)) (by omega) (by omega), wi64 (by omega) (by omega)]
    omega
  rw [hs, wi64 (n := (rest[4].toNat : Int)) (by omega) (by omega), wi64 (n := ((headS rec : Nat) : Int) + _) (by omega) (by omega), wi64 (by omega) (by omega)]
  unfold lenS
  rw [e1, e2]
  omega

section
variable {h : Heap} {p : Nat} {t : TypeId} {s0 : Slc} {log : Int} {rec : Bool} {at' : Nat} {within : Bool} {b : List UInt8}

theorem next0 (B : Blk h p t (rdr s0 log rec at' within)) (a : Byt h s0 b) (hat : at' ≤ b.length) (hb : b.length ≤ 1073741824) (hp : ∀ off, s0.a ≠ some (p, off)) (hroom : ¬ roomS at' < headS rec) {R : Int → Slc → Int → Heap → Prop}
    (k0 : ∀ how h', fragS (b.drop at') (roomS at') rec log within = .stop how → Ext (fun i => i = p) h h' → R 0 ⟨none, 0, 0⟩ how h')
    (k1 : ∀ typ body n s' h', fragS (b.drop at') (roomS at') rec log within = .take typ body n → Ext (fun i => i = p) h h' → Blk h' p t (rdr s0 log rec (at' + n) within) → Byt h' s' body → (∀ b off, s'.a = some (b, off) → ∃ off', s0.a = some (b, off')) → R typ s' (-1) h') :
    Call Go.Proofs.Try.prog 84 [.lf (.ptr (some (p, 0)))] h [.one (.int .i64), .one .slc, .one (.int .i64)] R := by
  have hh := headS_two rec
  have hlen := a.len
  have hr := roomS_pos at'
  refine ok84 ?_
  refine NilC.mk rfl ⟨_, B.cell rfl, by omega, NilC.mk rfl ⟨_, B.cell rfl, NilC.mk rfl ⟨_, B.cell rfl, by omega, by omega, NilC.mk rfl ⟨_, B.cell rfl, ?_⟩⟩⟩⟩
  rw [room_run]
  refine Br.f (decide_eq_false (by omega)) ?_
  have ar := a.drop hat
  rw [show ((at' : Nat) : Int).toNat = at' by omega]
  have hin : ∀ b off, (s0.sub 1 at' s0.len s0.cap).a = some (b, off) → ∃ off', s0.a = some (b, off') := fun b off hb => sub_inS hb
  generalize s0.sub 1 at' s0.len s0.cap = sr at ar hin
  generalize hrest : b.drop at' = rest at *
  have hrl := ar.len
  have hrb : rest.length ≤ 1073741824 := by rw [← hrest, List.length_drop]; omega
  refine c118 ar.arr (by omega) (Br.mk (fun c => ?_) fun c => ?_)
  · exact c119 B (k0 _ h (by unfold fragS; rw [if_pos c]) (Ext.refl _ _))
  · refine NilC.mk rfl ⟨_, B.cell rfl, ?_⟩
    rw [hrl]
    refine Br.dec (fun c1 => k0 _ h (by unfold fragS; rw [if_neg (by rw [c]; simp), if_pos (by omega)]) (Ext.refl _ _)) fun c1 => ?_
    have h5 : 5 < rest.length := by omega
    refine NilC.mk rfl ⟨_, B.cell rfl, ar.arr.ix (k := 4) rfl (getB (by omega)) fun b1 o1 hb1 => ⟨_, hb1, ar.arr.ix (k := 5) rfl (getB h5) fun b2 o2 hb2 => ⟨_, hb2, by omega, ?_⟩⟩⟩
    rw [len_run h5 rec]
    have hll := lenS_lt rest
    refine Br.dec (fun c2 => ?_) fun c2 => Br.dec (fun c3 => ?_) fun c3 => ⟨by omega, by have := ar.cap; omega, ?_⟩
    · exact c120 B (k0 _ h (by unfold fragS; rw [if_neg (by rw [c]; simp), if_neg (by omega), if_pos (by omega)]) (Ext.refl _ _))
    · exact k0 _ h (by unfold fragS; rw [if_neg (by rw [c]; simp), if_neg (by omega), if_neg (by omega), if_pos (by omega)]) (Ext.refl _ _)
    · rw [show ((headS rec + lenS rest : Nat) : Int).toNat = headS rec + lenS rest by omega]
      have hf : fragS rest (roomS at') rec log within = lookS (rest.take (headS rec + lenS rest)) rec log within := by
        unfold fragS; rw [if_neg (by rw [c]; simp), if_neg (by omega), if_neg (by omega), if_neg (by omega)]
      have hfl : (rest.take (headS rec + lenS rest)).length = headS rec + lenS rest := by simp; omega
      refine c121 B (ar.take (by omega)) (by omega) (by omega) (by omega) (fun off ho => ?_) (fun how h' hl e => k0 _ _ (hf.trans hl) e.of0) fun typ body s' h' hl e B' a' hin' => ?_
      · obtain ⟨o1, z⟩ := sub_inS ho
        obtain ⟨o2, z⟩ := hin _ _ z
        exact hp _ z
      · refine k1 _ _ _ _ _ (hf.trans hl) e B' a' fun b off hb => ?_
        obtain ⟨o1, z⟩ := hin' b off hb
        obtain ⟨o2, z⟩ := sub_inS z
        exact hin _ _ z

theorem c84 (B : Blk h p t (rdr s0 log rec at' within)) (a : Byt h s0 b) (hat : at' ≤ b.length) (hb : b.length ≤ 1073741824) (hp : ∀ off, s0.a ≠ some (p, off)) {R : Int → Slc → Int → Heap → Prop}
    (k0 : ∀ at1 how h', nextS b rec log at' within = (at1, .stop how) → Ext (fun i => i = p) h h' → R 0 ⟨none, 0, 0⟩ how h')
    (k1 : ∀ at1 typ body n s' h', nextS b rec log at' within = (at1, .take typ body n) → Ext (fun i => i = p) h h' → Blk h' p t (rdr s0 log rec (at1 + n) within) → Byt h' s' body → (∀ b off, s'.a = some (b, off) → ∃ off', s0.a = some (b, off')) → R typ s' (-1) h') :
    Call Go.Proofs.Try.prog 84 [.lf (.ptr (some (p, 0)))] h [.one (.int .i64), .one .slc, .one (.int .i64)] R := by
  have hh := headS_two rec
  have hlen := a.len
  have hr := roomS_pos at'
  by_cases hroom : roomS at' < headS rec
  · refine ok84 ?_
    refine NilC.mk rfl ⟨_, B.cell rfl, by omega, NilC.mk rfl ⟨_, B.cell rfl, NilC.mk rfl ⟨_, B.cell rfl, by omega, by omega, NilC.mk rfl ⟨_, B.cell rfl, ?_⟩⟩⟩⟩
    rw [room_run]
    refine Br.t (decide_eq_true (by omega)) ?_
    have ar := a.drop hat
    rw [show ((at' : Nat) : Int).toNat = at' by omega]
    generalize s0.sub 1 at' s0.len s0.cap = sr at ar
    have hrl := ar.len
    rw [hrl]
    refine Br.dec (fun c => ?_) fun c => ?_
    · have c : roomS at' ≤ (b.drop at').length := by omega
      have c' := c
      rw [List.length_drop] at c'
      refine NilC.mk rfl ⟨_, B.cell rfl, NilC.mk rfl (StC.one B (by show 4 < 6; omega) fun h17 hs17 B17 e17 => ?_)⟩
      rw [wi64 (by omega) (by omega), show ((at' : Nat) : Int) + (roomS at' : Int) = ((at' + roomS at' : Nat) : Int) by omega] at B17
      have B17 : Blk h17 p t (rdr s0 log rec (at' + roomS at') within) := B17
      have a17 := a.ext e17 fun b off hb z => hp off (by have z : b = p := z; rw [← z]; exact hb)
      have hsk := nextS_skip (within := within) (log := log) hroom c
      have hu : nextS b rec log (at' + roomS at') within = (at' + roomS at', fragS (b.drop (at' + roomS at')) (roomS (at' + roomS at')) rec log within) := by
        unfold nextS
        rw [if_neg (by rw [roomS_skip]; omega)]
      refine next0 B17 a17 (by omega) hb hp (by rw [roomS_skip]; omega) (fun how h' hl e => k0 _ _ _ (by rw [hsk, hu, hl]) (e17.trans e)) fun typ body n s' h' hl e B' a' hin => k1 _ _ _ _ _ _ (by rw [hsk, hu, hl]) (e17.trans e) B' a' hin
    · have hu : nextS b rec log at' within = (at', .stop (if allZ (b.drop at') = true then endS within else 1)) := by
        unfold nextS; rw [if_pos hroom, if_neg (by omega)]
      have hrb : (b.drop at').length ≤ 1073741824 := by rw [List.length_drop]; omega
      refine c118 ar.arr (by omega) (Br.mk (fun c1 => ?_) fun c1 => ?_)
      · exact c119 B (k0 _ _ h (by rw [hu, if_pos c1]) (Ext.refl _ _))
      · exact k0 _ _ h (by rw [hu, if_neg (by rw [c1]; simp)]) (Ext.refl _ _)
  · have hu : nextS b rec log at' within = (at', fragS (b.drop at') (roomS at') rec log within) := by unfold nextS; rw [if_neg hroom]
    exact next0 B a hat hb hp hroom (fun how h' hl e => k0 _ _ _ (by rw [hu, hl]) e) fun typ body n s' h' hl e B' a' hin => k1 _ _ _ _ _ _ (by rw [hu, hl]) e B' a' hin
end

theorem c28 {h : Heap} {s : Slc} {b : List UInt8} {log : Int} (a : Byt h s b) (hs : ∀ blk off, s.a = some (blk, off) → blk < h.size) {R : Slc → Int → Int → Heap → Prop}
    (k : ∀ s' h', Rows h' s' (readAll b log).1 → Ext0 h h' → R s' (readAll b log).2.1 ((readAll b log).2.2 : Nat) h') :
    Call Go.Proofs.Try.prog 28 [.lf (.slc s), .lf (.int .u32 log)] h [.one .slc, .one (.int .i64), .one (.int .i64)] R := by
  have hlen := a.len
  refine ok28 (Br.dec (fun c => ?_) fun c => ?_)
  · have e : readAll b log = ([], 3, 0) := by unfold readAll; rw [if_pos (by omega)]
    rw [e] at k
    exact k _ _ ⟨[], Arr.nil _ _ _ _, by simp, rfl⟩ (Ext.refl _ _)
  have hb : b.length ≤ 1073741824 := by omega
  have hall : readAll b log = readS b (recS b) log (b.length + 1) 0 0 false [] [] := by unfold readAll; rw [if_neg (by omega)]
  rw [hall] at k
  generalize hfin : readS b (recS b) log (b.length + 1) 0 0 false [] [] = FIN at k
  refine New.mk fun p h1 hp0 hs1 e1 k1 => ?_
  have a1 := a.ext0 e1
  obtain ⟨t, k1⟩ : ∃ t, Blk h1 p t [.slc s, .int .u32 log, .bool false, .int .i64 7, .int .i64 0, .bool false] := ⟨_, k1⟩
  have hsp : ∀ off, s.a ≠ some (p, off) := fun off ho => by have := hs p off ho; omega
  refine ⟨fun hh => Blk hh p t (rdr s log (recS b) 0 false) ∧ Ext (fun i => i = p) h1 hh, ⟨fun x hh => x = recS b ∧ h1 = hh, ?_, ?_⟩, ?_⟩
  · rw [hlen]
    refine Br.dec (fun c1 => ?_) fun c1 => ⟨(decide_eq_false fun z => by omega).symm, rfl⟩
    have h6 : 6 < b.length := by omega
    have e6 : at_ b 6 = b[6].toNat := by simp [at_, List.getD, h6]
    refine a1.arr.ix (k := 6) rfl (getB h6) fun b4 o4 hb4 => ⟨_, hb4, Br.dec (fun c2 => a1.arr.ix (k := 6) rfl (getB h6) fun b5 o5 hb5 => ⟨_, hb5, ?_, rfl⟩) fun c2 => ⟨(decide_eq_false fun z => by omega).symm, rfl⟩⟩
    unfold recS
    rw [Bool.eq_iff_iff]; simp only [decide_eq_true_eq]
    constructor
    · intro z; omega
    · intro z; omega
  · rintro _ _ ⟨rfl, rfl⟩
    refine Br.mk (fun c1 => ?_) fun c1 => ?_
    · refine StC.one k1 (by show 2 < 6; omega) fun h12 hs12 B12 e12 => StC.one B12 (by show 3 < 6; omega) fun h13 hs13 B13 e13 => ⟨?_, e12.trans e13⟩
      rw [c1]; exact B13
    · rw [c1]; exact ⟨k1, Ext.refl _ _⟩
  rintro h14 ⟨B14, e14⟩
  generalize recS b = rec at *
  have D14 : RD h h14 (fun i => i = p) ⟨none, 0, 0⟩ ⟨none, 0, 0⟩ [] [] :=
    ⟨Own.nil _ _ _, Own.nil _ _ _, by simp, e1.trans' e14 fun i hi z => by have z : i = p := z; omega, fun i z => by have z : i = p := z; have := B14.lt; subst z; exact ⟨by omega, this⟩, (fun _ _ z => by cases z), (fun _ _ z => by cases z), by simp⟩
  refine ⟨fun out rcd place hh n => ∃ (f at1 pl : Nat) (within : Bool) (now : List UInt8) (xs : List (Slc × List UInt8)), place = pl ∧ RD h hh (fun i => i = p) out rcd xs now ∧ Blk hh p t (rdr s log rec at1 within) ∧ at1 ≤ b.length ∧ b.length < f + at1 ∧
      now.length ≤ at1 ∧ xs.length ≤ at1 ∧ readS b rec log f at1 pl within now (xs.map (·.2)) = FIN ∧ n = f, ⟨_, b.length + 1, 0, 0, false, [], [], rfl, D14, B14, by omega, by omega, by simp, by simp, hfin, rfl⟩, ?_⟩
  rintro out rcd _ h20 nn ⟨f, at1, pl, within, now, xs, rfl, D, B, hat, hf, hnow, hxs, hread, hnn⟩
  obtain ⟨f, rfl⟩ : ∃ f', f = f' + 1 := ⟨f - 1, by omega⟩
  subst hnn
  have a20 := a.ext0 D.ext
  refine c84 B a20 hat hb hsp (fun at2 how h' hn e => ?_) fun at2 typ body n s' h' hn e B' a' hin => ?_
  · have hw : how ≠ -1 := by have := nextS_stop hn; omega
    refine Br.ne (fun _ => ?_) fun c => absurd c hw
    have hr : readS b rec log (f + 1) at1 pl within now (xs.map (·.2)) = (xs.map (·.2), how, pl) := by
      rw [readS, hn]
    rw [hr] at hread
    subst hread
    have D' := D.step e fun i z => z
    exact k _ _ D'.rows D'.ext
  · obtain ⟨g1, g2, g3, g4, g5, g6⟩ := nextS_take hn hat
    refine Br.ne (fun c => absurd rfl c) fun _ => ?_
    have D' := D.step e fun i z => z
    have hbl : body.length ≤ n := by omega
    refine D'.app a'.arr (by omega) fun r2 h27 D27 e27 => ?_
    have hpr : ∀ off, rcd.a ≠ some (p, off) := fun off z => (D.rn p off z).2.1 rfl
    have B27 := B'.ext e27 fun ⟨off, z⟩ => hpr off z
    have step : readS b rec log (f + 1) at1 pl within now (xs.map (·.2)) = if typ = 2 ∨ typ = 3 then readS b rec log f (at2 + n) pl true (now ++ body) (xs.map (·.2)) else readS b rec log f (at2 + n) (at2 + n) false [] (xs.map (·.2) ++ [now ++ body]) := by
      rw [readS, hn]
    have more : ∀ hh, Ext (fun i => i = p) h27 hh → Blk hh p t (rdr s log rec (at2 + n) true) → (typ = 2 ∨ typ = 3) → ∃ b36, b36 < f + 1 ∧ ∃ (f' at1 pl' : Nat) (within : Bool) (now' : List UInt8) (xs' : List (Slc × List UInt8)), (pl : Int) = pl' ∧ RD h hh (fun i => i = p) out r2 xs' now' ∧ Blk hh p t (rdr s log rec at1 within) ∧ at1 ≤ b.length ∧ b.length < f' + at1 ∧
        now'.length ≤ at1 ∧ xs'.length ≤ at1 ∧ readS b rec log f' at1 pl' within now' (xs'.map (·.2)) = FIN ∧ b36 = f' := fun hh e28 B28 ht =>
      ⟨f, by omega, f, at2 + n, pl, true, now ++ body, xs, rfl, D27.step e28 fun i z => z, B28, by omega, by omega, by simp; omega, by omega, by rw [step, if_pos ht] at hread; exact hread, rfl⟩
    have done : ∀ hh, Ext (fun i => i = p) h27 hh → Blk hh p t (rdr s log rec (at2 + n) false) → ¬ (typ = 2 ∨ typ = 3) → New 55 [.slc r2] hh fun b30 h31 => AppC 55 [.slc ⟨none, 0, 0⟩] 1 24 out ⟨some (b30, 0), 1, 1⟩ h31 fun s32 h33 => ∃ i34 : Int, cellsAt h33 p 4 [.int .i64 i34] ∧ ∃ b35, b35 < f + 1 ∧
        ∃ (f' at1 pl' : Nat) (within : Bool) (now' : List UInt8) (xs' : List (Slc × List UInt8)), i34 = pl' ∧ RD h h33 (fun i => i = p) s32 ⟨none, 0, 0⟩ xs' now' ∧ Blk h33 p t (rdr s log rec at1 within) ∧ at1 ≤ b.length ∧ b.length < f' + at1 ∧
        now'.length ≤ at1 ∧ xs'.length ≤ at1 ∧ readS b rec log f' at1 pl' within now' (xs'.map (·.2)) = FIN ∧ b35 = f' := fun hh e28 B28 ht => by
      have D28 := D27.step e28 fun i z => z
      refine D28.push (by omega) fun o3 h33 D33 e33 => ?_
      have hpo : ∀ off, out.a ≠ some (p, off) := fun off z => (D.on p off z).2 rfl
      have B33 := B28.ext e33 fun ⟨off, z⟩ => hpo off z
      refine ⟨_, B33.cell rfl, f, by omega, f, at2 + n, at2 + n, false, [], xs ++ [(r2, now ++ body)], rfl, D33, B33, by omega, by omega, by simp, by simp; omega, ?_, rfl⟩
      rw [step, if_neg ht] at hread
      simpa using hread
    refine Br.eq (fun c2 => StC.one B27 (by show 5 < 6; omega) fun h28 hs28 B28 e28 => ⟨_, B28.cell rfl, Br.f rfl (more h28 e28 B28 (.inl c2))⟩) fun c2 => StC.one B27 (by show 5 < 6; omega) fun h28 hs28 B28 e28 => ⟨_, B28.cell rfl, ?_⟩
    refine Br.mk (fun c3 => done h28 e28 ?_ fun z => ?_) fun c3 => more h28 e28 ?_ (.inr (by simpa using c3))
    · have : (typ == 3) = false := by simpa using c3
      rw [this] at B28
      exact B28
    · rcases z with z | z
      · exact c2 z
      · rw [z] at c3; cases c3
    · have : (typ == 3) = true := by simpa using c3
      rw [this] at B28
      exact B28

end Go.V.Yteojmnnobmpdiaa
set_option linter.unusedVariables false
set_option linter.unusedSimpArgs false
/-! The log's contracts: the document's Read. -/
namespace Go.V.Yteojmnnobmpdiaa
open Go Go.V Go.V.Crc Go.V.Wal

theorem take_take4 {l : List UInt8} {n : Nat} (h : 4 ≤ n) : (l.take n).take 4 = l.take 4 := by rw [List.take_take, Nat.min_eq_left h]
theorem drop_take4 {l : List UInt8} {n : Nat} (h : 11 ≤ n) : ((l.take n).drop 7).take 4 = (l.drop 7).take 4 := by
  rw [List.drop_take, List.take_take, Nat.min_eq_left (by omega)]
theorem at_take {l : List UInt8} {n i : Nat} (h : i < n) : at_ (l.take n) i = at_ l i := by
  unfold at_; simp [List.getD, List.getElem?_take, h]

section
variable {h : Heap} {log : Int} {rec : Bool} {at' : Nat} {within : Bool} {b : List UInt8}

theorem c89 {s : Slc} {rest : List UInt8} (a : Byt h s rest) (hl : rest.length ≤ 1073741824) {room : Nat} (hroom : room ≤ 4096) {R : Int → Slc → Int → Heap → Prop}
    (k0 : ∀ how, fragS rest room rec log within = .stop how → R 0 ⟨none, 0, 0⟩ how h)
    (k1 : ∀ typ body n s', fragS rest room rec log within = .take typ body n → Byt h s' body → R typ s' 0 h) :
    Call Go.Proofs.Try.prog 89 [.lf (.slc s), .lf (.int .i64 (room : Nat)), .lf (.int .i64 (headS rec : Nat)), .lf (.int .u32 log), .lf (.bool rec), .lf (.bool within), .lf (.int .i64 (badS rec))] h [.one (.int .i64), .one .slc, .one (.int .i64)] R := by
  have hh := headS_two rec
  have hlen := a.len
  refine ok89 (c87 a.arr (by omega) (Br.mk (fun c => ?_) fun c => ?_))
  · exact c88 (k0 _ (by unfold fragS; rw [if_pos c]))
  have c : ¬ allZ rest = true := by rw [c]; simp
  refine Br.dec (fun c1 => k0 _ (by unfold fragS; rw [if_neg c, if_pos (by omega)])) fun c1 => ⟨by omega, by omega, ?_⟩
  have h5 : 5 < rest.length := by omega
  have e1 : at_ rest 4 = rest[4].toNat := by simp [at_, List.getD, show 4 < rest.length by omega]
  have e2 : at_ rest 5 = rest[5].toNat := by simp [at_, List.getD, h5]
  have hll := lenS_lt rest
  have hfix : fixI ((rest.drop 4).take 2) = (lenS rest : Int) := by
    have : (rest.drop 4).take 2 = [rest[4], rest[5]] := by
      rw [List.drop_eq_getElem_cons (by omega : 4 < rest.length), List.drop_eq_getElem_cons (by omega : 4 + 1 < rest.length)]
      rfl
    rw [this, fix_two]
    unfold lenS
    rw [e1, e2]
  refine c122 (a.drop (lo := 4) (by omega)).arr (m := 2) (by omega) (fun h0 => by rw [List.length_drop] at h0; omega) fun _ => ?_
  rw [hfix, wi64 (n := (lenS rest : Int)) (by omega) (by omega), wi64 (by omega) (by omega), hlen]
  refine Br.dec (fun c2 => k0 _ (by unfold fragS; rw [if_neg c, if_neg (by omega), if_pos (by omega)])) fun c2 => Br.dec (fun c3 => k0 _ (by unfold fragS; rw [if_neg c, if_neg (by omega), if_neg (by omega), if_pos (by omega)])) fun c3 => ?_
  have hf : fragS rest room rec log within = lookS (rest.take (headS rec + lenS rest)) rec log within := by
    unfold fragS; rw [if_neg c, if_neg (by omega), if_neg (by omega), if_neg (by omega)]
  have hcap := a.cap
  rw [show ((headS rec : Nat) : Int) + (lenS rest : Int) = ((headS rec + lenS rest : Nat) : Int) by omega]
  refine c122 a.arr (m := 4) (by omega) (fun h0 => by omega) fun _ => ⟨by omega, by omega, by omega, by omega, ?_⟩
  generalize hn : headS rec + lenS rest = n at *
  have hsub := a.sub (lo := 6) (hi := n) (by omega) (by omega)
  rw [show ((n : Nat) : Int).toNat = n by omega]
  generalize hF : rest.take n = f at *
  have hfl : f.length = n := by rw [← hF]; simp; omega
  have h6 : 6 < rest.length := by omega
  have h6f : at_ f 6 = at_ rest 6 := by rw [← hF]; exact at_take (by omega)
  have h4f : f.take 4 = rest.take 4 := by rw [← hF]; exact take_take4 (by omega)
  refine c124 hsub.arr (by rw [List.length_drop]; omega) (c123 (Br.ne (fun c4 => ?_) fun c4 => ?_))
  · have : sumS f = false := decide_eq_false (by rw [h4f]; exact c4)
    exact k0 _ (hf.trans (by unfold lookS; rw [if_pos (.inl this)]))
  have hsum : sumS f = true := decide_eq_true (by rw [h4f]; exact c4)
  refine a.arr.ix (k := 6) rfl (getB h6) fun b3 o3 hb3 => ⟨_, hb3, ?_⟩
  obtain ⟨ht1, ht2⟩ := typ_run (rec := rec) h6
  have hty : typS rest rec = typS f rec := by unfold typS; rw [h6f]
  rw [hty] at ht1 ht2
  refine ⟨fun i hh => i = typS f rec ∧ h = hh, Br.mk (fun c => ⟨ht2 c, rfl⟩) fun c => ⟨ht1 c, rfl⟩, ?_⟩
  rintro _ _ ⟨rfl, rfl⟩
  refine ⟨fun x hh => x = decide (typS f rec < 1 ∨ typS f rec > 4) ∧ h = hh, Br.dec (fun c5 => ⟨(decide_eq_true (.inl c5)).symm, rfl⟩) fun c5 => ⟨?_, rfl⟩, ?_⟩
  · rw [Bool.eq_iff_iff]; simp only [decide_eq_true_eq]
    exact ⟨fun z => .inr z, fun z => z.resolve_left c5⟩
  rintro _ _ ⟨rfl, rfl⟩
  refine Br.dec (fun c5 => k0 _ (hf.trans (by unfold lookS; rw [if_pos (.inr c5)]))) fun c5 => ?_
  have c6 : ¬ (sumS f = false ∨ typS f rec < 1 ∨ typS f rec > 4) := fun z => z.elim (fun z => by rw [hsum] at z; cases z) c5
  refine ⟨fun hh => ¬ (rec = true ∧ logS f ≠ log) ∧ h = hh, Br.mk (fun cr => ⟨by omega, by omega, ?_⟩) fun cr => ⟨fun z => (by rw [cr] at z; cases z.1), rfl⟩, ?_⟩
  · have h11 : headS rec = 11 := by rw [cr]; rfl
    have hlf : IntKind.wrap .u32 (fixI ((rest.drop 7).take 4)) = logS f := by unfold logS; rw [← hF, drop_take4 (by omega)]
    have ad := a.drop (lo := 7) (by omega)
    rw [hlen] at ad
    refine c122 ad.arr (m := 4) (by omega) (fun h0 => by rw [List.length_drop] at h0; omega) fun _ => ?_
    rw [hlf]
    exact Br.ne (fun c7 => k0 _ (hf.trans (by unfold lookS; rw [if_neg c6, if_pos ⟨cr, c7⟩]))) fun c7 => ⟨fun z => z.2 c7, rfl⟩
  · rintro _ ⟨c7, rfl⟩
    have last : ∀ x : Bool, x = decide (typS f rec = 3 ∨ typS f rec = 4) → Br (!(x == within)) (R 0 ⟨none, 0, 0⟩ (badS rec) h) (0 ≤ (n : Int) ∧ (n : Int) ≤ (s.cap : Int) ∧ 0 ≤ (headS rec : Int) ∧ (headS rec : Int) ≤ (n : Int) ∧ R (typS f rec) (s.sub 1 (headS rec : Int).toNat n s.cap) 0 h) := by
      intro x hx
      have hx' : x = !decide (typS f rec = 1 ∨ typS f rec = 2) := by
        rw [hx, Bool.eq_iff_iff]; simp; omega
      refine Br.mk (fun c8 => ?_) fun c8 => ⟨by omega, by omega, by omega, by omega, ?_⟩
      · refine k0 _ (hf.trans ?_)
        unfold lookS; rw [if_neg c6, if_neg c7, if_pos]
        rw [hx'] at c8
        generalize decide (typS f rec = 1 ∨ typS f rec = 2) = q at c8
        cases q <;> cases within <;> simp_all
      · rw [show ((headS rec : Nat) : Int).toNat = headS rec by omega]
        have hs2 := a.sub (lo := headS rec) (hi := n) (by omega) (by omega)
        rw [hF] at hs2
        refine k1 _ _ f.length _ (hf.trans ?_) hs2
        unfold lookS; rw [if_neg c6, if_neg c7, if_neg]
        rw [hx'] at c8
        generalize decide (typS f rec = 1 ∨ typS f rec = 2) = q at c8
        cases q <;> cases within <;> simp_all
    refine Br.eq (fun c8 => last true ?_) fun c8 => last (typS f rec == 4) ?_
    · simp [c8]
    · rw [Bool.eq_iff_iff]; simp [c8]

theorem c85 {s : Slc} {b : List UInt8} (a : Arr 1 bF h s b) {R : Bool → Heap → Prop} (k : R (recS b) h) : Call Go.Proofs.Try.prog 85 [.lf (.slc s)] h [.one .bool] R := by
  have hlen := a.len
  refine ok85 ?_
  refine Br.dec (fun c1 => ?_) fun c1 => ?_
  · have h6 : 6 < b.length := by omega
    have e6 : at_ b 6 = b[6].toNat := by simp [at_, List.getD, h6]
    refine a.ix (k := 6) rfl (getB h6) fun b4 o4 hb4 => ⟨_, hb4, Br.dec (fun c2 => a.ix (k := 6) rfl (getB h6) fun b5 o5 hb5 => ⟨_, hb5, ?_⟩) fun c2 => ?_⟩
    · have : recS b = decide ((b[6].toNat : Int) ≤ 8) := by
        unfold recS; rw [e6, Bool.eq_iff_iff]; simp only [decide_eq_true_eq]; omega
      rw [← this]; exact k
    · have : recS b = false := decide_eq_false fun z => by omega
      rw [← this]; exact k
  · have : recS b = false := decide_eq_false fun z => by omega
    rw [← this]; exact k
end

theorem c29 {h : Heap} {s : Slc} {b : List UInt8} {log : Int} (a : Byt h s b) {R : Slc → Int → Int → Heap → Prop}
    (k : ∀ s' h', Rows h' s' (readAll b log).1 → Ext0 h h' → R s' (readAll b log).2.1 ((readAll b log).2.2 : Nat) h') :
    Call Go.Proofs.Try.prog 29 [.lf (.slc s), .lf (.int .u32 log)] h [.one .slc, .one (.int .i64), .one (.int .i64)] R := by
  have hlen := a.len
  refine ok29 (Br.dec (fun c => ?_) fun c => ?_)
  · have e : readAll b log = ([], 3, 0) := by unfold readAll; rw [if_pos (by omega)]
    rw [e] at k
    exact k _ _ ⟨[], Arr.nil _ _ _ _, by simp, rfl⟩ (Ext.refl _ _)
  have hb : b.length ≤ 1073741824 := by omega
  have hall : readAll b log = readS b (recS b) log (b.length + 1) 0 0 false [] [] := by unfold readAll; rw [if_neg (by omega)]
  rw [hall] at k
  generalize hfin : readS b (recS b) log (b.length + 1) 0 0 false [] [] = FIN at k
  refine c85 a.arr (New.mk fun b2 h3 hb2 hs3 e3 k3 => c86 ?_)
  generalize recS b = rec at *
  refine ⟨fun i hh => i = badS rec ∧ h3 = hh, by cases rec <;> exact ⟨rfl, rfl⟩, ?_⟩
  rintro _ _ ⟨rfl, rfl⟩
  refine New.mk fun b9 h10 hb9 hs10 e10 k10 => ?_
  have D10 : RD h h10 (fun _ => False) ⟨some (b2, 0), 0, 0⟩ ⟨some (b9, 0), 0, 0⟩ [] [] := by
    have D3 : RD h h3 (fun _ => False) ⟨some (b2, 0), 0, 0⟩ ⟨none, 0, 0⟩ [] [] :=
      ⟨Own.new (l := ([] : List Slc)) sF_sized k3, Own.nil _ _ _, by simp, e3, fun _ z => z.elim, (fun b off z => by cases z; exact ⟨by omega, fun x => x⟩), (fun _ _ z => by cases z), by simp⟩
    exact D3.fresh hb9 e10 k10
  refine ⟨fun out at2 place within rcd hh n => ∃ (f at1 pl : Nat) (now : List UInt8) (xs : List (Slc × List UInt8)), at2 = at1 ∧ place = pl ∧ RD h hh (fun _ => False) out rcd xs now ∧ at1 ≤ b.length ∧ b.length < f + at1 ∧
      now.length ≤ at1 ∧ xs.length ≤ at1 ∧ readS b rec log f at1 pl within now (xs.map (·.2)) = FIN ∧ n = b.length - at1, ⟨_, b.length + 1, 0, 0, [], [], rfl, rfl, D10, by omega, by omega, by simp, by simp, hfin, rfl⟩, ?_⟩
  rintro out _ _ within rcd h18 nn ⟨f, at1, pl, now, xs, rfl, rfl, D, hat, hf, hnow, hxs, hread, hnn⟩
  obtain ⟨f, rfl⟩ : ∃ f', f = f' + 1 := ⟨f - 1, by omega⟩
  subst hnn
  have hh := headS_two rec
  have hr := roomS_pos at1
  have a18 := a.ext0 D.ext
  have ar := a18.drop hat
  have hrl : (b.drop at1).length = b.length - at1 := List.length_drop
  refine ⟨by omega, ?_⟩
  rw [room_run, hlen, show ((at1 : Nat) : Int).toNat = at1 by omega]
  rw [hlen] at ar
  have fin : ∀ how h', h18 = h' → nextS b rec log at1 within = (at1, .stop how) ∨ (∃ at2, nextS b rec log at1 within = (at2, .stop how)) → R out how (pl : Nat) h' := by
    rintro how _ rfl hn
    obtain ⟨at2, hn⟩ : ∃ at2, nextS b rec log at1 within = (at2, .stop how) := hn.elim (fun z => ⟨_, z⟩) id
    have hr : readS b rec log (f + 1) at1 pl within now (xs.map (·.2)) = (xs.map (·.2), how, pl) := by rw [readS, hn]
    rw [hr] at hread
    subst hread
    exact k _ _ D.rows D.ext
  refine Br.dec (fun c1 => ?_) fun c1 => ?_
  · have hroom : roomS at1 < headS rec := by omega
    rw [wi64 (n := (b.length : Int) - (at1 : Int)) (by omega) (by omega)]
    refine ⟨fun hh => h18 = hh ∧ at1 + roomS at1 ≤ b.length, Br.dec (fun c2 => ⟨by omega, by omega, c87 ar.arr (by omega) (Br.mk (fun c3 => ?_) fun c3 => Br.dec (fun c4 => ?_) fun c4 => ⟨rfl, by omega⟩)⟩) fun c2 => ⟨rfl, by omega⟩, ?_⟩
    · refine c88 (fin _ _ rfl ?_)
      by_cases hlt : roomS at1 ≤ (b.drop at1).length
      · refine .inr ⟨at1 + roomS at1, ?_⟩
        unfold nextS
        rw [if_pos hroom, if_pos hlt]
        have : b.drop (at1 + roomS at1) = [] := List.drop_eq_nil_of_le (by omega)
        rw [this]
        rfl
      · left
        unfold nextS
        rw [if_pos hroom, if_neg hlt, if_pos c3]
    · refine fin _ _ rfl (.inl ?_)
      unfold nextS
      rw [if_pos hroom, if_neg (by omega), if_neg (by rw [c3]; simp)]
    · rintro _ ⟨rfl, hle⟩
      refine ⟨b.length - (at1 + roomS at1), by omega, f + 1, at1 + roomS at1, pl, now, xs, by rw [wi64 (by omega) (by omega)]; omega, rfl, D, hle, by omega, by omega, by omega, ?_, rfl⟩
      rw [← hread, readS, readS, nextS_skip hroom (by omega)]
  · have hroom : ¬ roomS at1 < headS rec := by omega
    have hu : nextS b rec log at1 within = (at1, fragS (b.drop at1) (roomS at1) rec log within) := by unfold nextS; rw [if_neg hroom]
    refine ⟨by omega, by omega, c89 ar (by omega) (by omega) (fun how hl => ?_) fun typ body n s' hl a' => ?_⟩
    · refine ⟨fun _ => False, Br.ne (fun _ => ?_) fun c2 => Br.eq (fun _ => ?_) fun z => absurd rfl z, fun _ z => z.elim⟩
      · exact fin _ _ rfl (.inl (by rw [hu, hl]))
      · exact fin _ _ rfl (.inl (by rw [hu, hl]))
    · have hn : nextS b rec log at1 within = (at1, .take typ body n) := by rw [hu, hl]
      obtain ⟨g1, g2, g3, g4, g5, g6⟩ := nextS_take hn hat
      refine ⟨fun hh => h18 = hh, Br.ne (fun z => absurd rfl z) fun _ => Br.eq (fun z => by omega) fun _ => rfl, ?_⟩
      rintro _ rfl
      refine D.app a'.arr (by omega) fun r2 h34 D34 e34 => ?_
      have hsl := a'.len
      have step : readS b rec log (f + 1) at1 pl within now (xs.map (·.2)) = if typ = 2 ∨ typ = 3 then readS b rec log f (at1 + n) pl true (now ++ body) (xs.map (·.2)) else readS b rec log f (at1 + n) (at1 + n) false [] (xs.map (·.2) ++ [now ++ body]) := by
        rw [readS, hn]
      rw [step] at hread
      have hadd : IntKind.wrap .i64 (IntKind.wrap .i64 ((at1 : Int) + (headS rec : Nat)) + (s'.len : Int)) = ((at1 + n : Nat) : Int) := by
        rw [wi64 (n := (at1 : Int) + (headS rec : Nat)) (by omega) (by omega), wi64 (by omega) (by omega)]; omega
      rw [hadd]
      refine Br.eq (fun c2 => ?_) fun c2 => Br.mk (fun c3 => ?_) fun c3 => ?_
      · rw [if_pos (.inl c2)] at hread
        exact ⟨b.length - (at1 + n), by omega, f, at1 + n, pl, _, xs, rfl, rfl, D34, by omega, by omega, by simp; omega, by omega, hread, rfl⟩
      · have c3 : (typ == 3) = false := by simpa using c3
        rw [if_neg (by simp at c3; omega)] at hread
        refine D34.push (by omega) fun o3 h39 D39 e39 => New.mk fun b40 h41 hb40 hs41 e41 k41 => ?_
        rw [c3]
        exact ⟨b.length - (at1 + n), by omega, f, at1 + n, at1 + n, [], _, rfl, rfl, D39.fresh hb40 e41 k41, by omega, by omega, by simp, by simp; omega, by simpa using hread, rfl⟩
      · have c3 : (typ == 3) = true := by simpa using c3
        rw [if_pos (.inr (by simpa using c3))] at hread
        rw [c3]
        exact ⟨b.length - (at1 + n), by omega, f, at1 + n, pl, _, xs, rfl, rfl, D34, by omega, by omega, by simp; omega, by omega, hread, rfl⟩

end Go.V.Yteojmnnobmpdiaa
