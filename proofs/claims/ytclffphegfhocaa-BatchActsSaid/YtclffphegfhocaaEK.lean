/- This text proves a part of the laws of seat Ytclffphegfhocaa, under no condition: B3t. -/
import Derived.Test.YtclffphegfhocaaEJ
import Derived.Test.YtclffphegfhocaaEH
import Derived.Test.YtclffphegfhocaaEE
set_option linter.unusedVariables false
set_option linter.unusedSimpArgs false
/-! Decode, by the program and by the document. -/
namespace Go.V.Ytclffphegfhocaa
open Go Go.V

def decD (b : List UInt8) : Except Int (Nat × List Rec) :=
  if 4194304 < b.length then .error 2
  else if b.length < 8 then .error 4
  else if 72057594037927935 < Go.V.le (b.take 8) then .error 3
  else if b.length < 12 then .error 4
  else if 4096 < Go.V.le ((b.drop 8).take 4) ∨ fitsB (Go.V.le (b.take 8)) (Go.V.le ((b.drop 8).take 4)) = false then .error 3
  else match recsD (Go.V.le ((b.drop 8).take 4)) (b.drop 12) with
    | .error e => .error e
    | .ok (l, r) => if r = [] then .ok (Go.V.le (b.take 8), l) else .error 5

/-- What stands of a loop that reads records. -/
def Sofar (n : Nat) (b0 : List UInt8) (q : Nat) (l : List Rec) (rest : List UInt8) : Prop :=
  (∀ e, recsD (n - q) rest = .error e → recsD n b0 = .error e) ∧ ∀ l' r, recsD (n - q) rest = .ok (l', r) → recsD n b0 = .ok (l ++ l', r)

theorem Sofar.zero (n : Nat) (b0 : List UInt8) : Sofar n b0 0 [] b0 := ⟨fun e h => h, fun l' r h => h⟩
theorem Sofar.err {n : Nat} {b0 : List UInt8} {q : Nat} {l : List Rec} {rest : List UInt8} (S : Sofar n b0 q l rest) (hq : q < n) {e : Int} (h : recD rest = .error e) : recsD n b0 = .error e := by
  refine S.1 e ?_
  rw [show n - q = (n - (q + 1)) + 1 by omega, recsD, h]
theorem Sofar.step {n : Nat} {b0 : List UInt8} {q : Nat} {l : List Rec} {rest : List UInt8} (S : Sofar n b0 q l rest) (hq : q < n) {x : Rec} {r : List UInt8} (h : recD rest = .ok (x, r)) : Sofar n b0 (q + 1) (l ++ [x]) r := by
  have e1 : recsD (n - q) rest = match recsD (n - (q + 1)) r with | .error e => .error e | .ok (l, r') => .ok (x :: l, r') := by
    rw [show n - q = (n - (q + 1)) + 1 by omega, recsD, h]
    rfl
  refine ⟨fun e he => S.1 e (by rw [e1, he]), fun l' r' hr => ?_⟩
  have := S.2 (x :: l') r' (by rw [e1, hr])
  simpa using this
theorem Sofar.done {n : Nat} {b0 : List UInt8} {l : List Rec} {rest : List UInt8} (S : Sofar n b0 n l rest) : recsD n b0 = .ok (l, rest) := by
  have := S.2 [] rest (by rw [Nat.sub_self]; rfl)
  simpa using this

section
variable {h : Heap} {s : Slc} {b : List UInt8}

/-- At the end: the deferred closure finds no panic. -/
theorem dec_ret {b0 b2 b4 : Nat} {t0 t2 t4 : TypeId} {x y : Int} {s' : Slc} {R : Int → Slc → Int → Heap → Prop} (k0 : Blk h b0 t0 [.int .u64 x]) (k2 : Blk h b2 t2 [.slc s']) (k4 : Blk h b4 t4 [.int .i64 y]) (hR : R x s' y h) {X : Heap → Prop} :
    CallD Go.Proofs.Try.prog 39 (Array.mk [Value.pointer (some (Addr.mk b0 0 none)), Value.pointer (some (Addr.mk b2 0 none)), Value.pointer (some (Addr.mk b4 0 none))]) h none fun (c9 : Bool) (h10 : Heap) =>
      Br c9 (X h10) (∃ (i14 : Int), cellsAt h10 b0 0 [Lf.int .u64 i14] ∧ ∃ (s15 : Slc), cellsAt h10 b2 0 [Lf.slc s15] ∧ ∃ (i16 : Int), cellsAt h10 b4 0 [Lf.int .i64 i16] ∧ R i14 s15 i16 h10) :=
  ok39r (Br.f (X := X h) rfl ⟨x, k0.cell rfl, s', k2.cell rfl, y, k4.cell rfl, hR⟩)

/-- The results are set, and the function ends. -/
theorem dec_set {b0 b2 b4 : Nat} {t0 t2 t4 : TypeId} {x y : Int} {x' y' : Int} {s1 s' : Slc} {R : Int → Slc → Int → Heap → Prop} (k0 : Blk h b0 t0 [.int .u64 x]) (k2 : Blk h b2 t2 [.slc s1]) (k4 : Blk h b4 t4 [.int .i64 y]) (h02 : b0 ≠ b2) (h04 : b0 ≠ b4) (h24 : b2 ≠ b4)
    (hR : ∀ h', h'.size = h.size → Ext (fun i => i = b0 ∨ i = b2 ∨ i = b4) h h' → R x' s' y' h') {X : Heap → Prop} :
    StC h b0 0 [.int .u64 x'] fun h6 => StC h6 b2 0 [.slc s'] fun h7 => StC h7 b4 0 [.int .i64 y'] fun h8 => CallD Go.Proofs.Try.prog 39 (Array.mk [Value.pointer (some (Addr.mk b0 0 none)), Value.pointer (some (Addr.mk b2 0 none)), Value.pointer (some (Addr.mk b4 0 none))]) h8 none fun (c9 : Bool) (h10 : Heap) =>
      Br c9 (X h10) (∃ (i14 : Int), cellsAt h10 b0 0 [Lf.int .u64 i14] ∧ ∃ (s15 : Slc), cellsAt h10 b2 0 [Lf.slc s15] ∧ ∃ (i16 : Int), cellsAt h10 b4 0 [Lf.int .i64 i16] ∧ R i14 s15 i16 h10) := by
  refine StC.one k0 Nat.zero_lt_one fun h6 hs6 k6 e6 => StC.one (k2.ext e6 fun z => h02 z.symm) Nat.zero_lt_one fun h7 hs7 k7 e7 => StC.one ((k4.ext e6 fun z => h04 z.symm).ext e7 fun z => h24 z.symm) Nat.zero_lt_one fun h8 hs8 k8 e8 => ?_
  refine dec_ret ((k6.ext e7 fun z => h02 z).ext e8 fun z => h04 z) (k7.ext e8 fun z => h24 z) k8 (hR h8 (by omega) ?_)
  exact ((e6.mono fun i z => .inl z).trans (e7.mono fun i z => .inr (.inl z))).trans (e8.mono fun i z => .inr (.inr z))

theorem c21 (a : Byt h s b) (hs : ∀ blk off, s.a = some (blk, off) → blk < h.size) {R : Int → Slc → Int → Heap → Prop}
    (k0 : ∀ e h', decD b = .error e → Ext0 h h' → R 0 ⟨none, 0, 0⟩ e h')
    (k1 : ∀ seq l s' h', decD b = .ok (seq, l) → Own 4 Rec.lfs h' s' l → Fresh h h' s' → R (seq : Nat) s' 0 h') :
    Call Go.Proofs.Try.prog 21 [.lf (.slc s)] h [.one (.int .u64), .one .slc, .one (.int .i64)] R := by
  have hlen := a.len
  have hcap := a.cap
  refine ok21 (New.mk fun b0 h1 hb0 hs1 e1 q1 => New.mk fun b2 h3 hb2 hs3 e3 q3 => New.mk fun b4 h5 hb4 hs5 e5 q5 => ?_)
  have h02 : b0 ≠ b2 := by omega
  have h04 : b0 ≠ b4 := by omega
  have h24 : b2 ≠ b4 := by omega
  obtain ⟨t0, q1⟩ : ∃ t, Blk h1 b0 t [.int .u64 0] := ⟨_, q1⟩
  obtain ⟨t2, q3⟩ : ∃ t, Blk h3 b2 t [.slc ⟨none, 0, 0⟩] := ⟨_, q3⟩
  obtain ⟨t4, q5⟩ : ∃ t, Blk h5 b4 t [.int .i64 0] := ⟨_, q5⟩
  have q1 := (q1.ext e3).ext e5
  have q3 := q3.ext e5
  have e05 : Ext0 h h5 := (e1.trans e3).trans e5
  have lift : ∀ h' : Heap, Ext (fun i => i = b0 ∨ i = b2 ∨ i = b4) h5 h' → Ext0 h h' := fun h' e => e05.trans' e fun i hi z => by omega
  refine Br.dec (fun c => ?_) fun c => ?_
  · exact dec_set q1 q3 q5 h02 h04 h24 fun h' _ e => k0 2 h' (by unfold decD; rw [if_pos (by omega)]) (lift h' e)
  have c1 : ¬ 4194304 < b.length := by omega
  have a5 := a.ext0 e05
  -- an error is told
  have tell : ∀ (hh : Heap) (e : Int) (u v : Int) (w : Slc), Blk hh b0 t0 [.int .u64 u] → Blk hh b2 t2 [.slc w] → Blk hh b4 t4 [.int .i64 v] → Ext0 h hh → decD b = .error e → ∀ X : Heap → Prop,
      StC hh b0 0 [.int .u64 0] fun h6 => StC h6 b2 0 [.slc ⟨none, 0, 0⟩] fun h7 => StC h7 b4 0 [.int .i64 e] fun h8 => CallD Go.Proofs.Try.prog 39 (Array.mk [Value.pointer (some (Addr.mk b0 0 none)), Value.pointer (some (Addr.mk b2 0 none)), Value.pointer (some (Addr.mk b4 0 none))]) h8 none fun (c9 : Bool) (h10 : Heap) =>
      Br c9 (X h10) (∃ (i14 : Int), cellsAt h10 b0 0 [Lf.int .u64 i14] ∧ ∃ (s15 : Slc), cellsAt h10 b2 0 [Lf.slc s15] ∧ ∃ (i16 : Int), cellsAt h10 b4 0 [Lf.int .i64 i16] ∧ R i14 s15 i16 h10) :=
    fun hh e u v w g0 g2 g4 E hd X => dec_set g0 g2 g4 h02 h04 h24 fun h' _ ex => k0 e h' hd (E.trans' ex fun i hi z => by omega)
  refine ok40 (c58 a5 (m := 8) (by omega) (fun c2 => ?_) fun c2 h19 e19 => ?_)
  · have hd : decD b = .error 4 := by unfold decD; rw [if_neg c1, if_pos c2]
    refine StC.one q1 Nat.zero_lt_one fun h20 hs20 g0 f20 => StC.one (q5.ext f20 fun z => h04 z.symm) Nat.zero_lt_one fun h21 hs21 g4 f21 => ⟨4, g4.cell rfl, Br.t rfl ⟨4, g4.cell rfl, ?_⟩⟩
    have g0 := g0.ext f21 fun z => h04 z
    have g2 := (q3.ext f20 fun z => h02 z.symm).ext f21 fun z => h24 z
    refine StC.one g0 Nat.zero_lt_one fun h24' hs24 g0 f24 => ?_
    have g2 := g2.ext f24 fun z => h02 z.symm
    have g4 := g4.ext f24 fun z => h04 z.symm
    refine ⟨g4.cell rfl, StC.one g2 Nat.zero_lt_one fun h25 hs25 g2 f25 => ?_⟩
    have g4 := g4.ext f25 fun z => h24 z.symm
    have g0 := g0.ext f25 fun z => h02 z
    refine ⟨g4.cell rfl, StC.one g4 Nat.zero_lt_one fun h26 hs26 g4 f26 => ?_⟩
    refine dec_ret (g0.ext f26 fun z => h04 z) (g2.ext f26 fun z => h24 z) g4 (k0 4 h26 hd ?_)
    exact ((((e05.trans' f20 fun i hi z => by have z : i = b0 := z; omega).trans' f21 fun i hi z => by have z : i = b4 := z; omega).trans' f24 fun i hi z => by have z : i = b0 := z; omega).trans' f25 fun i hi z => by have z : i = b2 := z; omega).trans' f26 fun i hi z => by have z : i = b4 := z; omega
  have c2' : ¬ b.length < 8 := by omega
  have hl8 : (b.take 8).length = 8 := by simp; omega
  rw [fixI_le (by omega)]
  have hlt8 := Go.V.le_lt (b.take 8)
  rw [hl8] at hlt8
  have h8e : 256 ^ 8 = 18446744073709551616 := rfl
  generalize hseq : Go.V.le (b.take 8) = seq at *
  have E19 := e05.trans e19
  refine StC.one (q1.ext e19) Nat.zero_lt_one fun h20 hs20 g0 f20 => StC.one ((q5.ext e19).ext f20 fun z => h04 z.symm) Nat.zero_lt_one fun h21 hs21 g4 f21 => ⟨0, g4.cell rfl, Br.f rfl ?_⟩
  have g0 := g0.ext f21 fun z => h04 z
  have g2 := ((q3.ext e19).ext f20 fun z => h02 z.symm).ext f21 fun z => h24 z
  have E21 : Ext0 h h21 := (E19.trans' f20 fun i hi z => by have z : i = b0 := z; omega).trans' f21 fun i hi z => by have z : i = b4 := z; omega
  refine ⟨(seq : Int), g0.cell rfl, Br.dec (fun c3 => ?_) fun c3 => ⟨by omega, by omega, ?_⟩⟩
  · exact tell h21 3 _ _ _ g0 g2 g4 E21 (by unfold decD; rw [if_neg c1, if_neg c2', hseq, if_pos (by omega)]) _
  have c3' : ¬ 72057594037927935 < seq := by omega
  have a21 := (a.ext0 E21).drop (lo := 8) (by omega)
  refine c41 a21 (fun c4 => ?_) fun c4 h49 e49 => ?_
  · rw [List.length_drop] at c4
    have hd : decD b = .error 4 := by unfold decD; rw [if_neg c1, if_neg c2', hseq, if_neg c3', if_pos (by omega)]
    refine StC.one g4 Nat.zero_lt_one fun h50 hs50 g4 f50 => ⟨4, g4.cell rfl, Br.t rfl ⟨4, g4.cell rfl, ?_⟩⟩
    have g0 := g0.ext f50 fun z => h04 z
    have g2 := g2.ext f50 fun z => h24 z
    refine StC.one g0 Nat.zero_lt_one fun h53 hs53 g0 f53 => ?_
    have g2 := g2.ext f53 fun z => h02 z.symm
    have g4 := g4.ext f53 fun z => h04 z.symm
    refine ⟨g4.cell rfl, StC.one g2 Nat.zero_lt_one fun h54 hs54 g2 f54 => ?_⟩
    have g4 := g4.ext f54 fun z => h24 z.symm
    have g0 := g0.ext f54 fun z => h02 z
    refine ⟨g4.cell rfl, StC.one g4 Nat.zero_lt_one fun h55 hs55 g4 f55 => ?_⟩
    refine dec_ret (g0.ext f55 fun z => h04 z) (g2.ext f55 fun z => h24 z) g4 (k0 4 h55 hd ?_)
    exact (((E21.trans' f50 fun i hi z => by have z : i = b4 := z; omega).trans' f53 fun i hi z => by have z : i = b0 := z; omega).trans' f54 fun i hi z => by have z : i = b2 := z; omega).trans' f55 fun i hi z => by have z : i = b4 := z; omega
  rw [List.length_drop] at c4
  have c4' : ¬ b.length < 12 := by omega
  have hl4 : ((b.drop 8).take 4).length = 4 := by simp; omega
  have hlt4 := Go.V.le_lt ((b.drop 8).take 4)
  rw [hl4] at hlt4
  have h4e : 256 ^ 4 = 4294967296 := rfl
  rw [fixI_le (by omega), wu32 (by omega) (by omega)]
  generalize hn : Go.V.le ((b.drop 8).take 4) = n at *
  refine StC.one (g4.ext e49) Nat.zero_lt_one fun h50 hs50 g4 f50 => ⟨0, g4.cell rfl, Br.f rfl ?_⟩
  have g0 := (g0.ext e49).ext f50 fun z => h04 z
  have g2 := (g2.ext e49).ext f50 fun z => h24 z
  have E50 : Ext0 h h50 := (E21.trans e49).trans' f50 fun i hi z => by have z : i = b4 := z; omega
  have hd5 : (4096 < n ∨ fitsB seq n = false) → decD b = .error 3 := fun c5 => by unfold decD; rw [if_neg c1, if_neg c2', hseq, if_neg c3', if_neg c4', hn, if_pos c5]
  refine ⟨fun c hh => c = decide (4096 < n ∨ fitsB seq n = false) ∧ h50 = hh, Br.dec (fun c5 => ⟨(decide_eq_true (.inl (by omega))).symm, rfl⟩) fun c5 => ⟨seq, g0.cell rfl, ?_⟩, ?_⟩
  · rw [wi64 (by omega) (by omega)]
    refine c32 (by omega) (by omega) (by omega) ⟨?_, rfl⟩
    cases hf : fitsB seq n with
    | true => simp; omega
    | false => simp
  rintro _ _ ⟨rfl, rfl⟩
  refine Br.dec (fun c5 => tell h50 3 _ _ _ g0 g2 g4 E50 (hd5 c5) _) fun c5 => ⟨by omega, by omega, ?_⟩
  have hdec : decD b = match recsD n (b.drop 12) with
      | .error e => .error e
      | .ok (l, r) => if r = [] then .ok (seq, l) else .error 5 := by
    unfold decD; rw [if_neg c1, if_neg c2', hseq, if_neg c3', if_neg c4', hn, if_neg c5]
  have hn2 : n ≤ 4096 := by
    rcases Nat.lt_or_ge 4096 n with z | z
    · exact absurd (.inl z) c5
    · exact z
  refine New.mk fun p h82 hp hs82 e82 q82 => ?_
  have hE50 := E50.size
  have hp0 : p ≠ b0 ∧ p ≠ b2 ∧ p ≠ b4 := by
    have l0 := g0.lt
    have l2 := g2.lt
    have l4 := g4.lt
    exact ⟨by omega, by omega, by omega⟩
  obtain ⟨tp, q82⟩ : ∃ t, Blk h82 p t [.slc (s.sub 1 12 s.len s.cap)] := ⟨_, q82⟩
  have a82 := (a.ext0 (E50.trans e82)).drop (lo := 12) (by omega)
  have r82 : RdB h82 p h.size [] (b.drop 12) := ⟨⟨_, tp, q82, a82, fun blk off z => by obtain ⟨off', z⟩ := sub_inS z; have := hs blk off' z; omega⟩, by rw [List.length_drop]; omega⟩
  refine ⟨fun i hh d => ∃ (q : Nat) (l : List Rec) (rest : List UInt8) (sl : Slc), i = q ∧ q ≤ n ∧ l.length = q ∧ Sofar n (b.drop 12) q l rest ∧ RdB hh p h.size [] rest ∧ Blk hh b0 t0 [.int .u64 seq] ∧ Blk hh b2 t2 [.slc sl] ∧ Blk hh b4 t4 [.int .i64 0] ∧ Own 4 Rec.lfs hh sl l ∧
      (∀ blk off, sl.a = some (blk, off) → h.size ≤ blk ∧ blk ≠ b0 ∧ blk ≠ b2 ∧ blk ≠ b4 ∧ blk ≠ p) ∧ Ext0 h hh ∧ d = n - q, ⟨_, 0, [], _, ⟨none, 0, 0⟩, rfl, by omega, rfl, Sofar.zero _ _, r82, g0.ext e82, g2.ext e82, g4.ext e82, Own.nil _ _ _, (fun _ _ z => by cases z), E50.trans e82, rfl⟩, ?_⟩
  rintro _ h86 _ ⟨q, l, rest, sl, rfl, hq, hlq, hso, r, g0, g2, g4, o, hsl, E, rfl⟩
  have hlt := r.lt
  have hl0 := g0.lt
  have hl2 := g2.lt
  have hl4' := g4.lt
  refine Br.dec (fun c6 => ⟨sl, g2.cell rfl, ?_⟩) fun c6 => ?_
  · have hqn : q < n := by omega
    refine c42 r E.size (fun e h' he ex => ?_) fun x l' h93 hx r93 ex => ?_
    · have hd : decD b = .error e := by rw [hdec, hso.err hqn he]
      have g0 := g0.ext ex fun z => hp0.1 z.symm
      have g2 := g2.ext ex fun z => hp0.2.1 z.symm
      have g4 := g4.ext ex fun z => hp0.2.2 z.symm
      refine ok39p (StC.one g0 Nat.zero_lt_one fun h6 hs6 g0 f6 => StC.one (g2.ext f6 fun z => h02 z.symm) Nat.zero_lt_one fun h7 hs7 g2 f7 => StC.one ((g4.ext f6 fun z => h04 z.symm).ext f7 fun z => h24 z.symm) Nat.zero_lt_one fun h8 hs8 g4 f8 => Br.t rfl ?_)
      refine ⟨0, ((g0.ext f7 fun z => h02 z).ext f8 fun z => h04 z).cell rfl, _, (g2.ext f8 fun z => h24 z).cell rfl, e, g4.cell rfl, k0 e h8 hd ?_⟩
      exact (((E.trans' ex fun i hi z => by have z : i = p := z; omega).trans' f6 fun i hi z => by have z : i = b0 := z; omega).trans' f7 fun i hi z => by have z : i = b2 := z; omega).trans' f8 fun i hi z => by have z : i = b4 := z; omega
    · have g0 := g0.ext ex fun z => hp0.1 z.symm
      have g2 := g2.ext ex fun z => hp0.2.1 z.symm
      have g4 := g4.ext ex fun z => hp0.2.2 z.symm
      have o93 := o.ext ex fun ⟨blk, off, z1, z2⟩ => (hsl blk off z1).2.2.2.2 z2
      have s93 := ex.size
      refine ⟨g2.cell rfl, New.mk fun b94 h95 hb94 hs95 e95 q95 => ⟨(g2.ext e95).cell rfl, ?_⟩⟩
      have ox : Own 4 Rec.lfs h95 ⟨some (b94, 0), 1, 1⟩ [x] := Own.new (l := [x]) lfs_sized (by simpa [Rec.lfs] using q95)
      refine AppC.grow lfs_sized (by omega) rfl (o93.ext0 e95) (ox.arr lfs_sized) (by simp; omega) fun s96 h97 o97 g97 => ?_
      have s97 := g97.ext.size
      have nb : ∀ y, y = b0 ∨ y = b2 ∨ y = b4 ∨ y = p → ¬ ∃ off, sl.a = some (y, off) := fun y hy ⟨off, z⟩ => by have := hsl y off z; omega
      have g0 := (g0.ext e95).ext g97.ext (nb _ (.inl rfl))
      have g2 := (g2.ext e95).ext g97.ext (nb _ (.inr (.inl rfl)))
      have g4 := (g4.ext e95).ext g97.ext (nb _ (.inr (.inr (.inl rfl))))
      have r97 : RdB h97 p h.size [] l' := (r93.ext0 e95).ext g97.ext (nb _ (.inr (.inr (.inr rfl)))) fun i hi ⟨off, z⟩ => by have := (hsl i off z).1; omega
      have hs96 : ∀ blk off, s96.a = some (blk, off) → h.size ≤ blk ∧ blk ≠ b0 ∧ blk ≠ b2 ∧ blk ≠ b4 ∧ blk ≠ p := fun blk off z => by
        rcases g97.new with w | ⟨b', w, hw⟩
        · rw [w] at z; exact hsl blk off z
        · rw [w] at z; cases z
          have := E.size
          exact ⟨by omega, by omega, by omega, by omega, by omega⟩
      refine StC.one g2 Nat.zero_lt_one fun h98 hs98 g2 f98 => ?_
      refine ⟨n - (q + 1), by omega, q + 1, l ++ [x], l', s96, by rw [wu32 (by omega) (by omega)]; omega, by omega, by simp [hlq], hso.step hqn hx, r97.ext f98 (fun z => hp0.2.1 z) (fun i hi z => by have z : i = b2 := z; omega), g0.ext f98 fun z => h02 z, g2, g4.ext f98 fun z => h24 z.symm,
        o97.ext f98 (fun ⟨blk, off, z1, z2⟩ => (hs96 blk off z1).2.2.1 z2), hs96, ?_, rfl⟩
      exact (((E.trans' ex fun i hi z => by have z : i = p := z; omega).trans e95).trans' g97.ext fun i hi ⟨off, z⟩ => by have := (hsl i off z).1; omega).trans' f98 fun i hi z => by have z : i = b2 := z; omega
  · obtain rfl : q = n := by omega
    have hdone := hso.done
    rw [hdone] at hdec
    simp only at hdec
    obtain ⟨sr, tr, kr, ar, nr⟩ := r.ex
    have hrl := ar.len
    refine ⟨sr, kr.cell rfl, Br.dec (fun c7 => ?_) fun c7 => ⟨_, g0.cell rfl, _, g2.cell rfl, ?_⟩⟩
    · exact tell h86 5 _ _ _ g0 g2 g4 E (by rw [hdec, if_neg (by rintro rfl; simp at hrl; omega)]) _
    · have hre : rest = [] := List.length_eq_zero_iff.1 (by omega)
      rw [if_pos hre] at hdec
      refine StC.one g0 Nat.zero_lt_one fun h122 hs122 g0 f122 => ?_
      have g2 := g2.ext f122 fun z => h02 z.symm
      refine ⟨g2.cell rfl, StC.one g2 Nat.zero_lt_one fun h123 hs123 g2 f123 => StC.one ((g4.ext f122 fun z => h04 z.symm).ext f123 fun z => h24 z.symm) Nat.zero_lt_one fun h124 hs124 g4 f124 => ?_⟩
      have o124 := ((o.ext f122 fun ⟨blk, off, z1, z2⟩ => (hsl blk off z1).2.1 z2).ext f123 fun ⟨blk, off, z1, z2⟩ => (hsl blk off z1).2.2.1 z2).ext f124 fun ⟨blk, off, z1, z2⟩ => (hsl blk off z1).2.2.2.1 z2
      have E124 : Ext0 h h124 := ((E.trans' f122 fun i hi z => by have z : i = b0 := z; omega).trans' f123 fun i hi z => by have z : i = b2 := z; omega).trans' f124 fun i hi z => by have z : i = b4 := z; omega
      exact dec_ret ((g0.ext f123 fun z => h02 z).ext f124 fun z => h04 z) (g2.ext f124 fun z => h24 z) g4 (k1 seq l sl h124 hdec o124 ⟨E124, fun blk off z => (hsl blk off z).1⟩)
end

end Go.V.Ytclffphegfhocaa
