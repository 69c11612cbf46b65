/- This text proves a part of the laws of seat Yteojmnnobmpdiaa, under no condition: W5g. -/
import Derived.Test.YteojmnnobmpdiaaWI
set_option linter.unusedVariables false
set_option linter.unusedSimpArgs false
/-! WalReads: Reopen, lives, the law. -/
namespace Go.V.Yteojmnnobmpdiaa
open Go Go.V Go.V.Crc Go.V.Wal

def reopE (b : List UInt8) (log : Int) : Int := if 1073741824 < b.length then 2 else if (readAll b log).2.1 ≠ 0 ∨ (readAll b log).2.2 ≠ b.length then 3 else 0

section
variable {h : Heap} {s : Slc} {b : List UInt8} {log : Int} {rc : Bool}

theorem c30 (a : Byt h s b) (hs : ∀ blk off, s.a = some (blk, off) → blk < h.size) {R : Option (Nat × Nat) → Int → Heap → Prop}
    (k0 : ∀ h', reopE b log ≠ 0 → Ext0 h h' → R none (reopE b log) h') (k1 : ∀ q t h', reopE b log = 0 → Ext0 h h' → Blk h' q t [.int .u32 log, .bool rc, .int .i64 (b.length : Nat)] → R (some (q, 0)) 0 h') :
    Call Go.Proofs.Try.prog 30 [.lf (.slc s), .lf (.int .u32 log), .lf (.bool rc)] h [.one .ptr, .one (.int .i64)] R := by
  have hlen := a.len
  refine ok30 (Br.dec (fun c => ?_) fun c => ?_)
  · have e : reopE b log = 2 := by unfold reopE; rw [if_pos (by omega)]
    rw [e] at k0
    exact k0 h (by omega) (Ext.refl _ _)
  refine c28 a hs fun s' h3 r3 e3 => ?_
  rw [hlen]
  have hc : ¬ 1073741824 < b.length := by omega
  refine Br.ne (fun c1 => ?_) fun c1 => Br.ne (fun c2 => ?_) fun c2 => New.mk fun b4 h5 hb4 hs5 e5 k5 => k1 b4 _ h5 ?_ (e3.trans e5) k5
  · have e : reopE b log = 3 := by unfold reopE; rw [if_neg hc, if_pos (.inl c1)]
    rw [e] at k0
    exact k0 h3 (by omega) e3
  · have e : reopE b log = 3 := by unfold reopE; rw [if_neg hc, if_pos (.inr fun z => c2 (by rw [z]))]
    rw [e] at k0
    exact k0 h3 (by omega) e3
  · unfold reopE; rw [if_neg hc, if_neg]
    exact fun z => z.elim (fun z => z c1) fun z => z (by omega)

theorem c31 (a : Byt h s b) {R : Option (Nat × Nat) → Int → Heap → Prop}
    (k0 : ∀ h', reopE b log ≠ 0 → Ext0 h h' → R none (reopE b log) h') (k1 : ∀ q h', reopE b log = 0 → Ext0 h h' → R (some (q, 0)) 0 h') :
    Call Go.Proofs.Try.prog 31 [.lf (.slc s), .lf (.int .u32 log), .lf (.bool rc)] h [.one .ptr, .one (.int .i64)] R := by
  have hlen := a.len
  refine ok31 (Br.dec (fun c => ?_) fun c => ?_)
  · have e : reopE b log = 2 := by unfold reopE; rw [if_pos (by omega)]
    rw [e] at k0
    exact k0 h (by omega) (Ext.refl _ _)
  refine c29 a fun s' h3 r3 e3 => ?_
  rw [hlen]
  have hc : ¬ 1073741824 < b.length := by omega
  refine Br.ne (fun c1 => ?_) fun c1 => Br.ne (fun c2 => ?_) fun c2 => New.mk fun b4 h5 hb4 hs5 e5 k5 => k1 b4 h5 ?_ (e3.trans e5)
  · have e : reopE b log = 3 := by unfold reopE; rw [if_neg hc, if_pos (.inl c1)]
    rw [e] at k0
    exact k0 h3 (by omega) e3
  · have e : reopE b log = 3 := by unfold reopE; rw [if_neg hc, if_pos (.inr fun z => c2 (by rw [z]))]
    rw [e] at k0
    exact k0 h3 (by omega) e3
  · unfold reopE; rw [if_neg hc, if_neg]
    exact fun z => z.elim (fun z => z c1) fun z => z (by omega)

theorem c32 {s1 s2 : Slc} {l : List (List UInt8)} (r1 : Rows h s1 l) (r2 : Rows h s2 l) (hl : l.length ≤ 9223372036854775806) {R : Bool → Heap → Prop} (k : R true h) :
    Call Go.Proofs.Try.prog 32 [.lf (.slc s1), .lf (.slc s2)] h [.one .bool] R := by
  have l1 := r1.len
  have l2 := r2.len
  refine ok32 ?_
  unfold vc32
  rw [l1, l2]
  refine Br.ne (fun c => absurd rfl c) fun _ => ?_
  obtain ⟨xs, a1, b1, rfl⟩ := r1.ex
  obtain ⟨ys, a2, b2, hy⟩ := r2.ex
  have hxy : ys.length = xs.length := by have := congrArg List.length hy; simpa using this
  simp only [List.length_map] at hl ⊢
  refine ⟨fun i hh n => ∃ q : Nat, i = q ∧ q ≤ xs.length ∧ h = hh ∧ n = xs.length - q, ⟨_, 0, rfl, by omega, rfl, rfl⟩, ?_⟩
  rintro _ _ _ ⟨q, rfl, hq, rfl, rfl⟩
  refine Br.dec (fun hlt => ?_) fun hge => k
  have hq1 : q < xs.length := by omega
  have hq2 : q < ys.length := by omega
  have he : ys[q].2 = xs[q].2 := by
    have := congrArg (fun l => l[q]?) hy
    simpa [hq1, hq2] using this
  refine a1.ix (k := q) (x := xs[q].1) rfl (by simp [hq1]) fun bb o hb => ⟨_, hb, _, (b1 _ (List.getElem_mem hq1)).arr.bytes (fun _ => rfl), a2.ix (k := q) (x := ys[q].1) rfl (by simp [hq2]) fun bb o hb => ⟨_, hb, _, (b2 _ (List.getElem_mem hq2)).arr.bytes (fun _ => rfl), ?_⟩⟩
  rw [strEq_eq, he, decide_eq_true rfl]
  exact Br.f rfl ⟨xs.length - (q + 1), by omega, q + 1, by rw [wi64 (by omega) (by omega)]; omega, by omega, rfl, rfl⟩

/-- A fragment of a log that was not used before. -/
def fragW (typ : Nat) (l : List UInt8) : List UInt8 := fixedL (maskI ((crc (UInt8.ofNat typ :: l)).toNat : Int)).toNat 4 ++ [UInt8.ofNat l.length, UInt8.ofNat (l.length / 256)] ++ (UInt8.ofNat typ :: l)

theorem maskI_nat (n : Int) : ∃ m : Nat, maskI n = m ∧ m < 4294967296 := by
  unfold maskI
  generalize bitop .u32 .or (shiftR .u32 n 15) (shiftL .u32 n 17) + 2726488792 = x
  refine ⟨(IntKind.wrap .u32 x).toNat, ?_, ?_⟩
  all_goals
    have : IntKind.wrap .u32 x = x % 4294967296 := by simp [IntKind.wrap, IntKind.signed, IntKind.bits]
    rw [this]
    omega

theorem c125 {p : Nat} {t : TypeId} {at' : Int} (B : Blk h p t [.int .u32 log, .bool false, .int .i64 at']) (a : Byt h s b) (hb : b.length ≤ 65535) {typ : Nat} (ht : typ ≤ 4) {R : Slc → Heap → Prop}
    (k : ∀ s' h', Own 1 bF h' s' (fragW typ b) → Fresh h h' s' → R s' h') :
    Call Go.Proofs.Try.prog 125 [.lf (.ptr (some (p, 0))), .lf (.int .i64 typ), .lf (.slc s)] h [.one .slc] R := by
  have hlen := a.len
  refine ok125 (New.mk fun b0 h1 hb0 hs1 e1 k1 => ?_)
  have hl := B.lt
  refine ⟨fun s2 hh => s2 = ⟨some (b0, 0), 1, 1⟩ ∧ h1 = hh, NilC.mk rfl ⟨_, (B.ext e1).cell rfl, Br.f rfl ⟨rfl, rfl⟩⟩, ?_⟩
  rintro _ _ ⟨rfl, rfl⟩
  rw [lo_byte] at k1
  have o1 : Own 1 bF h1 ⟨some (b0, 0), 1, 1⟩ [UInt8.ofNat typ] := Own.new (l := [UInt8.ofNat typ]) bF_sized k1
  refine AppC.grow bF_sized (by omega) rfl o1 (a.ext0 e1).arr (by simp; omega) fun s17 h18 o18 g18 => ?_
  have o18 : Own 1 bF h18 s17 (UInt8.ofNat typ :: b) := o18
  have f18 : Fresh h h18 s17 := (⟨e1, fun bb off z => by cases z; omega⟩ : Fresh h h1 ⟨some (b0, 0), 1, 1⟩).grow g18
  refine c142 (o18.arr bF_sized) (by simp; omega) fun h20 e20 => c141 ?_
  obtain ⟨m, hm, hm2⟩ := maskI_nat ((crc (UInt8.ofNat typ :: b)).toNat : Int)
  rw [hm]
  refine c143 hm2 fun s23 h24 o24 f24 => ⟨by omega, New.mk fun b25 h26 hb25 hs26 e26 k26 => ?_⟩
  have h256 : shiftR .i64 (s.len : Int) 8 = ((b.length / 256 : Nat) : Int) := by
    rw [hlen]
    show Int.fdiv (b.length : Int) (2 ^ (min (8 : Int).toNat 64)) = _
    rw [show ((2 : Int) ^ (min (8 : Int).toNat 64)) = ((256 : Nat) : Int) by decide, Int.fdiv_eq_ediv_of_nonneg _ (by omega)]
    omega
  rw [h256, hlen, lo_byte, lo_byte] at k26
  have o26 : Own 1 bF h26 ⟨some (b25, 0), 2, 2⟩ [UInt8.ofNat b.length, UInt8.ofNat (b.length / 256)] := Own.new (l := [UInt8.ofNat b.length, UInt8.ofNat (b.length / 256)]) bF_sized k26
  have hfl : (fixedL m 4).length = 4 := by simp [fixedL]
  refine AppC.grow bF_sized (by omega) rfl (o24.ext0 e26) (o26.arr bF_sized) (by rw [hfl]; simp) fun s27 h28 o28 g28 => ?_
  have f28 : Fresh h20 h28 s27 := (f24.ext0 e26).grow g28
  have hs18 := e20.size
  have o18' : Own 1 bF h28 s17 (UInt8.ofNat typ :: b) := (o18.ext0 e20).ext0 f28.ext
  refine AppC.grow bF_sized (by omega) rfl o28 (o18'.arr bF_sized) (by simp [hfl]; omega) fun s29 h30 o30 g30 => ?_
  have f30 := f28.grow g30
  refine k s29 h30 ?_ ⟨(f18.ext.trans e20).trans f30.ext, fun bb off z => by have := f30.new bb off z; have := f18.ext.size; omega⟩
  unfold fragW
  rw [hm]
  simpa using o30

theorem addSmall {p : Nat} {t : TypeId} (B : Blk h p t [.int .u32 log, .bool false, .int .i64 0]) (a : Byt h s b) (hb : b.length ≤ 4089) (hp : p < h.size) {R : Slc → Int → Heap → Prop}
    (k : ∀ s' h', Own 1 bF h' s' (fragW 1 b) → Ext (fun i => i = p) h h' → (∀ bb off, s'.a = some (bb, off) → h.size ≤ bb) → Blk h' p t [.int .u32 log, .bool false, .int .i64 (b.length + 7 : Nat)] → R s' 0 h') :
    Call Go.Proofs.Try.prog 91 [.lf (.ptr (some (p, 0))), .lf (.slc s)] h [.one .slc, .one (.int .i64)] R := by
  have hlen := a.len
  have hcap := a.cap
  refine ok91 ⟨fun c hh => c = false ∧ h = hh, Br.dec (fun c => by omega) fun _ => NilC.mk rfl ⟨0, B.cell rfl, by decide, rfl⟩, ?_⟩
  rintro _ _ ⟨rfl, rfl⟩
  refine Br.f rfl ⟨fun i hh => i = 7 ∧ h = hh, NilC.mk rfl ⟨_, B.cell rfl, Br.f rfl ⟨rfl, rfl⟩⟩, ?_⟩
  rintro _ _ ⟨rfl, rfl⟩
  refine ⟨fun r o bg hh n => s = r ∧ o = ⟨none, 0, 0⟩ ∧ bg = false ∧ h = hh, ⟨0, rfl, rfl, rfl, rfl⟩, ?_⟩
  rintro _ _ _ _ n ⟨rfl, rfl, rfl, rfl⟩
  have hroom : IntKind.wrap .i64 (4096 - Int.tmod (IntKind.wrap .i64 (0 + (((⟨none, 0, 0⟩ : Slc).len : Nat) : Int))) 4096) = 4096 := by decide
  refine NilC.mk rfl ⟨0, B.cell rfl, by omega, fun o r hh => o = ⟨none, 0, 0⟩ ∧ r = 4096 ∧ h = hh, ?_, ?_⟩
  · rw [hroom]
    exact Br.f (by decide) ⟨rfl, rfl, rfl⟩
  rintro _ _ _ ⟨rfl, rfl, rfl⟩
  have h89 : IntKind.wrap .i64 (4096 - 7) = 4089 := by decide
  have hmin : (if ((s.len : Nat) : Int) < IntKind.wrap .i64 (4096 - 7) then ((s.len : Nat) : Int) else IntKind.wrap .i64 (4096 - 7)) = (b.length : Int) := by
    rw [h89, hlen]
    split <;> omega
  refine ⟨fun i hh => i = 1 ∧ h = hh, ⟨fun c hh => c = false ∧ h = hh, ?_, ?_⟩, ?_⟩
  · rw [hmin, hlen]
    exact Br.t (by simp) ⟨rfl, rfl⟩
  · rintro _ _ ⟨rfl, rfl⟩
    rw [hmin, hlen]
    exact Br.f rfl (Br.t (by simp) ⟨rfl, rfl⟩)
  rintro _ _ ⟨rfl, rfl⟩
  rw [hmin, hlen]
  refine ⟨by omega, by omega, ?_⟩
  rw [show ((b.length : Nat) : Int).toNat = b.length by omega]
  have a' := a.take (n := b.length) (Nat.le_refl _)
  rw [List.take_length] at a'
  refine c125 (typ := 1) B a' (by omega) (by omega) fun s34 h35 o35 f35 => ?_
  have hfw : (fragW 1 b).length = b.length + 7 := by simp [fragW, fixedL]; omega
  refine AppC.grow bF_sized (by omega) rfl (Own.nil 1 bF h35) (o35.arr bF_sized) (by rw [hfw]; simp; omega) fun s36 h37 o37 g37 => ⟨by omega, by omega, Br.t (by simp) ?_⟩
  have e37 : Ext0 h h37 := f35.ext.trans' g37.ext fun i hi ⟨off, z⟩ => by cases z
  have B37 := B.ext e37
  have o37 : Own 1 bF h37 s36 (fragW 1 b) := by rw [List.nil_append] at o37; exact o37
  have hl36 : s36.len = b.length + 7 := o37.len.trans hfw
  refine NilC.mk rfl ⟨0, B37.cell rfl, NilC.mk rfl (StC.one B37 (by show 2 < 3; omega) fun h43 hs43 B43 e43 => ?_)⟩
  rw [hl36, wi64 (by omega) (by omega)] at B43
  have hnew : ∀ bb off, s36.a = some (bb, off) → h.size ≤ bb := fun bb off z => by
    have := f35.ext.size
    rcases g37.new with n | ⟨b', n, hn⟩
    · rw [n] at z; cases z
    · rw [n] at z; cases z; omega
  refine k s36 h43 ?_ (e37.of0.trans e43) hnew ?_
  · exact o37.ext e43 fun ⟨bb, off, h1, h2⟩ => by have := hnew bb off h1; have h2 : bb = p := h2; omega
  · have : (0 : Int) + ((b.length + 7 : Nat) : Int) = ((b.length + 7 : Nat) : Int) := by omega
    rw [this] at B43
    exact B43
end

theorem livesRead : readAll (fragW 1 [97, 98, 99]) 7 = ([[97, 98, 99]], 0, 10) := by decide +kernel

theorem c34 {h : Heap} {R : Bool → Heap → Prop} (k : ∀ h', Ext0 h h' → R true h') : Call Go.Proofs.Try.prog 34 [] h [.one .bool] R := by
  refine ok34 (ok90 (New.mk fun p h1 hp hs1 e1 k1 => Br.f rfl (New.mk fun b2 h3 hb2 hs3 e3 k3 => MarkC.mk rfl k3 fun h4 hs4 e4 c4 => ?_)))
  have e14 : Ext0 h1 h4 := e3.trans' e4 fun i hi z => by have z : i = b2 := z; omega
  have a4 : Byt h4 ⟨some (b2, 0), 3, 3⟩ [97, 98, 99] := by
    refine ⟨⟨rfl, fun _ => ⟨_, _, rfl⟩, fun bb off z i x hx => ?_, fun _ => rfl⟩, Nat.le_refl _⟩
    cases z
    have o3 := (Own.new (l := ([97, 98, 99] : List UInt8)) bF_sized k3).arr bF_sized
    exact c4 _ _ (o3.at_ _ _ rfl i x hx)
  have B4 := k1.ext e14
  have hl := k1.lt
  refine addSmall B4 a4 (by decide) (by omega) fun s5 h7 o7 e7 n7 B7 => ?_
  have e07 : Ext0 h h7 := (e1.trans e14).trans' e7 fun i hi z => by have z : i = p := z; omega
  refine c28 (Byt.own o7) (fun bb off z => (o7.lt bb off z).1) fun s8 h11 r11 e11 => ?_
  rw [livesRead] at r11 ⊢
  have hl5 : s5.len = 10 := by rw [o7.len]; decide
  have hl8 := r11.len
  have hl8 : s8.len = 1 := hl8
  rw [hl5, hl8]
  obtain ⟨xs, ax, bx, hx⟩ := r11.ex
  have hx1 : xs.length = 1 := by have := congrArg List.length hx; simpa using this
  obtain ⟨⟨sx, lx⟩, rfl⟩ := List.length_eq_one_iff.1 hx1
  simp only [List.map_cons, List.map_nil, List.cons.injEq, and_true] at hx
  subst hx
  refine Br.t rfl (Br.t rfl (ok33 (NilC.mk rfl ⟨_, (B7.ext e11).cell rfl, Br.t rfl (Br.t rfl (ax.ix (k := 0) rfl rfl fun bb o hb => ⟨_, hb, _, (bx _ (List.mem_singleton.2 rfl)).arr.bytes (fun _ => rfl), Br.t ?_ (Br.t rfl ?_)⟩))⟩)))
  · exact strEq_eq [97, 98, 99] [97, 98, 99]
  · exact k h11 (e07.trans e11)

theorem readS_len (b : List UInt8) (rec : Bool) (log : Int) : ∀ (f at1 pl : Nat) (w : Bool) (now : List UInt8) (l : List (List UInt8)), at1 ≤ b.length → l.length ≤ at1 → (readS b rec log f at1 pl w now l).1.length ≤ b.length
  | 0, at1, pl, w, now, l, h1, h2 => by simp only [readS]; omega
  | f + 1, at1, pl, w, now, l, h1, h2 => by
    rw [readS]
    split
    · simp only; omega
    · rename_i at2 typ body n hn
      obtain ⟨g1, g2, g3, _⟩ := nextS_take hn h1
      split
      · exact readS_len b rec log f _ _ _ _ _ (by omega) (by omega)
      · exact readS_len b rec log f _ _ _ _ _ (by omega) (by simp; omega)

theorem readAll_len (b : List UInt8) (log : Int) : (readAll b log).1.length ≤ b.length := by
  unfold readAll
  split
  · simp
  · exact readS_len _ _ _ _ _ _ _ _ _ (by omega) (by simp)

theorem c7 {h : Heap} {s : Slc} {b : List UInt8} (a : Byt h s b) (hb : b.length ≤ 140737488355328) (hs : ∀ blk off, s.a = some (blk, off) → blk < h.size) {log : Int} {R : Bool → Heap → Prop} (k : ∀ h', Ext0 h h' → R true h') :
    Call Go.Proofs.Try.prog 7 [.lf (.slc s), .lf (.int .u32 log)] h [.one .bool] R := by
  have hlen := a.len
  refine ok7 (New.mk fun b0 h1 hb0 hs1 e1 k1 => ?_)
  refine AppC.grow bF_sized (by omega) rfl (Own.new (l := ([] : List UInt8)) bF_sized k1) (a.ext0 e1).arr (by simp; omega) fun s2 h3 o3 g3 => ?_
  have o3 : Own 1 bF h3 s2 b := o3
  have e3 : Ext0 h h3 := e1.trans' g3.ext fun i hi ⟨off, z⟩ => by cases z; omega
  refine c28 (Byt.own o3) (fun bb off z => (o3.lt bb off z).1) fun s4 h7 r7 e7 => ?_
  have e07 := e3.trans e7
  refine c29 (a.ext0 e07) fun s8 h11 r11 e11 => ?_
  have e011 := e07.trans e11
  generalize hA : readAll b log = A at *
  have hAl : A.1.length ≤ b.length := by rw [← hA]; exact readAll_len b log
  have tail : ∀ (p12 p15 : Option (Nat × Nat)) (i13 : Int) (h17 : Heap), Ext0 h11 h17 → (p12.isNone = p15.isNone) → (p12 = none ∨ ∃ q t rc, p12 = some (q, 0) ∧ Blk h17 q t [.int .u32 log, .bool rc, .int .i64 (b.length : Nat)]) →
      Call Go.Proofs.Try.prog 32 [.lf (.slc s4), .lf (.slc s8)] h17 [.one .bool] fun (c18 : Bool) h19 => Br c18 (Br (A.2.1 == A.2.1) (Br ((A.2.2 : Int) == (A.2.2 : Int)) (Br (i13 == i13) (Br (p12.isNone == p15.isNone) (Br p12.isNone (Call Go.Proofs.Try.prog 34 [] h19 [.one .bool] fun (c20 : Bool) h21 => R c20 h21)
        (Call Go.Proofs.Try.prog 33 [.lf (.ptr p12)] h19 [.one (.int .i64)] fun (i22 : Int) h23 => Br (i22 == (s.len : Int)) (Call Go.Proofs.Try.prog 34 [] h23 [.one .bool] fun (c24 : Bool) h25 => R c24 h25) (R false h23))) (R false h19)) (R false h19)) (R false h19)) (R false h19)) (R false h19) := by
    intro p12 p15 i13 h17 e17 hn hp
    refine c32 ((r7.ext0 e11).ext0 e17) (r11.ext0 e17) (by omega) (Br.t rfl (Br.t (by simp) (Br.t (by simp) (Br.t (by simp) (Br.t (by rw [hn]; simp) ?_)))))
    rcases hp with rfl | ⟨q, t, rc, rfl, B⟩
    · exact Br.t rfl (c34 fun h' e => k h' ((e011.trans e17).trans e))
    · refine Br.f rfl (ok33 (NilC.mk rfl ⟨_, B.cell rfl, Br.t (by rw [hlen]; simp) (c34 fun h' e => k h' ((e011.trans e17).trans e))⟩))
  have hs11 : ∀ blk off, s.a = some (blk, off) → blk < h11.size := fun blk off z => Nat.lt_of_lt_of_le (hs blk off z) e011.size
  refine c30 (a.ext0 e011) hs11 (fun h14 hne e14 => ?_) fun q t h14 he e14 B14 => ?_
  · exact c31 ((a.ext0 e011).ext0 e14) (fun h17 _ e17 => tail _ _ _ h17 (e14.trans e17) rfl (.inl rfl)) fun q h17 he _ => absurd he hne
  · exact c31 ((a.ext0 e011).ext0 e14) (fun h17 hne _ => absurd he hne) fun q' h17 _ e17 => tail _ _ _ h17 (e14.trans e17) rfl (.inr ⟨q, t, _, rfl, B14.ext e17⟩)

end Go.V.Yteojmnnobmpdiaa
