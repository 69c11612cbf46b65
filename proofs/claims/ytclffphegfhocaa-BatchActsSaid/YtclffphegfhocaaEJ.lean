/- This text proves a part of the laws of seat Ytclffphegfhocaa, under no condition: B3q B3r. -/
import Derived.Test.YtclffphegfhocaaEH
import Derived.Test.YtclffphegfhocaaEG
import Derived.Test.YtclffphegfhocaaED
import Derived.Test.YtclffphegfhocaaEI
set_option linter.unusedVariables false
set_option linter.unusedSimpArgs false
/-! Readers of records: numbers and texts. -/
namespace Go.V.Ytclffphegfhocaa
open Go Go.V

theorem andFin : ∀ x : Fin 256, bitop .u8 .and (x.val : Int) 127 = ((x.val % 128 : Nat) : Int) := by decide +kernel
theorem and_byte (c : UInt8) : bitop .u8 .and (c.toNat : Int) 127 = ((c.toNat % 128 : Nat) : Int) := andFin ⟨c.toNat, c.toNat_lt⟩
theorem and_byte64 (c : UInt8) : bitop .u64 .and (c.toNat : Int) 127 = ((c.toNat % 128 : Nat) : Int) := by
  have hc := c.toNat_lt
  show IntKind.wrap .u64 (BitVec.ofInt 64 _ &&& BitVec.ofInt 64 127).toNat = _
  have h1 : BitVec.ofInt 64 (c.toNat : Int) = BitVec.ofNat 64 c.toNat := BitVec.ofInt_natCast _ _
  have h2 : BitVec.ofInt 64 127 = BitVec.ofNat 64 127 := rfl
  rw [h1, h2, BitVec.toNat_and, BitVec.toNat_ofNat, BitVec.toNat_ofNat, Nat.mod_eq_of_lt (by omega), Nat.mod_eq_of_lt (by omega)]
  have := Nat.and_two_pow_sub_one_eq_mod c.toNat 7
  rw [show 127 = 2 ^ 7 - 1 from rfl, this, wu64 (by omega) (by omega)]

theorem or_shift {n i : Nat} (hi : i ≤ 9) (hn : n < 2 ^ (7 * i)) {c : Nat} (hc : c < 128) (h9 : i = 9 → c ≤ 1) :
    bitop .u64 .or (n : Int) (shiftL .u64 (c : Int) ((7 * i : Nat) : Int)) = ((n + c * 2 ^ (7 * i) : Nat) : Int) := by
  have hp : 2 ^ (7 * i) ≤ 2 ^ (7 * 9) := Nat.pow_le_pow_right (by omega) (by omega)
  have e9 : 2 ^ (7 * 9) = 9223372036854775808 := rfl
  have hlt : c * 2 ^ (7 * i) ≤ 9223372036854775808 := by
    by_cases h : i = 9
    · subst h
      have : c * 2 ^ (7 * 9) ≤ 1 * 2 ^ (7 * 9) := Nat.mul_le_mul_right _ (h9 rfl)
      omega
    · have h8 : 2 ^ (7 * i) ≤ 2 ^ (7 * 8) := Nat.pow_le_pow_right (by omega) (by omega)
      have e8 : 2 ^ (7 * 8) = 72057594037927936 := rfl
      have : c * 2 ^ (7 * i) ≤ 127 * 2 ^ (7 * i) := Nat.mul_le_mul_right _ (by omega)
      omega
  have hs : shiftL .u64 (c : Int) ((7 * i : Nat) : Int) = ((c * 2 ^ (7 * i) : Nat) : Int) := by
    unfold shiftL
    rw [show min ((7 * i : Nat) : Int).toNat (IntKind.bits .u64) = 7 * i from by simp [IntKind.bits]; omega]
    rw [show (c : Int) * 2 ^ (7 * i) = ((c * 2 ^ (7 * i) : Nat) : Int) by simp, wu64 (by omega) (by omega)]
  rw [hs]
  show IntKind.wrap .u64 (BitVec.ofInt 64 _ ||| BitVec.ofInt 64 _).toNat = _
  have h1 : BitVec.ofInt 64 (n : Int) = BitVec.ofNat 64 n := BitVec.ofInt_natCast _ _
  have h2 : BitVec.ofInt 64 ((c * 2 ^ (7 * i) : Nat) : Int) = BitVec.ofNat 64 (c * 2 ^ (7 * i)) := BitVec.ofInt_natCast _ _
  rw [h1, h2, BitVec.toNat_or, BitVec.toNat_ofNat, BitVec.toNat_ofNat, Nat.mod_eq_of_lt (by omega), Nat.mod_eq_of_lt (by omega)]
  have := Nat.two_pow_add_eq_or_of_lt hn c
  have hor : n ||| c * 2 ^ (7 * i) = n + c * 2 ^ (7 * i) := by rw [Nat.or_comm, Nat.mul_comm c, ← this]; omega
  rw [hor, wu64 (by omega) (by omega)]

section
variable {h : Heap}

theorem vr_step {b : List UInt8} {q n : Nat} (hq : q < b.length) (h9 : q ≤ 9) (hn : n < 2 ^ (7 * q)) :
    (((q = 9 ∧ 1 < b[q].toNat) ∨ (0 < q ∧ b[q].toNat = 0)) → vrGo (b.drop q) q n = (0, 0, 3)) ∧
    (¬ ((q = 9 ∧ 1 < b[q].toNat) ∨ (0 < q ∧ b[q].toNat = 0)) → (b[q].toNat < 128 → vrGo (b.drop q) q n = (n + b[q].toNat % 128 * 2 ^ (7 * q), q + 1, 0)) ∧
      (¬ b[q].toNat < 128 → q + 1 ≤ 9 ∧ n + b[q].toNat % 128 * 2 ^ (7 * q) < 2 ^ (7 * (q + 1)) ∧ vrGo (b.drop q) q n = vrGo (b.drop (q + 1)) (q + 1) (n + b[q].toNat % 128 * 2 ^ (7 * q)))) := by
  rw [List.drop_eq_getElem_cons hq, vrGo]
  have hc := b[q].toNat_lt
  refine ⟨fun h => by rw [if_pos h], fun h => ⟨fun h2 => by rw [if_neg h, if_pos h2], fun h2 => ?_⟩⟩
  rw [if_neg h, if_neg h2]
  refine ⟨by omega, ?_, rfl⟩
  have hpow : 2 ^ (7 * (q + 1)) = 128 * 2 ^ (7 * q) := by rw [show 7 * (q + 1) = 7 * q + 7 by omega, Nat.pow_add]; omega
  have : b[q].toNat % 128 * 2 ^ (7 * q) ≤ 127 * 2 ^ (7 * q) := Nat.mul_le_mul_right _ (by omega)
  omega

set_option maxRecDepth 20000 in
theorem c69 {s : Slc} {b : List UInt8} (a : Arr 1 bF h s b) (hb : b.length ≤ 9223372036854775806) {R : Int → Int → Int → Heap → Prop} (k : R ((vrGo b 0 0).1 : Nat) ((vrGo b 0 0).2.1 : Nat) (vrGo b 0 0).2.2 h) :
    Call Go.Proofs.Try.prog 69 [.lf (.slc s)] h [.one (.int .u64), .one (.int .i64), .one (.int .i64)] R := by
  have hlen := a.len
  generalize hF : vrGo b 0 0 = F at k
  refine ok69 ⟨fun r i hh d => ∃ q n : Nat, i = q ∧ r = n ∧ q ≤ b.length ∧ q ≤ 9 ∧ n < 2 ^ (7 * q) ∧ h = hh ∧ vrGo (b.drop q) q n = F ∧ d = b.length - q, ⟨_, 0, 0, rfl, rfl, by omega, by omega, by omega, rfl, hF, rfl⟩, ?_⟩
  rintro _ _ _ _ ⟨q, n, rfl, rfl, hq, h9, hn, rfl, hgo, rfl⟩
  rw [hlen]
  refine Br.dec (fun hlt => ?_) fun hge => ?_
  · have hql : q < b.length := by omega
    have hc := b[q].toNat_lt
    obtain ⟨s1, s2⟩ := vr_step hql h9 hn
    refine a.ix rfl (getB hql) fun bb off hb' => ⟨_, hb', ?_⟩
    refine ⟨fun c hh => c = decide ((q = 9 ∧ 1 < b[q].toNat) ∨ (0 < q ∧ b[q].toNat = 0)) ∧ h = hh, ?_, ?_⟩
    · have tail : Br (decide ((q : Int) > 0)) ((fun (c : Bool) (hh : Heap) => c = decide ((q = 9 ∧ 1 < b[q].toNat) ∨ (0 < q ∧ b[q].toNat = 0)) ∧ h = hh) ((b[q].toNat : Int) == 0) h) ((fun (c : Bool) (hh : Heap) => c = decide ((q = 9 ∧ 1 < b[q].toNat) ∨ (0 < q ∧ b[q].toNat = 0)) ∧ h = hh) false h) ∨ (q = 9 ∧ 1 < b[q].toNat) := by
        by_cases h1 : q = 9 ∧ 1 < b[q].toNat
        · exact .inr h1
        · left
          refine Br.dec (fun c => ⟨?_, rfl⟩) fun c => ⟨?_, rfl⟩
          · rw [Bool.eq_iff_iff]; simp only [beq_iff_eq, decide_eq_true_eq]; omega
          · symm; exact decide_eq_false (by omega)
      refine Br.eq (fun c => Br.dec (fun c2 => ⟨?_, rfl⟩) fun c2 => ?_) fun c => ?_
      · rw [Bool.eq_iff_iff]; simp only [decide_eq_true_eq]; omega
      · exact tail.resolve_right (by omega)
      · exact tail.resolve_right (by omega)
    rintro _ _ ⟨rfl, rfl⟩
    refine Br.dec (fun c => ?_) fun c => ⟨by rw [wi64 (by omega) (by omega)]; omega, ?_⟩
    · rw [← hgo, s1 c] at k
      exact k
    · have s34 := s2 c
      have s3 := s34.1
      have s4 := s34.2
      clear s34
      have e7 : IntKind.wrap .i64 ((7 : Int) * (q : Int)) = ((7 * q : Nat) : Int) := by rw [wi64 (by omega) (by omega)]; omega
      have hv : bitop .u64 .or (n : Int) (shiftL .u64 (IntKind.wrap .u64 (bitop .u8 .and (b[q].toNat : Int) 127)) (IntKind.wrap .i64 ((7 : Int) * (q : Int)))) = ((n + b[q].toNat % 128 * 2 ^ (7 * q) : Nat) : Int) := by
        rw [e7, and_byte, wu64 (by omega) (by omega)]
        refine or_shift h9 hn (by omega) fun h => ?_
        have : b[q].toNat ≤ 1 := by omega
        omega
      rw [hv]
      refine Br.dec (fun c2 => ?_) fun c2 => ?_
      · rw [← hgo, s3 (by omega)] at k
        rw [wi64 (by omega) (by omega)]
        exact k
      · have s4' := s4 (by omega)
        have g1 := s4'.1
        have g2 := s4'.2.1
        have g3 := s4'.2.2
        clear s4'
        exact ⟨b.length - (q + 1), by omega, q + 1, _, by rw [wi64 (by omega) (by omega)]; omega, rfl, by omega, g1, g2, rfl, by rw [← g3, hgo], rfl⟩
  · obtain rfl : q = b.length := by omega
    rw [List.drop_length, vrGo] at hgo
    rw [← hgo] at k
    exact k

set_option maxRecDepth 20000 in
theorem c70 {s : Slc} {b : List UInt8} (a : Arr 1 bF h s b) (hb : b.length ≤ 9223372036854775806) {R : Int → Int → Int → Heap → Prop} (k : R ((vrGo b 0 0).1 : Nat) ((vrGo b 0 0).2.1 : Nat) (vrGo b 0 0).2.2 h) :
    Call Go.Proofs.Try.prog 70 [.lf (.slc s)] h [.one (.int .u64), .one (.int .i64), .one (.int .i64)] R := by
  have hlen := a.len
  generalize hF : vrGo b 0 0 = F at k
  refine ok70 ⟨fun r i hh d => ∃ q n : Nat, i = q ∧ r = n ∧ q ≤ b.length ∧ q ≤ 9 ∧ n < 2 ^ (7 * q) ∧ h = hh ∧ vrGo (b.drop q) q n = F ∧ d = b.length - q, ⟨_, 0, 0, rfl, rfl, by omega, by omega, by omega, rfl, hF, rfl⟩, ?_⟩
  rintro _ _ _ _ ⟨q, n, rfl, rfl, hq, h9, hn, rfl, hgo, rfl⟩
  rw [hlen]
  refine Br.dec (fun hlt => ?_) fun hge => ?_
  · have hql : q < b.length := by omega
    have hc := b[q].toNat_lt
    obtain ⟨s1, s2⟩ := vr_step hql h9 hn
    refine a.ix rfl (getB hql) fun bb off hb' => ⟨_, hb', ?_⟩
    rw [wu64b]
    have bad : ((q = 9 ∧ 1 < b[q].toNat) ∨ (0 < q ∧ b[q].toNat = 0)) → R 0 0 3 h := fun c => by
      rw [← hgo, s1 c] at k
      exact k
    refine ⟨fun hh => ¬ ((q = 9 ∧ 1 < b[q].toNat) ∨ (0 < q ∧ b[q].toNat = 0)) ∧ h = hh, ?_, ?_⟩
    · refine Br.eq (fun c => Br.dec (fun c2 => bad (by omega)) fun c2 => Br.dec (fun c3 => Br.eq (fun c4 => bad (by omega)) fun c4 => ⟨by omega, rfl⟩) fun c3 => ⟨by omega, rfl⟩) fun c => Br.dec (fun c3 => Br.eq (fun c4 => bad (by omega)) fun c4 => ⟨by omega, rfl⟩) fun c3 => ⟨by omega, rfl⟩
    rintro _ ⟨c, rfl⟩
    have e7 : IntKind.wrap .u64 (IntKind.wrap .i64 ((7 : Int) * (q : Int))) = ((7 * q : Nat) : Int) := by rw [wi64 (by omega) (by omega), wu64 (by omega) (by omega)]; omega
    rw [e7]
    refine ⟨by omega, ?_⟩
    · have s34 := s2 c
      have s3 := s34.1
      have s4 := s34.2
      clear s34
      have hv : bitop .u64 .or (n : Int) (shiftL .u64 (bitop .u64 .and (b[q].toNat : Int) 127) ((7 * q : Nat) : Int)) = ((n + b[q].toNat % 128 * 2 ^ (7 * q) : Nat) : Int) := by
        rw [and_byte64]
        refine or_shift h9 hn (by omega) fun h => ?_
        have : b[q].toNat ≤ 1 := by omega
        omega
      rw [hv]
      refine Br.dec (fun c2 => ?_) fun c2 => ?_
      · rw [← hgo, s3 (by omega)] at k
        rw [wi64 (by omega) (by omega)]
        exact k
      · have s4' := s4 (by omega)
        have g1 := s4'.1
        have g2 := s4'.2.1
        have g3 := s4'.2.2
        clear s4'
        exact ⟨b.length - (q + 1), by omega, q + 1, _, by rw [wi64 (by omega) (by omega)]; omega, rfl, by omega, g1, g2, rfl, by rw [← g3, hgo], rfl⟩
  · obtain rfl : q = b.length := by omega
    rw [List.drop_length, vrGo] at hgo
    rw [← hgo] at k
    exact k
end

/-- A reader in memory: bytes that are left; no block from B on but its own is touched. -/
structure RdB (h : Heap) (p B : Nat) (xs : List Lf) (b : List UInt8) : Prop where
  ex : ∃ s t, Blk h p t (.slc s :: xs) ∧ Byt h s b ∧ (∀ blk off, s.a = some (blk, off) → blk < B ∧ blk ≠ p)
  len : b.length ≤ 4294967296

theorem RdB.ext {S : Nat → Prop} {h h' : Heap} {p B : Nat} {xs : List Lf} {b : List UInt8} (r : RdB h p B xs b) (e : Ext S h h') (hp : ¬ S p) (hB : ∀ i, i < B → ¬ S i) : RdB h' p B xs b := by
  obtain ⟨s, t, k, a, n⟩ := r.ex
  exact ⟨⟨s, t, k.ext e hp, a.ext e fun blk off z => hB blk (n blk off z).1, n⟩, r.len⟩
theorem RdB.ext0 {h h' : Heap} {p B : Nat} {xs : List Lf} {b : List UInt8} (r : RdB h p B xs b) (e : Ext0 h h') : RdB h' p B xs b := r.ext e id fun _ _ => id
theorem RdB.lt {h : Heap} {p B : Nat} {xs : List Lf} {b : List UInt8} (r : RdB h p B xs b) : p < h.size := by
  obtain ⟨s, t, k, a, n⟩ := r.ex
  exact k.lt

/-- Bytes are left behind. -/
theorem RdB.skip {h : Heap} {p B : Nat} {xs : List Lf} {b : List UInt8} {s : Slc} {t : TypeId} (k : Blk h p t (.slc s :: xs)) (a : Byt h s b) (n : ∀ blk off, s.a = some (blk, off) → blk < B ∧ blk ≠ p) (hb : b.length ≤ 4294967296) {m : Nat} (hm : m ≤ b.length) {i : Int} (hi : i = m) {K : Heap → Prop}
    (c : ∀ h', h'.size = h.size → RdB h' p B xs (b.drop m) → Ext (fun i => i = p) h h' → K h') : StC h p 0 [.slc (s.sub 1 i.toNat s.len s.cap)] K := by
  subst hi
  rw [show ((m : Nat) : Int).toNat = m by omega]
  refine StC.one k (by simp) fun h' hs k' e => c h' hs ⟨⟨_, t, k', (a.drop hm).ext e fun blk off z => ?_, fun blk off z => ?_⟩, by rw [List.length_drop]; omega⟩ e
  · obtain ⟨off', z⟩ := sub_inS z
    exact (n blk off' z).2
  · obtain ⟨off', z⟩ := sub_inS z
    exact n blk off' z

section
variable {h : Heap} {p B : Nat} {b : List UInt8}

theorem c59 (r : RdB h p B [] b) {R : Int → Heap → Prop} {Rp : TypeId → Value → Heap → Prop} (k0 : b = [] → Rp 27 (.int .i64 4) h)
    (k1 : ∀ c l h', b = c :: l → RdB h' p B [] l → Ext (fun i => i = p) h h' → R (c.toNat : Int) h') :
    CallP Go.Proofs.Try.prog 59 [.lf (.ptr (some (p, 0)))] h [.one (.int .u8)] R Rp := by
  obtain ⟨s, t, k, a, n⟩ := r.ex
  have hlen := a.len
  refine ok59 ⟨fun hh => b ≠ [] ∧ h = hh, NilC.mk rfl ⟨s, k.cell rfl, Br.eq (fun c => k0 (List.length_eq_zero_iff.1 (by omega))) fun c => ⟨fun z => c (by rw [hlen, z]; rfl), rfl⟩⟩, ?_⟩
  rintro _ ⟨hne, rfl⟩
  obtain ⟨c, l, rfl⟩ := List.exists_cons_of_ne_nil hne
  refine NilC.mk rfl ⟨s, k.cell rfl, a.arr.ix (k := 0) (x := c) rfl rfl fun bb off hb => ⟨_, hb, NilC.mk rfl ⟨s, k.cell rfl, by omega, by rw [hlen, List.length_cons]; omega, NilC.mk rfl ?_⟩⟩⟩
  exact RdB.skip k a n r.len (m := 1) (i := 1) (by simp) rfl fun h' _ r' e => k1 c l h' rfl r' e

theorem c60 (r : RdB h p B [] b) {most : Nat} {R : Int → Heap → Prop} {Rp : TypeId → Value → Heap → Prop} (k0 : ∀ e, numD b most = .error e → Rp 27 (.int .i64 e) h)
    (k1 : ∀ n l h', numD b most = .ok (n, l) → RdB h' p B [] l → Ext (fun i => i = p) h h' → R (n : Nat) h') :
    CallP Go.Proofs.Try.prog 60 [.lf (.ptr (some (p, 0))), .lf (.int .u64 (most : Nat))] h [.one (.int .u64)] R Rp := by
  obtain ⟨s, t, k, a, n⟩ := r.ex
  have hlen := a.len
  have hbl := r.len
  refine ok60 (NilC.mk rfl ⟨s, k.cell rfl, c69 a.arr (by omega) ?_⟩)
  refine Br.ne (fun c => ?_) fun c => Br.dec (fun c2 => ?_) fun c2 => ?_
  · exact k0 _ (by unfold numD; rw [if_pos c])
  · exact k0 _ (by unfold numD; rw [if_neg (by rw [c]; simp), if_pos (by omega)])
  · have hok : numD b most = .ok ((vrGo b 0 0).1, b.drop (vrGo b 0 0).2.1) := by unfold numD; rw [if_neg (by rw [c]; simp), if_neg (by omega)]
    obtain ⟨_, _, _, _, _, g⟩ := numD_ok hok
    refine NilC.mk rfl ⟨s, k.cell rfl, by omega, by omega, NilC.mk rfl ?_⟩
    exact RdB.skip k a n r.len g rfl fun h' _ r' e => k1 _ _ h' hok r' e

theorem c61 (r : RdB h p B [] b) {most : Nat} {R : ByteArray → Heap → Prop} {Rp : TypeId → Value → Heap → Prop} (k0 : ∀ e h', textD b most = .error e → Ext (fun i => i = p) h h' → Rp 27 (.int .i64 e) h')
    (k1 : ∀ x l h', textD b most = .ok (x, l) → RdB h' p B [] l → Ext (fun i => i = p) h h' → R ⟨x.toArray⟩ h') :
    CallP Go.Proofs.Try.prog 61 [.lf (.ptr (some (p, 0))), .lf (.int .u64 (most : Nat))] h [.one .str] R Rp := by
  refine ok61 (c60 r (fun e he => k0 e h (by unfold textD; rw [he]) (Ext.refl _ _)) fun m l h1 hm r1 e1 => ?_)
  obtain ⟨s, t, k, a, n⟩ := r1.ex
  have hlen := a.len
  have hcap := a.cap
  have hbl := r1.len
  have ht : textD b most = if l.length < m then .error 4 else .ok (l.take m, l.drop m) := by unfold textD; rw [hm]
  refine ⟨fun hh => ¬ l.length < m ∧ h1 = hh, NilC.mk rfl ⟨s, k.cell rfl, ?_⟩, ?_⟩
  · rw [wu64 (by omega) (by omega)]
    refine Br.dec (fun c => k0 4 h1 (by rw [ht, if_pos (by omega)]) e1) fun c => ⟨by omega, rfl⟩
  · rintro _ ⟨c, rfl⟩
    rw [if_neg c] at ht
    have hml : m ≤ l.length := by omega
    refine NilC.mk rfl ⟨s, k.cell rfl, by omega, by omega, ⟨(l.take m).toArray⟩, ?_, NilC.mk rfl ⟨s, k.cell rfl, by omega, by omega, NilC.mk rfl (RdB.skip k a n r1.len hml rfl fun h' _ r' e => k1 _ _ h' ht r' (e1.trans e))⟩⟩
    have := (a.take hml).arr.bytes (fun _ => rfl)
    rw [show ((m : Nat) : Int).toNat = m by omega]
    exact this
end

end Go.V.Ytclffphegfhocaa
set_option linter.unusedVariables false
set_option linter.unusedSimpArgs false
/-! Readers of records: a record, by the program and by the document. -/
namespace Go.V.Ytclffphegfhocaa
open Go Go.V

theorem RdB.tmp {h h' : Heap} {p B x : Nat} {xs : List Lf} {b : List UInt8} (r : RdB h p B xs b) (e : Ext (fun i => i = x) h h') (hp : p ≠ x) (hB : B ≤ x) : RdB h' p B xs b :=
  r.ext e hp fun i hi z => by have z : i = x := z; omega

theorem recD_cons (c : UInt8) (r : List UInt8) : recD (c :: r) = if 2 < c.toNat then .error 3 else match numD r 4294967295 with
    | .error e => .error e
    | .ok (f, r1) => match textD r1 1024 with
      | .error e => .error e
      | .ok (key, r2) => if c.toNat = 0 then .ok (⟨f, c.toNat, ⟨key.toArray⟩, empty⟩, r2) else match textD r2 (mostD c.toNat) with
        | .error e => .error e
        | .ok (val, r3) => .ok (⟨f, c.toNat, ⟨key.toArray⟩, ⟨val.toArray⟩⟩, r3) := rfl

section
variable {h : Heap} {p B : Nat} {b : List UInt8}

theorem c42 (r : RdB h p B [] b) (hB : B ≤ h.size) {R : Int → Int → ByteArray → ByteArray → Heap → Prop} {Rp : TypeId → Value → Heap → Prop}
    (k0 : ∀ e h', recD b = .error e → Ext (fun i => i = p) h h' → Rp 27 (.int .i64 e) h')
    (k1 : ∀ x l h', recD b = .ok (x, l) → RdB h' p B [] l → Ext (fun i => i = p) h h' → R x.fam x.kind x.key x.val h') :
    CallP Go.Proofs.Try.prog 42 [.lf (.ptr (some (p, 0)))] h [.agg [.int .u32, .int .i64, .str, .str]] R Rp := by
  have hp := r.lt
  refine ok42 (New.mk fun b0 h1 hb0 hs1 e1 _ => ?_)
  refine c59 (r.ext0 e1) (fun hb => ⟨(Ext.refl none' h1).keep (by omega), k0 _ _ (by rw [hb]; rfl) e1.of0⟩) fun c l h3 hb r3 e3 => ?_
  subst hb
  have hc := c.toNat_lt
  have s3 := e3.size
  have E3 : Ext (fun i => i = p) h h3 := e1.of0.trans e3
  rw [wi64 (by omega) (by omega)]
  refine ⟨e3.keep (by omega) (by omega), New.mk fun b4 h5 hb4 hs5 e5 k5 => Set.mk fun h6 hs6 e6 _ => ?_⟩
  have E6 : Ext (fun i => i = p) h h6 := E3.then0 (Ext.tmp e5 e6 (by omega))
  have r6 := r3.ext0 (Ext.tmp e5 e6 (by omega))
  refine ⟨fun hh => ¬ 2 < c.toNat ∧ h6 = hh, Br.dec (fun c2 => k0 3 h6 (by rw [recD_cons, if_pos (by omega)]) E6) fun c2 => ⟨by omega, rfl⟩, ?_⟩
  rintro _ ⟨c2, rfl⟩
  refine c60 (most := 4294967295) r6 (fun e he => ⟨(Ext.refl none' h6).keep2 (by omega) (by omega), k0 e h6 (by rw [recD_cons, if_neg c2]; simp only [he]) E6⟩) fun f l1 h10 hf r10 e10 => ?_
  obtain ⟨_, f2, _⟩ := numD_ok hf
  have s10 := e10.size
  have E10 : Ext (fun i => i = p) h h10 := E6.trans e10
  rw [wu32 (by omega) (by omega)]
  refine ⟨e10.keep2 (by omega) (by omega) (by omega) (by omega), Set.mk fun h11 hs11 e11 _ => ?_⟩
  have E11 : Ext (fun i => i = p) h h11 := E10.trans' e11 fun i hi z => by have z : i = b4 := z; omega
  have r11 := r10.tmp e11 (by omega) (by omega)
  have hrec1 : recD (c :: l) = match textD l1 1024 with
      | .error e => .error e
      | .ok (key, r2) => if c.toNat = 0 then .ok (⟨f, c.toNat, ⟨key.toArray⟩, empty⟩, r2) else match textD r2 (mostD c.toNat) with
        | .error e => .error e
        | .ok (val, r3) => .ok (⟨f, c.toNat, ⟨key.toArray⟩, ⟨val.toArray⟩⟩, r3) := by
    rw [recD_cons, if_neg c2]; simp only [hf]
  refine c61 (most := 1024) r11 (fun e h' he e' => ⟨e'.keep2 (by omega) (by omega) (by omega) (by omega), k0 e h' (by rw [hrec1, he]) (E11.trans e')⟩) fun key l2 h13 hk r13 e13 => ?_
  have s13 := e13.size
  have E13 : Ext (fun i => i = p) h h13 := E11.trans e13
  refine ⟨e13.keep2 (by omega) (by omega) (by omega) (by omega), Set.mk fun h14 hs14 e14 _ => ?_⟩
  have E14 : Ext (fun i => i = p) h h14 := E13.trans' e14 fun i hi z => by have z : i = b4 := z; omega
  have r14 := r13.tmp e14 (by omega) (by omega)
  rw [hk] at hrec1
  simp only at hrec1
  have more : ∀ (m : Nat), mostD c.toNat = m → c.toNat ≠ 0 → CallP Go.Proofs.Try.prog 61 [.lf (.ptr (some (p, 0))), .lf (.int .u64 (m : Nat))] h14 [.one .str] (fun (t15 : ByteArray) h16 => keepB h14 h16 [b0, b4] ∧ Set b4 31 [.int .u32 f, .int .i64 c.toNat, .str ⟨key.toArray⟩, .str t15] h16 fun h17 => Set b0 31 [.int .u32 f, .int .i64 c.toNat, .str ⟨key.toArray⟩, .str t15] h17 fun h18 => R f c.toNat ⟨key.toArray⟩ t15 h18)
      fun t v h' => keepB h14 h' [b0, b4] ∧ Rp t v h' := by
    intro m hm hc0
    rw [if_neg hc0, hm] at hrec1
    refine c61 r14 (fun e h' he e' => ⟨e'.keep2 (by omega) (by omega) (by omega) (by omega), k0 e h' (by rw [hrec1, he]) (E14.trans e')⟩) fun val l3 h16 hv r16 e16 => ?_
    have s16 := e16.size
    refine ⟨e16.keep2 (by omega) (by omega) (by omega) (by omega), Set.mk fun h17 hs17 e17 _ => Set.mk fun h18 hs18 e18 _ => ?_⟩
    rw [hv] at hrec1
    exact k1 _ _ h18 hrec1 ((r16.tmp e17 (by omega) (by omega)).tmp e18 (by omega) (by omega)) (((E14.trans e16).trans' e17 fun i hi z => by have z : i = b4 := z; omega).trans' e18 fun i hi z => by have z : i = b0 := z; omega)
  refine Br.eq (fun c3 => more 16384 (by unfold mostD; rw [if_pos (by omega)]) (by omega)) fun c3 => Br.eq (fun c4 => more 1024 (by unfold mostD; rw [if_neg (by omega)]) (by omega)) fun c4 => Set.mk fun h29 hs29 e29 _ => ?_
  rw [if_pos (by omega)] at hrec1
  exact k1 _ _ h29 hrec1 (r14.tmp e29 (by omega) (by omega)) (E14.trans' e29 fun i hi z => by have z : i = b0 := z; omega)

/-! ### The document's -/

theorem vrGo_le : ∀ (b : List UInt8) (i n : Nat), (vrGo b i n).2.1 ≤ i + b.length ∧ ((vrGo b i n).2.2 ≠ 0 → (vrGo b i n).2.1 = 0)
  | [], i, n => by simp [vrGo]
  | c :: r, i, n => by
    rw [vrGo]
    split
    · simp
    split
    · exact ⟨by simp only [List.length_cons]; omega, fun h => absurd rfl h⟩
    · have := vrGo_le r (i + 1) (n + c.toNat % 128 * 2 ^ (7 * i))
      simp only [List.length_cons]
      exact ⟨by omega, this.2⟩

/-- The document's reader: what is left, or what is wrong. -/
def StB (h : Heap) (p B : Nat) : Except Int (List UInt8) → Prop
  | .ok b => RdB h p B [.int .i64 0] b
  | .error e => e ≠ 0 ∧ ∃ b, RdB h p B [.int .i64 e] b

theorem StB.rd {h : Heap} {p B : Nat} {x : Except Int (List UInt8)} (S : StB h p B x) : ∃ e b, RdB h p B [.int .i64 e] b ∧ ((e = 0 ∧ x = .ok b) ∨ (e ≠ 0 ∧ x = .error e)) := by
  cases x with
  | ok b => exact ⟨0, b, S, .inl ⟨rfl, rfl⟩⟩
  | error e => obtain ⟨h1, b, h2⟩ := S; exact ⟨e, b, h2, .inr ⟨h1, rfl⟩⟩
theorem StB.lt {h : Heap} {p B : Nat} {x : Except Int (List UInt8)} (S : StB h p B x) : p < h.size := by obtain ⟨e, b, r, _⟩ := S.rd; exact r.lt
theorem StB.tmp {h h' : Heap} {p B y : Nat} {x : Except Int (List UInt8)} (S : StB h p B x) (e : Ext (fun i => i = y) h h') (hp : p ≠ y) (hB : B ≤ y) : StB h' p B x := by
  cases x with
  | ok b => exact RdB.tmp S e hp hB
  | error e' => obtain ⟨h1, b, h2⟩ := S; exact ⟨h1, b, h2.tmp e hp hB⟩

/-- An error is noted. -/
theorem RdB.why {h : Heap} {p B : Nat} {e e' : Int} {b : List UInt8} (r : RdB h p B [.int .i64 e] b) (hne : e' ≠ 0) {K : Heap → Prop} (c : ∀ h', h'.size = h.size → StB h' p B (.error e') → Ext (fun i => i = p) h h' → K h') : StC h p 1 [.int .i64 e'] K := by
  obtain ⟨s, t, k, a, n⟩ := r.ex
  exact StC.one k (by show 1 < 2; omega) fun h' hs k' ex => c h' hs ⟨hne, b, ⟨⟨s, t, k', a.ext ex fun blk off z => (n blk off z).2, n⟩, r.len⟩⟩ ex

theorem c62 {x : Except Int (List UInt8)} (S : StB h p B x) {R : Int → Heap → Prop}
    (k0 : ∀ e, x = .error e → R 0 h)
    (k1 : ∀ b h', x = .ok b → StB h' p B (if (vrGo b 0 0).2.2 = 0 then .ok (b.drop (vrGo b 0 0).2.1) else .error (vrGo b 0 0).2.2) → Ext (fun i => i = p) h h' → R ((vrGo b 0 0).1 : Nat) h') :
    Call Go.Proofs.Try.prog 62 [.lf (.ptr (some (p, 0)))] h [.one (.int .u64)] R := by
  obtain ⟨e, b, r, hx⟩ := S.rd
  obtain ⟨s, t, k, a, n⟩ := r.ex
  have hbl := r.len
  have hlen := a.len
  refine ok62 (NilC.mk rfl ⟨e, k.cell rfl, Br.ne (fun c => ?_) fun c => ?_⟩)
  · exact k0 e ((hx.resolve_left fun z => c z.1).2)
  · have hx := (hx.resolve_right fun z => z.1 c).2
    obtain ⟨g1, g2⟩ := vrGo_le b 0 0
    refine NilC.mk rfl ⟨s, k.cell rfl, c70 a.arr (by omega) (NilC.mk rfl (StC.one k (by show 1 < 2; omega) fun h12 hs12 k12 e12 => NilC.mk rfl ⟨s, k12.cell rfl, by omega, by omega, NilC.mk rfl ?_⟩))⟩
    have a12 := a.ext e12 fun blk off z => (n blk off z).2
    have k12 : Blk h12 p t (.slc s :: [.int .i64 (vrGo b 0 0).2.2]) := k12
    refine RdB.skip k12 a12 n hbl (m := (vrGo b 0 0).2.1) (by omega) rfl fun h18 _ r18 e18 => k1 b h18 hx ?_ (e12.trans e18)
    split
    · rename_i hz
      rw [hz] at r18
      exact r18
    · rename_i hz
      exact ⟨hz, _, r18⟩

def snd' {α : Type} : Except Int (α × List UInt8) → Except Int (List UInt8)
  | .error e => .error e
  | .ok (_, l) => .ok l
def andD {α β : Type} (x : Except Int (α × List UInt8)) (f : List UInt8 → Except Int (β × List UInt8)) : Except Int (β × List UInt8) := match x with
  | .error e => .error e
  | .ok (_, l) => f l
def textX (x : Except Int (List UInt8)) (most : Nat) : Except Int (List UInt8 × List UInt8) := match x with
  | .error e => .error e
  | .ok l => textD l most

theorem c63 {x : Except Int (List UInt8)} (S : StB h p B x) {most : Nat} (hm : most < 9223372036854775808) {R : ByteArray → Heap → Prop}
    (k : ∀ t h', (∀ y l, textX x most = .ok (y, l) → t = ⟨y.toArray⟩) → StB h' p B (snd' (textX x most)) → Ext (fun i => i = p) h h' → R t h') :
    Call Go.Proofs.Try.prog 63 [.lf (.ptr (some (p, 0))), .lf (.int .i64 (most : Nat))] h [.one .str] R := by
  -- where something is wrong
  have bad : ∀ (h1 h2 : Heap) (e : Int), Ext (fun i => i = p) h h2 → textX x most = .error e → StB h2 p B (.error e) → R (ByteArray.mk #[]) h2 := fun h1 h2 e E ht S2 => by
    refine k _ h2 (fun y l hy => by rw [ht] at hy; cases hy) ?_ E
    rw [ht]; exact S2
  refine ok63 (c62 S (fun e he => ?_) fun b h1 hb S1 e1 => ?_)
  · subst he
    obtain ⟨hne, b, r⟩ := id S
    obtain ⟨s, t, kk, a, n⟩ := r.ex
    refine ⟨fun hh => h = hh, ⟨fun c hh => c = false ∧ h = hh, NilC.mk rfl ⟨e, kk.cell rfl, Br.eq (fun z => absurd z hne) fun _ => ⟨rfl, rfl⟩⟩, ?_⟩, ?_⟩
    · rintro _ _ ⟨rfl, rfl⟩; exact Br.f rfl rfl
    rintro _ rfl
    refine ⟨fun hh => h = hh, NilC.mk rfl ⟨e, kk.cell rfl, Br.eq (fun z => absurd z hne) fun _ => rfl⟩, ?_⟩
    rintro _ rfl
    exact NilC.mk rfl ⟨e, kk.cell rfl, Br.ne (fun _ => bad h h e (Ext.refl _ _) rfl S) fun z => absurd z hne⟩
  · subst hb
    have htx : textX (.ok b) most = textD b most := rfl
    rw [htx] at bad k
    rw [wu64 (n := (most : Int)) (by omega) (by omega)]
    generalize hF : vrGo b 0 0 = F at *
    have hnum : numD b most = if F.2.2 ≠ 0 then .error F.2.2 else if most < F.1 then .error 3 else .ok (F.1, b.drop F.2.1) := by unfold numD; rw [hF]
    by_cases h0 : F.2.2 = 0
    · rw [if_pos h0] at S1
      rw [if_neg (by simpa using h0)] at hnum
      have r1 : RdB h1 p B [.int .i64 0] (b.drop F.2.1) := S1
      obtain ⟨s, t, kk, a, n⟩ := r1.ex
      have hlen := a.len
      have hcap := a.cap
      have hbl := r1.len
      generalize hl : b.drop F.2.1 = l at *
      by_cases hm2 : most < F.1
      · rw [if_pos hm2] at hnum
        have ht : textD b most = .error 3 := by unfold textD; rw [hnum]
        refine ⟨fun hh => StB hh p B (.error 3) ∧ Ext (fun i => i = p) h hh, ⟨fun c hh => c = true ∧ h1 = hh, NilC.mk rfl ⟨_, kk.cell rfl, Br.t rfl ⟨decide_eq_true (by omega), rfl⟩⟩, ?_⟩, ?_⟩
        · rintro _ _ ⟨rfl, rfl⟩
          exact Br.t rfl (NilC.mk rfl (r1.why (by decide) fun h' _ S' e' => ⟨S', e1.trans e'⟩))
        · rintro h12 ⟨S12, e12⟩
          obtain ⟨hne, b', r'⟩ := id S12
          obtain ⟨s', t', kk', a', n'⟩ := r'.ex
          refine ⟨fun hh => h12 = hh, NilC.mk rfl ⟨_, kk'.cell rfl, Br.f rfl rfl⟩, ?_⟩
          rintro _ rfl
          exact NilC.mk rfl ⟨_, kk'.cell rfl, Br.t rfl (bad h12 h12 3 e12 ht S12)⟩
      · rw [if_neg hm2] at hnum
        refine ⟨fun hh => h1 = hh, ⟨fun c hh => c = false ∧ h1 = hh, NilC.mk rfl ⟨_, kk.cell rfl, Br.t rfl ⟨decide_eq_false (by omega), rfl⟩⟩, ?_⟩, ?_⟩
        · rintro _ _ ⟨rfl, rfl⟩; exact Br.f rfl rfl
        rintro _ rfl
        by_cases hs : l.length < F.1
        · have ht : textD b most = .error 4 := by unfold textD; rw [hnum]; simp only; rw [if_pos hs]
          refine ⟨fun hh => StB hh p B (.error 4) ∧ Ext (fun i => i = p) h hh, NilC.mk rfl ⟨_, kk.cell rfl, Br.t rfl (NilC.mk rfl ⟨_, kk.cell rfl, ?_⟩)⟩, ?_⟩
          · rw [wu64 (by omega) (by omega)]
            exact Br.t (decide_eq_true (by omega)) (NilC.mk rfl (r1.why (by decide) fun h' _ S' e' => ⟨S', e1.trans e'⟩))
          · rintro h12 ⟨S12, e12⟩
            obtain ⟨hne, b', r'⟩ := id S12
            obtain ⟨s', t', kk', a', n'⟩ := r'.ex
            exact NilC.mk rfl ⟨_, kk'.cell rfl, Br.t rfl (bad h12 h12 4 e12 ht S12)⟩
        · have ht : textD b most = .ok (l.take F.1, l.drop F.1) := by unfold textD; rw [hnum]; simp only; rw [if_neg hs]
          refine ⟨fun hh => h1 = hh, NilC.mk rfl ⟨_, kk.cell rfl, Br.t rfl (NilC.mk rfl ⟨_, kk.cell rfl, ?_⟩)⟩, ?_⟩
          · rw [wu64 (by omega) (by omega)]
            exact Br.f (decide_eq_false (by omega)) rfl
          rintro _ rfl
          have hml : F.1 ≤ l.length := by omega
          refine NilC.mk rfl ⟨_, kk.cell rfl, Br.f rfl (NilC.mk rfl ⟨s, kk.cell rfl, by omega, by omega, ⟨(l.take F.1).toArray⟩, ?_, NilC.mk rfl ⟨s, kk.cell rfl, by omega, by omega, NilC.mk rfl (RdB.skip kk a n hbl hml rfl fun h' _ r' e' => k _ h' (fun y z hy => ?_) ?_ (e1.trans e'))⟩⟩)⟩
          · have := (a.take hml).arr.bytes (fun _ => rfl)
            rw [show ((F.1 : Nat) : Int).toNat = F.1 by omega]
            exact this
          · rw [ht] at hy; cases hy; rfl
          · rw [ht]; exact r'
    · rw [if_neg h0] at S1
      rw [if_pos h0] at hnum
      have ht : textD b most = .error F.2.2 := by unfold textD; rw [hnum]
      obtain ⟨hne, b', r'⟩ := id S1
      obtain ⟨s', t', kk', a', n'⟩ := r'.ex
      refine ⟨fun hh => h1 = hh, ⟨fun c hh => c = false ∧ h1 = hh, NilC.mk rfl ⟨_, kk'.cell rfl, Br.eq (fun z => absurd z hne) fun _ => ⟨rfl, rfl⟩⟩, ?_⟩, ?_⟩
      · rintro _ _ ⟨rfl, rfl⟩; exact Br.f rfl rfl
      rintro _ rfl
      refine ⟨fun hh => h1 = hh, NilC.mk rfl ⟨_, kk'.cell rfl, Br.eq (fun z => absurd z hne) fun _ => rfl⟩, ?_⟩
      rintro _ rfl
      exact NilC.mk rfl ⟨_, kk'.cell rfl, Br.ne (fun _ => bad h1 h1 _ e1 ht S1) fun z => absurd z hne⟩
end

end Go.V.Ytclffphegfhocaa
