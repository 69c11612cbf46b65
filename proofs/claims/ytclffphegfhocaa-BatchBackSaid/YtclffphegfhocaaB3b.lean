/- This text proves a part of the laws of seat Ytclffphegfhocaa, under no condition: B3b. -/
import Derived.Test.YtclffphegfhocaaVL
import Derived.Test.YtclffphegfhocaaB3a
set_option linter.unusedVariables false
set_option linter.unusedSimpArgs false
/-! The bytes of a record, the check, the small functions of the batch. -/
namespace Go.V.Ytclffphegfhocaa
open Go Go.V

/-- A record. -/
structure Rec where
  fam : Int
  kind : Int
  key : ByteArray
  val : ByteArray

def Rec.lfs (r : Rec) : List Lf := [.int .u32 r.fam, .int .i64 r.kind, .str r.key, .str r.val]
structure Rec.Ok (r : Rec) : Prop where
  f0 : 0 ≤ r.fam
  f1 : r.fam ≤ 4294967295
  k0 : -9223372036854775808 ≤ r.kind
  k1 : r.kind ≤ 9223372036854775807

def empty : ByteArray := ByteArray.mk #[]

def checkE (r : Rec) : Int :=
  if r.kind = 0 then (if r.key.size > 1024 then 2 else 0)
  else if r.kind = 1 then (if r.key.size > 1024 then 2 else if r.val.size > 16384 then 2 else 0)
  else if r.kind = 2 then (if r.key.size > 1024 then 2 else if r.val.size > 1024 then 2 else 0)
  else 1

def plainR (r : Rec) : Rec := if r.kind = 0 then { r with val := empty } else r

theorem plainR_ok {r : Rec} (h : r.Ok) : (plainR r).Ok := by unfold plainR; split <;> exact ⟨h.f0, h.f1, h.k0, h.k1⟩

def bF (c : UInt8) : List Lf := [.int .u8 (c.toNat : Int)]
theorem bF_sized : Sized 1 bF := fun _ => rfl
theorem lfs_sized : Sized 4 Rec.lfs := fun _ => rfl
def iF (n : Int) : List Lf := [.int .i64 n]
theorem iF_sized : Sized 1 iF := fun _ => rfl

/-- A number's bytes, seven bits each. -/
def varint (n : Nat) : List UInt8 := if h : n < 128 then [UInt8.ofNat n] else UInt8.ofNat (n % 128 + 128) :: varint (n / 128)
  termination_by n
  decreasing_by omega

theorem varint_small {n : Nat} (h : n < 128) : varint n = [UInt8.ofNat n] := by rw [varint, dif_pos h]
theorem varint_big {n : Nat} (h : ¬ n < 128) : varint n = UInt8.ofNat (n % 128 + 128) :: varint (n / 128) := by rw [varint, dif_neg h]

theorem varint_len : ∀ (k n : Nat), n < 128 ^ (k + 1) → (varint n).length ≤ k + 1
  | 0, n, h => by rw [varint_small (by simpa using h)]; simp
  | k + 1, n, h => by
    by_cases hn : n < 128
    · rw [varint_small hn]; simp
    · rw [varint_big hn]
      have := varint_len k (n / 128) (by rw [Nat.div_lt_iff_lt_mul (by decide)]; rw [Nat.pow_succ] at h; exact h)
      simpa using this

theorem varint_len10 {n : Nat} (h : n < 1180591620717411303424) : (varint n).length ≤ 10 := varint_len 9 n (by simpa using h)

def encR (r : Rec) : List UInt8 :=
  UInt8.ofNat (r.kind % 256).toNat :: (varint r.fam.toNat ++ (varint r.key.size ++ r.key.data.toList) ++ (if r.kind = 0 then [] else varint r.val.size ++ r.val.data.toList))

theorem or128 : ∀ x : Fin 256, bitop .u8 .or (x.val : Int) 128 = (((x.val % 128 + 128 : Nat)) : Int) := by decide +kernel

theorem wu8_nat (n : Nat) : IntKind.wrap .u8 (n : Int) = ((n % 256 : Nat) : Int) := by
  simp [IntKind.wrap, IntKind.bits, IntKind.signed]

theorem or_byte (n : Nat) : bitop .u8 .or (IntKind.wrap .u8 (n : Int)) 128 = ((UInt8.ofNat (n % 128 + 128)).toNat : Int) := by
  rw [wu8_nat]
  have := or128 ⟨n % 256, Nat.mod_lt _ (by decide)⟩
  simp only at this
  rw [this]
  simp
  omega

theorem lo_byte {n : Nat} : IntKind.wrap .u8 (n : Int) = ((UInt8.ofNat n).toNat : Int) := by
  rw [wu8_nat]; simp

theorem shr7 (n : Nat) : shiftR .u64 (n : Int) 7 = ((n / 128 : Nat) : Int) := by
  show Int.fdiv (n : Int) (2 ^ (min (7 : Int).toNat 64)) = _
  rw [show ((2 : Int) ^ (min (7 : Int).toNat 64)) = ((128 : Nat) : Int) by decide]
  rw [Int.fdiv_eq_ediv_of_nonneg _ (by omega)]
  omega

theorem and127 {n : Nat} (h : n < 18446744073709551616) : bitop .u64 .and (n : Int) 127 = ((n % 128 : Nat) : Int) := by
  have h1 : (BitVec.ofInt 64 (n : Int) &&& BitVec.ofInt 64 127).toNat = n % 128 := by
    rw [BitVec.toNat_and]
    have e1 : (BitVec.ofInt 64 (n : Int)).toNat = n := by
      rw [BitVec.toNat_ofInt]; omega
    have e2 : (BitVec.ofInt 64 127).toNat = 2 ^ 7 - 1 := by decide
    rw [e1, e2, Nat.and_two_pow_sub_one_eq_mod]
  show IntKind.wrap .u64 (((BitVec.ofInt 64 (n : Int) &&& BitVec.ofInt 64 127).toNat : Nat) : Int) = _
  rw [h1]
  exact wu64 (by omega) (by omega)


/-! ### The small ones -/
theorem c19 {r : Rec} {h : Heap} {R : Int → Heap → Prop} (k : ∀ h', Ext0 h h' → R (checkE r) h') :
    Call Go.Proofs.Try.prog 19 [.agg r.lfs] h [.one (.int .i64)] R := by
  refine ok19 (New.mk fun b h1 _ _ e1 _ => ⟨fun x h' => h' = h1 ∧ (r.kind = 0 ∧ x = r.val.size ∨ r.kind = 1 ∧ x = 16384 ∨ r.kind = 2 ∧ x = 1024), ?_, ?_⟩)
  · refine Br.eq (fun h0 => ⟨rfl, .inl ⟨h0, rfl⟩⟩) fun h0 => Br.eq (fun h1 => ⟨rfl, .inr (.inl ⟨h1, rfl⟩)⟩) fun h1 => Br.eq (fun h2 => ⟨rfl, .inr (.inr ⟨h2, rfl⟩)⟩) fun h2 => ?_
    have := k _ e1
    rwa [checkE, if_neg h0, if_neg h1, if_neg h2] at this
  · rintro x _ ⟨rfl, hx⟩
    have := k _ e1
    unfold checkE at this
    rcases hx with ⟨h0, rfl⟩ | ⟨h0, rfl⟩ | ⟨h0, rfl⟩ <;> simp only [h0] at this <;> refine Br.dec (fun hk => ?_) fun hk => Br.dec (fun hv => ?_) fun hv => ?_ <;>
      first
      | (exfalso; omega)
      | (simp (disch := omega) only [if_pos, if_neg] at this; exact this)
      | skip
    all_goals (have hk' : ¬ (r.key.size > 1024) ∨ r.key.size > 1024 := by omega)
    all_goals simp_all
    all_goals (first | (rw [if_pos (by omega)] at this; exact this) | (rw [if_neg (by omega)] at this; exact this) | (rw [if_neg (by omega), if_neg (by omega)] at this; exact this) | (rw [if_neg (by omega), if_pos (by omega)] at this; exact this))

theorem c54 {r : Rec} {h : Heap} {R : Int → Int → ByteArray → ByteArray → Heap → Prop}
    (k : ∀ h', Ext0 h h' → R (plainR r).fam (plainR r).kind (plainR r).key (plainR r).val h') :
    Call Go.Proofs.Try.prog 54 [.agg r.lfs] h [.agg [.int .u32, .int .i64, .str, .str]] R := by
  refine ok54 (New.mk fun b h1 hb hs1 e1 _ => New.mk fun c h3 hc hs3 e3 _ => ?_)
  unfold plainR at k
  refine Br.eq (fun h0 => ?_) fun h0 => ?_
  · refine Set.mk fun h4 _ e4 _ => Set.mk fun h5 _ e5 _ => ?_
    simp only [h0, if_true] at k
    have e : Ext0 h h5 := ((e1.trans e3).trans' e4 fun i hi hx => by omega).trans' e5 fun i hi hx => by omega
    have := k _ e
    rwa [← h0] at this
  · refine Set.mk fun h4 _ e4 _ => ?_
    simp only [h0, if_false] at k
    exact k _ ((e1.trans e3).trans' e4 fun i hi hx => by omega)

theorem bF_one (n : Int) (x : UInt8) (h : n = (x.toNat : Int)) : [Lf.int .u8 n] = [x].flatMap bF := by simp [bF, h]

/-- The bytes of a number. -/
theorem c55 {n : Nat} (hn : n < 18446744073709551616) {h : Heap} {R : Slc → Heap → Prop}
    (k : ∀ s h', Own 1 bF h' s (varint n) → Ext0 h h' → (∀ b off, s.a = some (b, off) → h.size ≤ b) → R s h') :
    Call Go.Proofs.Try.prog 55 [.lf (.int .u64 n)] h [.one .slc] R := by
  refine ok55 ⟨fun i s h' d => ∃ (m : Nat) (l : List UInt8), i = m ∧ m < 18446744073709551616 ∧ m = d ∧ varint n = l ++ varint m ∧ l.length ≤ 10 ∧ Own 1 bF h' s l ∧ Ext0 h h' ∧ (∀ b off, s.a = some (b, off) → h.size ≤ b), ⟨n, n, [], rfl, hn, rfl, rfl, by simp, Own.nil _ _ _, Ext.refl _ _, fun b off e => by cases e⟩, ?_⟩
  rintro _ s h4 _ ⟨m, l, rfl, hm, rfl, hl, hlen, o, e, hf⟩
  have hlen' : l.length + (varint m).length ≤ 10 := by
    have := varint_len10 (n := n) (by omega)
    rw [hl] at this; simpa using this
  have hpos : 0 < (varint m).length := by rw [varint]; split <;> simp
  have keyE : ∀ {x : UInt8} {b6 : Nat} {h7 h9 : Heap} {s8 : Slc}, Ext0 h4 h7 → Ext (fun b => ∃ off, s.a = some (b, off)) h7 h9 → h4.size ≤ h7.size → Ext0 h h9 := by
    intro x b6 h7 h9 s8 e7 e9 hs7
    exact (e.trans e7).trans' e9 fun i hi ⟨off, hx⟩ => absurd (hf _ _ hx) (by omega)
  have keyF : ∀ {h7 : Heap} {s8 : Slc}, h4.size ≤ h7.size → (s8.a = s.a ∨ ∃ b, s8.a = some (b, 0) ∧ h7.size ≤ b) → ∀ b off, s8.a = some (b, off) → h.size ≤ b := by
    intro h7 s8 hs7 hor b off hb
    rcases hor with h1 | ⟨b', h1, h2⟩
    · exact hf b off (h1 ▸ hb)
    · rw [h1] at hb; cases hb; have := e.size; omega
  refine Br.dec (fun hge => ?_) fun hlt => ?_
  · have hge' : ¬ m < 128 := by omega
    refine New.mk fun b6 h7 hb hs7 e7 k7 => ?_
    rw [bF_one _ _ (or_byte m)] at k7
    refine AppC.own bF_sized (by decide) rfl (o.ext0 e7) ((Own.new bF_sized k7).arr bF_sized) (by simp only [List.length_singleton]; omega) fun s8 h9 o9 e9 hor _ => ?_
    refine ⟨by decide, m / 128, by omega, m / 128, _, shr7 m, by omega, rfl, ?_, ?_, o9, keyE (x := 0) (b6 := b6) (s8 := s8) e7 e9 e7.size, keyF e7.size hor⟩
    · rw [hl, varint_big hge']; simp
    · simp; rw [varint_big hge'] at hlen'; simp at hlen'; omega
  · have hlt' : m < 128 := by omega
    refine New.mk fun b6 h7 hb hs7 e7 k7 => ?_
    rw [bF_one _ _ lo_byte] at k7
    refine AppC.own bF_sized (by decide) rfl (o.ext0 e7) ((Own.new bF_sized k7).arr bF_sized) (by simp only [List.length_singleton]; omega) fun s8 h9 o9 e9 hor _ => ?_
    rw [← varint_small hlt', ← hl] at o9
    exact k _ _ o9 (keyE (x := 0) (b6 := b6) (s8 := s8) e7 e9 e7.size) (keyF e7.size hor)

end Go.V.Ytclffphegfhocaa
