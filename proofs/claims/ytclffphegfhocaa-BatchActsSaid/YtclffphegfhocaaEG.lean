/- This text proves a part of the laws of seat Ytclffphegfhocaa, under no condition: B3b B3c B3d B3e B3f B3g B3p. -/
import Derived.Test.YtclffphegfhocaaEC
import Derived.Test.YtclffphegfhocaaEF
import Derived.Test.YtclffphegfhocaaEE
set_option linter.unusedVariables false
set_option linter.unusedSimpArgs false
/-! The bytes of a record, the check, the small functions of the batch. -/
namespace Go.V.Ytclffphegfhocaa
open Go Go.V

/-- A record. -/
structure Rec where
  fam : Int
  kind : Int
  key : ByteArray
  val : ByteArray

def Rec.lfs (r : Rec) : List Lf := [.int .u32 r.fam, .int .i64 r.kind, .str r.key, .str r.val]
structure Rec.Ok (r : Rec) : Prop where
  f0 : 0 ≤ r.fam
  f1 : r.fam ≤ 4294967295
  k0 : -9223372036854775808 ≤ r.kind
  k1 : r.kind ≤ 9223372036854775807

def empty : ByteArray := ByteArray.mk #[]

def checkE (r : Rec) : Int :=
  if r.kind = 0 then (if r.key.size > 1024 then 2 else 0)
  else if r.kind = 1 then (if r.key.size > 1024 then 2 else if r.val.size > 16384 then 2 else 0)
  else if r.kind = 2 then (if r.key.size > 1024 then 2 else if r.val.size > 1024 then 2 else 0)
  else 1

def plainR (r : Rec) : Rec := if r.kind = 0 then { r with val := empty } else r

theorem plainR_ok {r : Rec} (h : r.Ok) : (plainR r).Ok := by unfold plainR; split <;> exact ⟨h.f0, h.f1, h.k0, h.k1⟩

theorem lfs_sized : Sized 4 Rec.lfs := fun _ => rfl
def iF (n : Int) : List Lf := [.int .i64 n]
theorem iF_sized : Sized 1 iF := fun _ => rfl

/-- A number's bytes, seven bits each. -/
def varint (n : Nat) : List UInt8 := if h : n < 128 then [UInt8.ofNat n] else UInt8.ofNat (n % 128 + 128) :: varint (n / 128)
  termination_by n
  decreasing_by omega

theorem varint_small {n : Nat} (h : n < 128) : varint n = [UInt8.ofNat n] := by rw [varint, dif_pos h]
theorem varint_big {n : Nat} (h : ¬ n < 128) : varint n = UInt8.ofNat (n % 128 + 128) :: varint (n / 128) := by rw [varint, dif_neg h]

theorem varint_len : ∀ (k n : Nat), n < 128 ^ (k + 1) → (varint n).length ≤ k + 1
  | 0, n, h => by rw [varint_small (by simpa using h)]; simp
  | k + 1, n, h => by
    by_cases hn : n < 128
    · rw [varint_small hn]; simp
    · rw [varint_big hn]
      have := varint_len k (n / 128) (by rw [Nat.div_lt_iff_lt_mul (by decide)]; rw [Nat.pow_succ] at h; exact h)
      simpa using this

theorem varint_len10 {n : Nat} (h : n < 1180591620717411303424) : (varint n).length ≤ 10 := varint_len 9 n (by simpa using h)

def encR (r : Rec) : List UInt8 :=
  UInt8.ofNat (r.kind % 256).toNat :: (varint r.fam.toNat ++ (varint r.key.size ++ r.key.data.toList) ++ (if r.kind = 0 then [] else varint r.val.size ++ r.val.data.toList))

theorem or128 : ∀ x : Fin 256, bitop .u8 .or (x.val : Int) 128 = (((x.val % 128 + 128 : Nat)) : Int) := by decide +kernel

theorem or_byte (n : Nat) : bitop .u8 .or (IntKind.wrap .u8 (n : Int)) 128 = ((UInt8.ofNat (n % 128 + 128)).toNat : Int) := by
  rw [wu8_nat]
  have := or128 ⟨n % 256, Nat.mod_lt _ (by decide)⟩
  simp only at this
  rw [this]
  simp
  omega

theorem shr7 (n : Nat) : shiftR .u64 (n : Int) 7 = ((n / 128 : Nat) : Int) := by
  show Int.fdiv (n : Int) (2 ^ (min (7 : Int).toNat 64)) = _
  rw [show ((2 : Int) ^ (min (7 : Int).toNat 64)) = ((128 : Nat) : Int) by decide]
  rw [Int.fdiv_eq_ediv_of_nonneg _ (by omega)]
  omega

theorem and127 {n : Nat} (h : n < 18446744073709551616) : bitop .u64 .and (n : Int) 127 = ((n % 128 : Nat) : Int) := by
  have h1 : (BitVec.ofInt 64 (n : Int) &&& BitVec.ofInt 64 127).toNat = n % 128 := by
    rw [BitVec.toNat_and]
    have e1 : (BitVec.ofInt 64 (n : Int)).toNat = n := by
      rw [BitVec.toNat_ofInt]; omega
    have e2 : (BitVec.ofInt 64 127).toNat = 2 ^ 7 - 1 := by decide
    rw [e1, e2, Nat.and_two_pow_sub_one_eq_mod]
  show IntKind.wrap .u64 (((BitVec.ofInt 64 (n : Int) &&& BitVec.ofInt 64 127).toNat : Nat) : Int) = _
  rw [h1]
  exact wu64 (by omega) (by omega)


/-! ### The small ones -/
theorem c19 {r : Rec} {h : Heap} {R : Int → Heap → Prop} (k : ∀ h', Ext0 h h' → R (checkE r) h') :
    Call Go.Proofs.Try.prog 19 [.agg r.lfs] h [.one (.int .i64)] R := by
  refine ok19 (New.mk fun b h1 _ _ e1 _ => ⟨fun x h' => h' = h1 ∧ (r.kind = 0 ∧ x = r.val.size ∨ r.kind = 1 ∧ x = 16384 ∨ r.kind = 2 ∧ x = 1024), ?_, ?_⟩)
  · refine Br.eq (fun h0 => ⟨rfl, .inl ⟨h0, rfl⟩⟩) fun h0 => Br.eq (fun h1 => ⟨rfl, .inr (.inl ⟨h1, rfl⟩)⟩) fun h1 => Br.eq (fun h2 => ⟨rfl, .inr (.inr ⟨h2, rfl⟩)⟩) fun h2 => ?_
    have := k _ e1
    rwa [checkE, if_neg h0, if_neg h1, if_neg h2] at this
  · rintro x _ ⟨rfl, hx⟩
    have := k _ e1
    unfold checkE at this
    rcases hx with ⟨h0, rfl⟩ | ⟨h0, rfl⟩ | ⟨h0, rfl⟩ <;> simp only [h0] at this <;> refine Br.dec (fun hk => ?_) fun hk => Br.dec (fun hv => ?_) fun hv => ?_ <;>
      first
      | (exfalso; omega)
      | (simp (disch := omega) only [if_pos, if_neg] at this; exact this)
      | skip
    all_goals (have hk' : ¬ (r.key.size > 1024) ∨ r.key.size > 1024 := by omega)
    all_goals simp_all
    all_goals (first | (rw [if_pos (by omega)] at this; exact this) | (rw [if_neg (by omega)] at this; exact this) | (rw [if_neg (by omega), if_neg (by omega)] at this; exact this) | (rw [if_neg (by omega), if_pos (by omega)] at this; exact this))

theorem c54 {r : Rec} {h : Heap} {R : Int → Int → ByteArray → ByteArray → Heap → Prop}
    (k : ∀ h', Ext0 h h' → R (plainR r).fam (plainR r).kind (plainR r).key (plainR r).val h') :
    Call Go.Proofs.Try.prog 54 [.agg r.lfs] h [.agg [.int .u32, .int .i64, .str, .str]] R := by
  refine ok54 (New.mk fun b h1 hb hs1 e1 _ => New.mk fun c h3 hc hs3 e3 _ => ?_)
  unfold plainR at k
  refine Br.eq (fun h0 => ?_) fun h0 => ?_
  · refine Set.mk fun h4 _ e4 _ => Set.mk fun h5 _ e5 _ => ?_
    simp only [h0, if_true] at k
    have e : Ext0 h h5 := ((e1.trans e3).trans' e4 fun i hi hx => by omega).trans' e5 fun i hi hx => by omega
    have := k _ e
    rwa [← h0] at this
  · refine Set.mk fun h4 _ e4 _ => ?_
    simp only [h0, if_false] at k
    exact k _ ((e1.trans e3).trans' e4 fun i hi hx => by omega)

theorem bF_one (n : Int) (x : UInt8) (h : n = (x.toNat : Int)) : [Lf.int .u8 n] = [x].flatMap bF := by simp [bF, h]

/-- The bytes of a number. -/
theorem c55 {n : Nat} (hn : n < 18446744073709551616) {h : Heap} {R : Slc → Heap → Prop}
    (k : ∀ s h', Own 1 bF h' s (varint n) → Ext0 h h' → (∀ b off, s.a = some (b, off) → h.size ≤ b) → R s h') :
    Call Go.Proofs.Try.prog 55 [.lf (.int .u64 n)] h [.one .slc] R := by
  refine ok55 ⟨fun i s h' d => ∃ (m : Nat) (l : List UInt8), i = m ∧ m < 18446744073709551616 ∧ m = d ∧ varint n = l ++ varint m ∧ l.length ≤ 10 ∧ Own 1 bF h' s l ∧ Ext0 h h' ∧ (∀ b off, s.a = some (b, off) → h.size ≤ b), ⟨n, n, [], rfl, hn, rfl, rfl, by simp, Own.nil _ _ _, Ext.refl _ _, fun b off e => by cases e⟩, ?_⟩
  rintro _ s h4 _ ⟨m, l, rfl, hm, rfl, hl, hlen, o, e, hf⟩
  have hlen' : l.length + (varint m).length ≤ 10 := by
    have := varint_len10 (n := n) (by omega)
    rw [hl] at this; simpa using this
  have hpos : 0 < (varint m).length := by rw [varint]; split <;> simp
  have keyE : ∀ {x : UInt8} {b6 : Nat} {h7 h9 : Heap} {s8 : Slc}, Ext0 h4 h7 → Ext (fun b => ∃ off, s.a = some (b, off)) h7 h9 → h4.size ≤ h7.size → Ext0 h h9 := by
    intro x b6 h7 h9 s8 e7 e9 hs7
    exact (e.trans e7).trans' e9 fun i hi ⟨off, hx⟩ => absurd (hf _ _ hx) (by omega)
  have keyF : ∀ {h7 : Heap} {s8 : Slc}, h4.size ≤ h7.size → (s8.a = s.a ∨ ∃ b, s8.a = some (b, 0) ∧ h7.size ≤ b) → ∀ b off, s8.a = some (b, off) → h.size ≤ b := by
    intro h7 s8 hs7 hor b off hb
    rcases hor with h1 | ⟨b', h1, h2⟩
    · exact hf b off (h1 ▸ hb)
    · rw [h1] at hb; cases hb; have := e.size; omega
  refine Br.dec (fun hge => ?_) fun hlt => ?_
  · have hge' : ¬ m < 128 := by omega
    refine New.mk fun b6 h7 hb hs7 e7 k7 => ?_
    rw [bF_one _ _ (or_byte m)] at k7
    refine AppC.own bF_sized (by decide) rfl (o.ext0 e7) ((Own.new bF_sized k7).arr bF_sized) (by simp only [List.length_singleton]; omega) fun s8 h9 o9 e9 hor _ => ?_
    refine ⟨by decide, m / 128, by omega, m / 128, _, shr7 m, by omega, rfl, ?_, ?_, o9, keyE (x := 0) (b6 := b6) (s8 := s8) e7 e9 e7.size, keyF e7.size hor⟩
    · rw [hl, varint_big hge']; simp
    · simp; rw [varint_big hge'] at hlen'; simp at hlen'; omega
  · have hlt' : m < 128 := by omega
    refine New.mk fun b6 h7 hb hs7 e7 k7 => ?_
    rw [bF_one _ _ lo_byte] at k7
    refine AppC.own bF_sized (by decide) rfl (o.ext0 e7) ((Own.new bF_sized k7).arr bF_sized) (by simp only [List.length_singleton]; omega) fun s8 h9 o9 e9 hor _ => ?_
    rw [← varint_small hlt', ← hl] at o9
    exact k _ _ o9 (keyE (x := 0) (b6 := b6) (s8 := s8) e7 e9 e7.size) (keyF e7.size hor)

end Go.V.Ytclffphegfhocaa
set_option linter.unusedVariables false
set_option linter.unusedSimpArgs false
/-! The bytes of a record and of numbers of a fixed width. -/
namespace Go.V.Ytclffphegfhocaa
open Go Go.V

theorem strnews (s : ByteArray) : (s.data.toList.map fun (c : UInt8) => Value.int IntKind.u8 (c.toNat : Int)) = (s.data.toList.flatMap bF).map Lf.val := by
  generalize s.data.toList = l
  induction l with
  | nil => rfl
  | cons x l ih => rw [List.map_cons, ih]; rfl

theorem bsize (s : ByteArray) : s.data.toList.length = s.size := rfl

/-- A text and its length behind bytes. -/
theorem c56 {s : Slc} {t : ByteArray} {l : List UInt8} {h : Heap} (o : Own 1 bF h s l) (hb : l.length + t.size ≤ 1099511627776) {R : Slc → Heap → Prop}
    (k : ∀ s' h', Own 1 bF h' s' (l ++ (varint t.size ++ t.data.toList)) → Grow s h s' h' → R s' h') :
    Call Go.Proofs.Try.prog 56 [.lf (.slc s), .lf (.str t)] h [.one .slc] R := by
  refine ok56 ?_
  unfold vc56
  rw [wu64 (by omega) (by omega)]
  have hv := varint_len10 (n := t.size) (by omega)
  refine c55 (by omega) fun s1 h1 o1 e1 f1 => AppC.grow bF_sized (by decide) rfl (o.ext0 e1) (o1.arr bF_sized) (by omega) fun s2 h2 o2 g2 => ?_
  refine AppV.grow bF_sized (by decide) rfl o2 (m := t.data.toList) (by rw [bsize, List.length_append]; omega) (bsize t).symm (strnews t) fun s3 h3 o3 g3 => ?_
  exact k _ _ (by simpa using o3) ((g2.pre e1).trans g3)

theorem kbyte (k : Int) : IntKind.wrap .u8 k = ((UInt8.ofNat (k % 256).toNat).toNat : Int) := by
  simp [IntKind.wrap, IntKind.bits, IntKind.signed]; omega

/-- A record's bytes. -/
theorem c30 {r : Rec} (hr : r.Ok) (h1 : r.key.size ≤ 1099511627000) (h2 : r.kind ≠ 0 → r.val.size + r.key.size ≤ 1099511627000) {h : Heap} {R : Slc → Heap → Prop}
    (k : ∀ s' h', Own 1 bF h' s' (encR r) → Fresh h h' s' → R s' h') :
    Call Go.Proofs.Try.prog 30 [.agg r.lfs] h [.one .slc] R := by
  obtain ⟨fam, kind, key, val⟩ := r
  obtain ⟨f0, f1, k0, k1⟩ := hr
  simp only at h1 h2 f0 f1 k0 k1
  obtain ⟨n, rfl⟩ := Int.eq_ofNat_of_zero_le f0
  have hl1 := varint_len10 (n := n) (by omega)
  have hl2 := varint_len10 (n := key.size) (by omega)
  have hn : (n : Int) ≤ 18446744073709551615 := by omega
  refine ok30 (New.mk fun b0 g1 hb0 hs1 e1 kb0 => ⟨fun s g => Own 1 bF g s (UInt8.ofNat (kind % 256).toNat :: varint n) ∧ Fresh h g s ∧ Ext0 g1 g ∧ (∀ off, s.a ≠ some (b0, off)), ⟨?_, ?_⟩, ?_⟩)
  · refine New.mk fun b3 g4 hb3 hs4 e4 kb3 => ?_
    rw [wu64 f0 hn]
    rw [bF_one _ _ (kbyte kind)] at kb3
    have o3 := Own.new bF_sized kb3
    refine c55 (by omega) fun s5 g6 o5 e6 f6 => ⟨e6.keep (by omega), ?_⟩
    refine AppC.grow bF_sized (by decide) rfl (o3.ext0 e6) (o5.arr bF_sized) (by simp; omega) fun s7 g8 o7 gr => ⟨gr.keep (by have := e6.size; omega) (by intro off hx; simp at hx; omega), o7, ?_, ?_, ?_⟩
    · exact Fresh.grow ⟨(e1.trans e4).trans e6, fun b off hx => by simp at hx; omega⟩ gr
    · exact (e4.trans e6).trans' gr.ext fun i hi ⟨off, hx⟩ => by simp at hx; omega
    · intro off hx
      rcases gr.new with h3 | ⟨b, h3, h4⟩
      · rw [h3] at hx; simp at hx; omega
      · rw [h3] at hx; simp at hx; have := e6.size; omega
  · rw [wu64 f0 hn]
    refine c55 (by omega) fun s5 g6 o5 e6 f6 => ⟨e6.keep (by omega), ?_⟩
    refine New.mk fun b3 g4 hb3 hs4 e4 kb3 => ?_
    rw [bF_one _ _ (kbyte kind)] at kb3
    have o3 := Own.new bF_sized kb3
    have := e6.size
    refine AppC.grow bF_sized (by decide) rfl o3 ((o5.ext0 e4).arr bF_sized) (by simp; omega) fun s7 g8 o7 gr => ⟨gr.keep (by omega) (by intro off hx; simp at hx; omega), o7, ?_, ?_, ?_⟩
    · exact Fresh.grow ⟨(e1.trans e6).trans e4, fun b off hx => by simp at hx; omega⟩ gr
    · exact (e6.trans e4).trans' gr.ext fun i hi ⟨off, hx⟩ => by simp at hx; omega
    · intro off hx
      rcases gr.new with h3 | ⟨b, h3, h4⟩
      · rw [h3] at hx; simp at hx; omega
      · rw [h3] at hx; simp at hx; omega
  · rintro s g ⟨o, fr, e, hnb⟩
    have := e.size
    refine c56 o (by simp; omega) fun s' g' o' gr => ⟨gr.keep (by omega) (fun off => hnb off), ?_⟩
    have hnb' : ∀ off, s'.a ≠ some (b0, off) := fun off hx => by
      rcases gr.new with h3 | ⟨b, h3, h4⟩
      · exact hnb off (h3 ▸ hx)
      · rw [h3] at hx; simp at hx; omega
    have := gr.ext.size
    refine Br.ne (fun h0 => ?_) fun h0 => ?_
    · have := h2 h0
      refine c56 o' (by simp only [List.length_append, List.length_cons, bsize]; omega) fun s'' g'' o'' gr' => ⟨gr'.keep (by omega) (fun off => hnb' off), k _ _ ?_ ((fr.grow gr).grow gr')⟩
      simpa [encR, h0] using o''
    · subst h0
      refine k _ _ ?_ (fr.grow gr)
      simpa [encR] using o'

/-- The bytes of a number, by the document. -/
theorem c28 {n : Nat} (hn : n < 18446744073709551616) {h : Heap} {R : Slc → Heap → Prop}
    (k : ∀ s h', Own 1 bF h' s (varint n) → Fresh h h' s → R s h') :
    Call Go.Proofs.Try.prog 28 [.lf (.int .u64 n)] h [.one .slc] R := by
  refine ok28 (New.mk fun b0 g1 hb0 hs1 e1 kb0 => ?_)
  have o0 : Own 1 bF g1 ⟨some (b0, 0), 0, 0⟩ ([] : List UInt8) := Own.new (l := ([] : List UInt8)) bF_sized kb0
  refine ⟨fun i s h' d => ∃ (m : Nat) (l : List UInt8), i = m ∧ m < 18446744073709551616 ∧ m = d ∧ varint n = l ++ varint m ∧ Own 1 bF h' s l ∧ Fresh h h' s, ⟨n, n, [], rfl, hn, rfl, rfl, o0, ⟨e1, fun b off hx => by simp at hx; omega⟩⟩, ?_⟩
  rintro _ s h4 _ ⟨m, l, rfl, hm, rfl, hl, o, fr⟩
  have hlen' : l.length + (varint m).length ≤ 10 := by
    have := varint_len10 (n := n) (by omega)
    rw [hl] at this; simpa using this
  have hpos : 0 < (varint m).length := by rw [varint]; split <;> simp
  refine Br.dec (fun hge => ?_) fun hlt => ?_
  · have hge' : ¬ m < 128 := by omega
    refine New.mk fun b6 h7 hb hs7 e7 k7 => ?_
    rw [and127 hm] at k7
    have h3 : ((m % 128 : Nat) : Int) = ((m % 128 : Nat) : Int) := rfl
    rw [bF_one _ _ (or_byte (m % 128)), Nat.mod_mod] at k7
    refine AppC.grow bF_sized (by decide) rfl (o.ext0 e7) ((Own.new bF_sized k7).arr bF_sized) (by simp only [List.length_singleton]; omega) fun s8 h9 o9 g9 => ?_
    refine ⟨by decide, m / 128, by omega, m / 128, _, shr7 m, by omega, rfl, ?_, o9, (fr.ext0 e7).grow g9⟩
    rw [hl, varint_big hge']; simp
  · have hlt' : m < 128 := by omega
    refine New.mk fun b6 h7 hb hs7 e7 k7 => ?_
    rw [bF_one _ _ lo_byte] at k7
    refine AppC.grow bF_sized (by decide) rfl (o.ext0 e7) ((Own.new bF_sized k7).arr bF_sized) (by simp only [List.length_singleton]; omega) fun s8 h9 o9 g9 => ?_
    rw [← varint_small hlt', ← hl] at o9
    exact k _ _ o9 ((fr.ext0 e7).grow g9)

/-- How many bytes a record takes, by the document. -/
theorem c11 {r : Rec} (hr : r.Ok) (h1 : r.key.size ≤ 1099511627000) (h2 : r.kind ≠ 0 → r.val.size + r.key.size ≤ 1099511627000) (h3 : r.val.size ≤ 9223372036854775807) {h : Heap} {R : Int → Heap → Prop}
    (k : ∀ h', Ext0 h h' → R ((encR r).length : Int) h') :
    Call Go.Proofs.Try.prog 11 [.agg r.lfs] h [.one (.int .i64)] R := by
  obtain ⟨fam, kind, key, val⟩ := r
  obtain ⟨f0, f1, k0, k1⟩ := hr
  simp only at h1 h2 h3 f0 f1 k0 k1
  obtain ⟨n, rfl⟩ := Int.eq_ofNat_of_zero_le f0
  have hl1 := varint_len10 (n := n) (by omega)
  have hl2 := varint_len10 (n := key.size) (by omega)
  have hl3 := varint_len10 (n := val.size) (by omega)
  have hn : (n : Int) ≤ 18446744073709551615 := by omega
  have klen : (encR ⟨n, kind, key, val⟩).length = 1 + (varint n).length + ((varint key.size).length + key.size) + if kind = 0 then 0 else (varint val.size).length + val.size := by
    unfold encR
    split <;> simp [bsize] <;> omega
  rw [klen] at k
  refine ok11 (a0 := n) (a1 := kind) (a2 := key) (a3 := val) (New.mk fun b0 g1 hb0 hs1 e1 kb0 => ?_)
  rw [wu64 f0 hn, wu64 (n := (key.size : Int)) (by omega) (by omega)]
  refine c28 (by omega) fun s2 g3 o2 fr2 => ⟨fr2.ext.keep (by omega), c28 (by omega) fun s4 g5 o4 fr4 => ⟨fr4.ext.keep (by have := fr2.ext.size; omega), ?_⟩⟩
  have hs2 := o2.len
  have hs4 := o4.len
  refine Br.ne (fun h0 => ?_) fun h0 => ?_
  · rw [if_neg h0] at k
    have := h2 h0
    rw [wu64 (n := (val.size : Int)) (by omega) (by omega)]
    refine c28 (by omega) fun s6 g7 o6 fr6 => ⟨fr6.ext.keep (by have := fr2.ext.size; have := fr4.ext.size; omega), ?_⟩
    have hs6 := o6.len
    rw [hs2, hs4, hs6, wi64 (n := 1 + _) (by omega) (by omega), wi64 (n := 1 + _ + _) (by omega) (by omega), wi64 (n := 1 + _ + _ + _) (by omega) (by omega), wi64 (n := 1 + _ + _ + _ + _) (by omega) (by omega), wi64 (by omega) (by omega)]
    have := k _ (((e1.trans fr2.ext).trans fr4.ext).trans fr6.ext)
    refine cast ?_ this
    congr 1
    omega
  · rw [if_pos h0] at k
    rw [hs2, hs4, wi64 (n := 1 + _) (by omega) (by omega), wi64 (n := 1 + _ + _) (by omega) (by omega), wi64 (by omega) (by omega)]
    have := k _ ((e1.trans fr2.ext).trans fr4.ext)
    refine cast ?_ this
    congr 1
    omega

/-- A copy of records. -/
theorem c27 {s : Slc} {l : List Rec} {h : Heap} (a : Arr 4 Rec.lfs h s l) (hl : l.length ≤ 2932031007402) {R : Slc → Heap → Prop}
    (k : ∀ s' h', Own 4 Rec.lfs h' s' l → Fresh h h' s' → R s' h') :
    Call Go.Proofs.Try.prog 27 [.lf (.slc s)] h [.one .slc] R := by
  refine ok27 (Br.mk (fun hn => ?_) fun hn => New.mk fun b0 g1 hb0 hs1 e1 kb0 => ?_)
  · have : l = [] := Classical.byContradiction fun hne => by
      obtain ⟨b, off, hb⟩ := a.ne hne
      rw [hb] at hn; cases hn
    subst this
    exact k _ _ (Own.nil _ _ _) (Fresh.nil 0)
  · have o0 : Own 4 Rec.lfs g1 ⟨some (b0, 0), 0, 0⟩ ([] : List Rec) := Own.new (l := ([] : List Rec)) lfs_sized kb0
    refine AppC.grow lfs_sized (by decide) rfl o0 (a.ext0 e1) (by simp; omega) fun s8 h9 o9 g9 => ?_
    exact k _ _ (by simpa using o9) (Fresh.grow ⟨e1, fun b off hx => by simp at hx; omega⟩ g9)

end Go.V.Ytclffphegfhocaa
set_option linter.unusedVariables false
set_option linter.unusedSimpArgs false
/-! The batch. -/
namespace Go.V.Ytclffphegfhocaa
open Go Go.V

/-- A batch. -/
structure Bt where
  recs : List Rec
  size : Int
  marks : List Int

/-- A batch in memory, its parts; F is where it lies. -/
structure BatC (h : Heap) (g : Nat) (F : Nat → Prop) (x : Bt) (sl sm : Slc) : Prop where
  blk : Blk h g 26 [.slc sl, .int .i64 x.size, .slc sm]
  recs : Own 4 Rec.lfs h sl x.recs
  marks : Own 1 iF h sm x.marks
  gin : F g
  lt : ∀ b, F b → b < h.size
  hl : ∀ b off, sl.a = some (b, off) → F b ∧ b ≠ g
  hm : ∀ b off, sm.a = some (b, off) → F b ∧ b ≠ g ∧ ∀ off', sl.a ≠ some (b, off')
def Bat (h : Heap) (g : Nat) (F : Nat → Prop) (x : Bt) : Prop := ∃ sl sm, BatC h g F x sl sm

theorem BatC.ext {h h' : Heap} {g : Nat} {F S : Nat → Prop} {x : Bt} {sl sm : Slc} (B : BatC h g F x sl sm) (e : Ext S h h') (hs : ∀ b, F b → ¬ S b) : BatC h' g F x sl sm :=
  ⟨B.blk.ext e (hs _ B.gin), B.recs.ext e fun ⟨b, off, hb, hS⟩ => hs b (B.hl b off hb).1 hS, B.marks.ext e fun ⟨b, off, hb, hS⟩ => hs b (B.hm b off hb).1 hS, B.gin, fun b hb => Nat.lt_of_lt_of_le (B.lt b hb) e.size, B.hl, B.hm⟩
theorem BatC.ext0 {h h' : Heap} {g : Nat} {F : Nat → Prop} {x : Bt} {sl sm : Slc} (B : BatC h g F x sl sm) (e : Ext0 h h') : BatC h' g F x sl sm := B.ext e fun _ _ k => k
theorem Bat.ext {h h' : Heap} {g : Nat} {F S : Nat → Prop} {x : Bt} (B : Bat h g F x) (e : Ext S h h') (hs : ∀ b, F b → ¬ S b) : Bat h' g F x := let ⟨sl, sm, C⟩ := B; ⟨sl, sm, C.ext e hs⟩
theorem Bat.ext0 {h h' : Heap} {g : Nat} {F : Nat → Prop} {x : Bt} (B : Bat h g F x) (e : Ext0 h h') : Bat h' g F x := B.ext e fun _ _ k => k
theorem Bat.lt {h : Heap} {g : Nat} {F : Nat → Prop} {x : Bt} (B : Bat h g F x) : ∀ b, F b → b < h.size := let ⟨sl, sm, C⟩ := B; C.lt
theorem Bat.g {h : Heap} {g : Nat} {F : Nat → Prop} {x : Bt} (B : Bat h g F x) : F g := let ⟨sl, sm, C⟩ := B; C.gin

/-- A new batch. -/
theorem Bat.new {h : Heap} {b : Nat} (k : Blk h b 26 [.slc ⟨none, 0, 0⟩, .int .i64 0, .slc ⟨none, 0, 0⟩]) : Bat h b (fun x => x = b) ⟨[], 0, []⟩ :=
  ⟨_, _, k, Own.nil _ _ _, Own.nil _ _ _, rfl, fun x hx => hx ▸ k.lt, fun b off e => absurd e (by simp), fun b off e => absurd e (by simp)⟩

/-- Of a batch the records are put anew. -/
theorem BatC.setRecs {h h2 h3 : Heap} {g : Nat} {F : Nat → Prop} {x : Bt} {sl sm s' : Slc} {l' : List Rec} {n : Int} (B : BatC h g F x sl sm) (gr : Grow sl h s' h2) (o : Own 4 Rec.lfs h2 s' l')
    (k : Blk h2 g 26 [.slc sl, .int .i64 x.size, .slc sm] → Blk h3 g 26 [.slc s', .int .i64 n, .slc sm]) (e : Ext (fun i => i = g) h2 h3) :
    ∃ F', Bat h3 g F' ⟨l', n, x.marks⟩ ∧ Ext F h h3 ∧ Sub F F' h := by
  have hg := B.blk.lt
  have hnew : ∀ b off, s'.a = some (b, off) → b ≠ g ∧ ∀ off', sm.a ≠ some (b, off') := fun b off hb => by
    rcases gr.new with h1 | ⟨b', h1, h4⟩
    · exact ⟨(B.hl b off (h1 ▸ hb)).2, fun off' hx => (B.hm b off' hx).2.2 off (h1 ▸ hb)⟩
    · rw [h1] at hb; cases hb
      exact ⟨by omega, fun off' hx => by have := B.lt b (B.hm b off' hx).1; omega⟩
  refine ⟨fun b => F b ∨ ∃ off, s'.a = some (b, off), ⟨s', sm, k (B.blk.ext gr.ext fun ⟨off, hx⟩ => (B.hl _ _ hx).2 rfl), o.ext e fun ⟨b, off, hb, hx⟩ => (hnew b off hb).1 hx, (B.marks.ext gr.ext fun ⟨b, off, hb, off', hx⟩ => (B.hm b off hb).2.2 off' hx).ext e fun ⟨b, off, hb, hx⟩ => (B.hm b off hb).2.1 hx, .inl B.gin, ?_, fun b off hb => ⟨.inr ⟨off, hb⟩, (hnew b off hb).1⟩, fun b off hb => ⟨.inl (B.hm b off hb).1, (B.hm b off hb).2.1, fun off' hx => (hnew b off' hx).2 off hb⟩⟩, ?_, ?_⟩
  · rintro b (hb | ⟨off, hb⟩)
    · exact Nat.lt_of_lt_of_le (B.lt b hb) (Nat.le_trans gr.ext.size e.size)
    · exact Nat.lt_of_lt_of_le (o.lt b off hb).1 e.size
  · exact (gr.ext.mono fun i ⟨off, hx⟩ => (B.hl i off hx).1).trans (e.mono fun i hx => hx ▸ B.gin)
  · rintro b (hb | ⟨off, hb⟩)
    · exact .inl hb
    · rcases gr.new with h1 | ⟨b', h1, h4⟩
      · exact .inl (B.hl b off (h1 ▸ hb)).1
      · rw [h1] at hb; cases hb; exact .inr h4

def bad : List Rec → Int
  | [] => 0
  | r :: l => if checkE r ≠ 0 then checkE r else bad l
def tot : List Rec → Int
  | [] => 0
  | r :: l => (encR r).length + tot l
def m12 (n : Int) : Int := if (12 : Int) > n then 12 else n
def allB (x : Bt) (l : List Rec) : Int × Bt :=
  if bad l ≠ 0 then (bad l, x)
  else if (x.recs.length : Int) + l.length > 4096 ∨ m12 x.size + tot l > 4194304 then (2, x)
  else (0, ⟨x.recs ++ l.map plainR, m12 x.size + tot l, x.marks⟩)

theorem tot_nonneg : ∀ l, 0 ≤ tot l
  | [] => Int.le_refl _
  | r :: l => by have := tot_nonneg l; simp only [tot]; omega
theorem tot_append : ∀ l m, tot (l ++ m) = tot l + tot m
  | [], m => by simp [tot]
  | r :: l, m => by simp only [List.cons_append, tot, tot_append l m]; omega

theorem check_size {r : Rec} (h : checkE r = 0) : r.key.size ≤ 1024 ∧ (r.kind ≠ 0 → r.val.size ≤ 16384) := by
  unfold checkE at h
  split at h
  · rename_i h0; split at h
    · cases h
    · exact ⟨by omega, fun x => absurd h0 x⟩
  · split at h
    · split at h
      · cases h
      · split at h
        · cases h
        · exact ⟨by omega, fun _ => by omega⟩
    · split at h
      · split at h
        · cases h
        · split at h
          · cases h
          · exact ⟨by omega, fun _ => by omega⟩
      · cases h

theorem enc_le {r : Rec} (hr : r.Ok) (h : checkE r = 0) : (encR r).length ≤ 20000 := by
  obtain ⟨h1, h2⟩ := check_size h
  have := hr.f0; have := hr.f1
  have hl1 := varint_len10 (n := r.fam.toNat) (by omega)
  have hl2 := varint_len10 (n := r.key.size) (by omega)
  unfold encR
  split
  · simp [bsize] at *; omega
  · rename_i h0
    have := h2 h0
    have hl3 := varint_len10 (n := r.val.size) (by omega)
    simp only [List.length_cons, List.length_append, bsize]; omega

theorem tot_le : ∀ {l : List Rec}, (∀ r ∈ l, r.Ok) → bad l = 0 → tot l ≤ 20000 * (l.length : Int)
  | [], _, _ => by simp [tot]
  | r :: l, h, hb => by
    simp only [bad] at hb
    split at hb
    · rename_i hne; exact absurd hb hne
    · rename_i he
      have := tot_le (fun x hx => h x (List.mem_cons_of_mem _ hx)) hb
      have := enc_le (h r (List.mem_cons_self ..)) (by simpa using he)
      simp only [tot, List.length_cons]; omega

theorem drop_cons {α : Type} {l : List α} {n : Nat} (h : n < l.length) : l.drop n = l[n] :: l.drop (n + 1) := List.drop_eq_getElem_cons h
theorem take_succ' {α : Type} {l : List α} {n : Nat} (h : n < l.length) : l.take (n + 1) = l.take n ++ [l[n]] := by rw [List.take_succ_eq_append_getElem h]

theorem bad_take : ∀ {l : List Rec} {n : Nat}, bad l = bad (l.drop n) → bad (l.take n) = 0 ∨ bad l ≠ 0
  | [], _, _ => by simp [bad]
  | r :: l, 0, _ => by simp [bad]
  | r :: l, n + 1, h => by
    simp only [List.take_succ_cons, bad, List.drop_succ_cons] at *
    by_cases hr : checkE r = 0
    · simp [hr] at *; exact bad_take h
    · simp [hr] at *

/-- The loop over the elements ahead: none of them is bad. -/
theorem bad_step {l : List Rec} {n : Nat} (hn : n < l.length) (hp : bad (l.take n) = 0) (hc : checkE l[n] = 0) : bad (l.take (n + 1)) = 0 := by
  induction l generalizing n with
  | nil => simp at hn
  | cons r l ih =>
    cases n with
    | zero => simp [bad] at *; exact fun x => absurd hc x
    | succ n =>
      simp only [List.take_succ_cons, bad] at *
      split at hp
      · rename_i hne; exact absurd hp hne
      · rename_i he; rw [if_neg he]; exact ih (by simpa using hn) hp (by simpa using hc)
theorem bad_at {l : List Rec} {n : Nat} (hn : n < l.length) (hp : bad (l.take n) = 0) (hc : checkE l[n] ≠ 0) : bad l = checkE l[n] := by
  induction l generalizing n with
  | nil => simp at hn
  | cons r l ih =>
    cases n with
    | zero => simp [bad] at *; exact fun x => absurd x hc
    | succ n =>
      simp only [List.take_succ_cons, bad] at *
      split at hp
      · rename_i hne; exact absurd hp hne
      · rename_i he; rw [if_neg he]; exact ih (by simpa using hn) hp (by simpa using hc)

theorem c26 {h : Heap} {g : Nat} {F : Nat → Prop} {x : Bt} {s : Slc} {l : List Rec} (B : Bat h g F x) (h0 : 0 ≤ x.size) (h1 : x.size ≤ 4194304) (h2 : x.recs.length ≤ 4096)
    (a : Arr 4 Rec.lfs h s l) (hs : ¬ s.inS F) (hl : l.length ≤ 4096) (hok : ∀ r ∈ l, r.Ok) {R : Int → Heap → Prop}
    (k : ∀ h' F', Bat h' g F' (allB x l).2 → Ext F h h' → Sub F F' h → R (allB x l).1 h') :
    Call Go.Proofs.Try.prog 26 [.lf (.ptr (some (g, 0))), .lf (.slc s)] h [.one (.int .i64)] R := by
  have hlen := a.len
  obtain ⟨sl0, sm0, B0⟩ := id B
  have k0 := B0.blk
  have ol0 := B0.recs
  refine ok26 (NilC.mk rfl ⟨x.size, k0.cell rfl, fun i n h' d => ∃ m : Nat, n = m ∧ m ≤ l.length ∧ d = l.length - m ∧ i = m12 x.size + tot (l.take m) ∧ bad (l.take m) = 0 ∧ Ext0 h h', ⟨_, 0, rfl, by omega, rfl, by simp [tot, m12], rfl, Ext.refl _ _⟩, ?_⟩)
  rintro _ _ h7 _ ⟨m, rfl, hm, rfl, rfl, hbad, e⟩
  have hm12 : m12 x.size ≤ 4194304 ∧ 0 ≤ m12 x.size := by unfold m12; split <;> omega
  have htl := tot_le (l := l.take m) (fun r hr => hok r (List.mem_of_mem_take hr)) hbad
  have htn := tot_nonneg (l.take m)
  have hlt : (l.take m).length ≤ 4096 := by simp; omega
  refine Br.dec (fun hi => ?_) fun hi => ?_
  · have hi' : m < l.length := by omega
    have hx : l[m]? = some l[m] := List.getElem?_eq_getElem hi'
    have hmem := hok _ (List.getElem_mem hi')
    refine (a.ext0 e).ix rfl hx fun b off hc => ⟨_, _, _, _, hc, New.mk fun b1 h8 hb1 hs8 e8 _ => Set.mk fun h9 hs9 e9 _ => ?_⟩
    refine c19 fun h10 e10 => ⟨e10.keep (by omega), Br.ne (fun hne => ?_) fun heq => ?_⟩
    · have hb := bad_at hi' hbad hne
      have e' : Ext0 h h10 := (Ext.tmp (e.trans e8) e9 (by have := e.size; omega)).trans e10
      have := k h10 F (by simp only [allB, hb]; rw [if_pos hne]; exact B.ext0 e') e'.of0 fun b hb => .inl hb
      simp only [allB, hb] at this
      rwa [if_pos hne] at this
    · obtain ⟨hk1, hk2⟩ := check_size heq
      refine c30 hmem (by omega) (fun hh => by have := hk2 hh; omega) fun s11 h11 o11 f11 => ⟨f11.ext.keep (by have := e10.size; omega), ?_⟩
      have he := enc_le hmem heq
      have e' : Ext0 h h11 := ((Ext.tmp (e.trans e8) e9 (by have := e.size; omega)).trans e10).trans f11.ext
      rw [o11.len, wi64 (by omega) (by omega), wi64 (by omega) (by omega)]
      refine ⟨_, by omega, m + 1, by omega, by omega, rfl, ?_, bad_step hi' hbad heq, e'⟩
      rw [take_succ' hi', tot_append]; simp [tot]; omega
  · have hml : m = l.length := by omega
    subst hml
    rw [List.take_length] at *
    refine ⟨fun c h' => h' = h7 ∧ c = decide ((x.recs.length : Int) + l.length > 4096 ∨ m12 x.size + tot l > 4194304), ?_, ?_⟩
    · refine NilC.mk rfl ⟨sl0, (k0.ext e).cell rfl, ?_⟩
      rw [ol0.len, hlen, wi64 (by omega) (by omega)]
      refine Br.dec (fun hh => ⟨rfl, by simp; omega⟩) fun hh => ⟨rfl, ?_⟩
      rw [Bool.eq_iff_iff]; simp only [decide_eq_true_eq]; omega
    · rintro c _ ⟨rfl, rfl⟩
      refine Br.dec (fun hh => ?_) fun hh => ?_
      · have := k _ F (by simp only [allB, hbad, ne_eq, not_true, if_false]; rw [if_pos hh]; exact B.ext0 e) e.of0 fun b hb => .inl hb
        simp only [allB, hbad, ne_eq, not_true, if_false] at this
        rwa [if_pos hh] at this
      · simp only [allB, hbad, ne_eq, not_true, if_false, if_neg hh] at k
        refine ⟨fun n h' d => ∃ (m : Nat) (F' : Nat → Prop), n = m ∧ m ≤ l.length ∧ d = l.length - m ∧ Bat h' g F' ⟨x.recs ++ (l.take m).map plainR, x.size, x.marks⟩ ∧ Ext F h h' ∧ Sub F F' h, ⟨_, 0, F, rfl, by omega, rfl, by simpa using B.ext0 e, e.of0, fun b hb => .inl hb⟩, ?_⟩
        rintro _ h32 _ ⟨m, F', rfl, hm, rfl, B', e', hF'⟩
        refine Br.dec (fun hi => ?_) fun hi => ?_
        · have hi' : m < l.length := by omega
          have hx : l[m]? = some l[m] := List.getElem?_eq_getElem hi'
          refine (a.ext e' hs).ix rfl hx fun b off hc => ⟨_, _, _, _, hc, New.mk fun b1 h8 hb1 hs8 e8 _ => Set.mk fun h9 hs9 e9 _ => ?_⟩
          have e9' : Ext0 h32 h9 := Ext.tmp e8 e9 (by omega)
          obtain ⟨sl, sm, C⟩ := B'.ext0 e9'
          refine NilC.mk rfl ⟨sl, C.blk.cell rfl, c54 fun h10 e10 => ⟨e10.keep (by omega), (C.blk.ext e10).cell rfl, New.mk fun b2 h11 hb2 hs11 e11 kb2 => ⟨((C.blk.ext e10).ext e11).cell rfl, ?_⟩⟩⟩
          have hsz := e10.size
          have hrl : (x.recs ++ (l.take m).map plainR).length ≤ 4096 := by simp; omega
          have ea : Ext0 h9 h11 := e10.trans e11
          have C1 := C.ext0 ea
          refine AppC.grow lfs_sized (by decide) rfl C1.recs ((Own.new (l := [plainR l[m]]) lfs_sized kb2).arr lfs_sized) (by simp only [List.length_singleton] ; omega) fun s12 h12 o12 g12 => ?_
          have hszF := B'.lt
          have hb1g : g ≠ b1 := fun he => by have := hszF g B'.g; omega
          refine ⟨g12.keep (by omega) (fun off hx => by have := hszF _ (C1.hl _ _ hx).1; omega), NilC.mk rfl (StC.one (C1.blk.ext g12.ext fun ⟨off, hx⟩ => (C1.hl _ _ hx).2 rfl) (by simp) fun h13 hs13 k13 e13 => ⟨e13.keep (by have := g12.ext.size; omega) (fun he => hb1g he.symm), ?_⟩)⟩
          obtain ⟨F'', B'', e'', s''⟩ := C1.setRecs g12 o12 (fun _ => k13) e13
          rw [wi64 (by omega) (by omega)]
          have e32 : Ext F' h32 h13 := (e9'.trans ea).of0.trans e''
          refine ⟨_, by omega, m + 1, F'', by omega, by omega, rfl, ?_, e'.sub e32 hF', hF'.trans s'' (Nat.le_trans e'.size (e9'.trans ea).size)⟩
          rw [take_succ' hi', List.map_append, ← List.append_assoc]; exact B''
        · have hml : m = l.length := by omega
          subst hml
          rw [List.take_length] at *
          obtain ⟨sl, sm, C⟩ := id B'
          refine NilC.mk rfl (StC.one C.blk (by simp) fun h13 hs13 k13 e13 => ?_)
          obtain ⟨F'', B'', e'', s''⟩ := C.setRecs (s' := sl) ⟨Ext.refl _ _, .inl rfl⟩ C.recs (fun _ => k13) e13
          exact k _ _ B'' (e'.sub e'' hF') (hF'.trans s'' e'.size)

end Go.V.Ytclffphegfhocaa
set_option linter.unusedVariables false
set_option linter.unusedSimpArgs false
/-! The batch's calls. -/
namespace Go.V.Ytclffphegfhocaa
open Go Go.V

theorem enc_plain (r : Rec) : encR (plainR r) = encR r := by
  unfold plainR encR; split <;> simp_all
theorem plain_plain (r : Rec) : plainR (plainR r) = plainR r := by
  unfold plainR; split <;> simp_all
theorem check_plain {r : Rec} (h : checkE r = 0) : checkE (plainR r) = 0 := by
  unfold plainR; split
  · rename_i h0
    obtain ⟨h1, _⟩ := check_size h
    simp [checkE, h0]; omega
  · exact h

structure Bt.Ok (x : Bt) : Prop where
  len : x.recs.length ≤ 4096
  recs : ∀ r ∈ x.recs, r.Ok ∧ checkE r = 0 ∧ plainR r = r
  size : x.size = 0 ∧ x.recs = [] ∨ x.size = 12 + tot x.recs ∧ x.size ≤ 4194304
  marks : ∀ n ∈ x.marks, 0 ≤ n ∧ n ≤ x.recs.length
  sorted : x.marks.Pairwise (· ≤ ·)

theorem Bt.Ok.s0 {x : Bt} (h : x.Ok) : 0 ≤ x.size := by
  have := tot_nonneg x.recs
  rcases h.size with h | h <;> omega
theorem Bt.Ok.s1 {x : Bt} (h : x.Ok) : x.size ≤ 4194304 := by
  rcases h.size with h | h <;> omega
theorem Bt.Ok.m12 {x : Bt} (h : x.Ok) : m12 x.size = 12 + tot x.recs := by
  have := tot_nonneg x.recs
  unfold Ytclffphegfhocaa.m12
  rcases h.size with ⟨h, h'⟩ | h
  · rw [h, h']; rfl
  · split <;> omega
theorem bad_zero : ∀ {l : List Rec}, (∀ r ∈ l, checkE r = 0) → bad l = 0
  | [], _ => rfl
  | r :: l, h => by
    simp only [bad, h r (List.mem_cons_self ..), ne_eq, not_true, if_false]
    exact bad_zero fun x hx => h x (List.mem_cons_of_mem _ hx)
theorem bad_all : ∀ {l : List Rec}, bad l = 0 → ∀ r ∈ l, checkE r = 0
  | [], _ => by simp
  | r :: l, h => by
    simp only [bad] at h
    split at h
    · rename_i hne; exact absurd h hne
    · rename_i he
      intro x hx
      rcases List.mem_cons.1 hx with rfl | hx
      · simpa using he
      · exact bad_all h x hx
theorem tot_plain : ∀ l : List Rec, tot (l.map plainR) = tot l
  | [] => rfl
  | r :: l => by simp only [List.map_cons, tot, enc_plain, tot_plain l]

theorem allB_ok {x : Bt} {l : List Rec} (h : x.Ok) (hl : ∀ r ∈ l, r.Ok) : (allB x l).2.Ok := by
  unfold allB
  split
  · exact h
  · rename_i hb
    split
    · exact h
    · rename_i hn
      have hb' : bad l = 0 := by simpa using hb
      rw [h.m12] at hn ⊢
      refine ⟨?_, ?_, .inr ⟨?_, ?_⟩, ?_, h.sorted⟩
      · simp; omega
      · intro r hr
        rcases List.mem_append.1 hr with hr | hr
        · exact h.recs r hr
        · obtain ⟨y, hy, rfl⟩ := List.mem_map.1 hr
          exact ⟨plainR_ok (hl y hy), check_plain (bad_all hb' y hy), plain_plain y⟩
      · simp only [tot_append, tot_plain]; omega
      · show 12 + tot x.recs + tot l ≤ 4194304; omega
      · intro n hn
        have := h.marks n hn
        refine ⟨this.1, ?_⟩
        simp only [List.length_append]; omega
theorem allB_pre (x : Bt) (l : List Rec) : ∃ m, (allB x l).2.recs = x.recs ++ m ∧ (allB x l).2.marks = x.marks := by
  unfold allB
  split
  · exact ⟨[], by simp⟩
  · split
    · exact ⟨[], by simp⟩
    · exact ⟨_, rfl, rfl⟩

/-- Add. -/
theorem c8 {h : Heap} {g : Nat} {F : Nat → Prop} {x : Bt} {r : Rec} (B : Bat h g F x) (ok : x.Ok) (hr : r.Ok) {R : Int → Heap → Prop}
    (k : ∀ h' F', Bat h' g F' (allB x [r]).2 → Ext F h h' → Sub F F' h → R (allB x [r]).1 h') :
    Call Go.Proofs.Try.prog 8 [.lf (.ptr (some (g, 0))), .agg r.lfs] h [.one (.int .i64)] R := by
  have hlt := B.lt
  refine ok8 (New.mk fun b0 h1 hb0 hs1 e1 kb0 => New.mk fun b2 h3 hb2 hs3 e3 kb2 => ?_)
  have e := e1.trans e3
  refine c26 (B.ext0 e) ok.s0 ok.s1 ok.len ((Own.new (l := [r]) lfs_sized kb2).arr lfs_sized) ?_ (by simp) (by simpa using hr) fun h4 F' B' e' s' => ⟨e'.keep (by omega) fun hx => ?_, k _ _ B' (e.of0.trans e') fun b hb => (s' b hb).imp id fun y => Nat.le_trans e.size y⟩
  · rintro ⟨b, off, hb, hx⟩; have := hlt b hx; simp at hb; omega
  · have := hlt b0 hx; omega

theorem c29 {h : Heap} {g : Nat} {F : Nat → Prop} {x : Bt} {fam : Int} {key val : ByteArray} (B : Bat h g F x) (ok : x.Ok) (h0 : 0 ≤ fam) (h1 : fam ≤ 4294967295) {R : Int → Heap → Prop}
    (k : ∀ h' F', Bat h' g F' (allB x [⟨fam, 1, key, val⟩]).2 → Ext F h h' → Sub F F' h → R (allB x [⟨fam, 1, key, val⟩]).1 h') :
    Call Go.Proofs.Try.prog 29 [.lf (.ptr (some (g, 0))), .lf (.int .u32 fam), .lf (.str key), .lf (.str val)] h [.one (.int .i64)] R :=
  ok29 (c8 (r := ⟨fam, 1, key, val⟩) B ok ⟨h0, h1, show (-9223372036854775808 : Int) ≤ 1 by decide, show (1 : Int) ≤ 9223372036854775807 by decide⟩ k)

/-- Records. -/
theorem c9 {h : Heap} {g : Nat} {F : Nat → Prop} {x : Bt} (B : Bat h g F x) (ok : x.Ok) {R : Slc → Heap → Prop}
    (k : ∀ s h', Own 4 Rec.lfs h' s x.recs → Fresh h h' s → R s h') :
    Call Go.Proofs.Try.prog 9 [.lf (.ptr (some (g, 0)))] h [.one .slc] R := by
  obtain ⟨sl, sm, C⟩ := B
  have := ok.len
  exact ok9 (NilC.mk rfl ⟨sl, C.blk.cell rfl, c27 (C.recs.arr lfs_sized) (by omega) k⟩)

/-- Size. -/
theorem c10 {h : Heap} {g : Nat} {F : Nat → Prop} {x : Bt} (B : Bat h g F x) (ok : x.Ok) {R : Int → Heap → Prop}
    (k : R (12 + tot x.recs) h) : Call Go.Proofs.Try.prog 10 [.lf (.ptr (some (g, 0)))] h [.one (.int .i64)] R := by
  obtain ⟨sl, sm, C⟩ := B
  rw [← ok.m12] at k
  exact ok10 (NilC.mk rfl ⟨x.size, C.blk.cell rfl, k⟩)

/-- Append. -/
theorem c12 {h : Heap} {g g' : Nat} {F F' : Nat → Prop} {x y : Bt} (B : Bat h g F x) (ok : x.Ok) (B' : Bat h g' F' y) (ok' : y.Ok) {R : Int → Heap → Prop}
    (k : ∀ h' F', Bat h' g F' (allB x y.recs).2 → Ext F h h' → Sub F F' h → R (allB x y.recs).1 h') :
    Call Go.Proofs.Try.prog 12 [.lf (.ptr (some (g, 0))), .lf (.ptr (some (g', 0)))] h [.one (.int .i64)] R := by
  obtain ⟨sl, sm, C⟩ := B'
  have := ok'.len
  have hlt := B.lt
  refine ok12 (Br.f rfl (NilC.mk rfl ⟨sl, C.blk.cell rfl, c27 (C.recs.arr lfs_sized) (by omega) fun s3 h4 o3 f3 => ?_⟩))
  refine c26 (B.ext0 f3.ext) ok.s0 ok.s1 ok.len (o3.arr lfs_sized) ?_ ok'.len (fun r hr => (ok'.recs r hr).1) fun h5 F5 B5 e5 s5 => k _ _ B5 (f3.ext.of0.trans e5) fun b hb => (s5 b hb).imp id fun y => Nat.le_trans f3.ext.size y
  rintro ⟨b, off, hb, hx⟩
  have := hlt b hx
  have := f3.new b off hb
  omega

/-- Save. -/
theorem c15 {h : Heap} {g : Nat} {F : Nat → Prop} {x : Bt} (B : Bat h g F x) (hm : x.marks.length ≤ 2199023255552) {R : Heap → Prop}
    (k : ∀ h' F', Bat h' g F' ⟨x.recs, x.size, x.marks ++ [(x.recs.length : Int)]⟩ → Ext F h h' → Sub F F' h → R h') :
    Call Go.Proofs.Try.prog 15 [.lf (.ptr (some (g, 0)))] h [] R := by
  obtain ⟨sl, sm, C⟩ := B
  refine ok15 (NilC.mk rfl ⟨sm, C.blk.cell rfl, NilC.mk rfl ⟨sl, C.blk.cell rfl, New.mk fun b6 h7 hb6 hs7 e7 k7 => ⟨(C.blk.ext e7).cell rfl, ?_⟩⟩⟩)
  have C1 := C.ext0 e7
  rw [C.recs.len] at k7
  refine AppC.grow iF_sized (by decide) rfl C1.marks ((Own.new (l := [(x.recs.length : Int)]) iF_sized k7).arr iF_sized) (by simp only [List.length_singleton]; omega) fun s8 h9 o9 g9 => ?_
  have hne : ∀ off, sm.a ≠ some (g, off) := fun off hx => (C1.hm _ _ hx).2.1 rfl
  have hg := C1.blk.lt
  refine NilC.mk rfl (StC.one (C1.blk.ext g9.ext fun ⟨off, hx⟩ => hne _ hx) (by simp) fun h10 hs10 k10 e10 => ?_)
  have hnew : ∀ b off, s8.a = some (b, off) → b ≠ g ∧ ∀ off', sl.a ≠ some (b, off') := fun b off hb => by
    rcases g9.new with h1 | ⟨b', h1, h4⟩
    · exact (C1.hm b off (h1 ▸ hb)).2
    · rw [h1] at hb; cases hb
      exact ⟨by omega, fun off' hx => by have := C1.lt b (C1.hl b off' hx).1; omega⟩
  refine k h10 (fun b => F b ∨ ∃ off, s8.a = some (b, off)) ⟨sl, s8, k10, ?_, ?_, .inl C.gin, ?_, fun b off hb => ⟨.inl (C.hl b off hb).1, (C.hl b off hb).2⟩, fun b off hb => ⟨.inr ⟨off, hb⟩, hnew b off hb⟩⟩ ?_ ?_
  · exact (C1.recs.ext g9.ext fun ⟨b, off, hb, off', hx⟩ => (C1.hm b off' hx).2.2 off hb).ext e10 fun ⟨b, off, hb, hx⟩ => (C1.hl b off hb).2 hx
  · exact o9.ext e10 fun ⟨b, off, hb, hx⟩ => (hnew b off hb).1 hx
  · rintro b (hb | ⟨off, hb⟩)
    · have := C1.lt b hb; have := g9.ext.size; omega
    · have := (o9.lt b off hb).1; omega
  · exact (e7.of0.trans (g9.ext.mono fun i ⟨off, hx⟩ => (C.hm i off hx).1)).trans (e10.mono fun i hx => hx ▸ C.gin)
  · rintro b (hb | ⟨off, hb⟩)
    · exact .inl hb
    · rcases g9.new with h1 | ⟨b', h1, h4⟩
      · exact .inl (C1.hm b off (h1 ▸ hb)).1
      · rw [h1] at hb; cases hb; exact .inr (by omega)

/-- Pop. -/
def popB (x : Bt) : Int × Bt := if x.marks.length = 0 then (6, x) else (0, ⟨x.recs, x.size, x.marks.take (x.marks.length - 1)⟩)
theorem c31 {h : Heap} {g : Nat} {F : Nat → Prop} {x : Bt} (B : Bat h g F x) (hm : x.marks.length ≤ 2199023255552) {R : Int → Heap → Prop}
    (k : ∀ h', Bat h' g F (popB x).2 → Ext F h h' → R (popB x).1 h') :
    Call Go.Proofs.Try.prog 31 [.lf (.ptr (some (g, 0)))] h [.one (.int .i64)] R := by
  obtain ⟨sl, sm, C⟩ := B
  have hlen := C.marks.len
  have hlec := C.marks.lec
  refine ok31 (NilC.mk rfl ⟨sm, C.blk.cell rfl, Br.eq (fun h0 => ?_) fun h0 => ?_⟩)
  · have := k h (by rw [popB, if_pos (by omega)]; exact ⟨sl, sm, C⟩) (Ext.refl _ _)
    rwa [popB, if_pos (by omega)] at this
  · have h0' : ¬ x.marks.length = 0 := by omega
    rw [popB, if_neg h0'] at k
    refine NilC.mk rfl ⟨sm, C.blk.cell rfl, NilC.mk rfl ⟨sm, C.blk.cell rfl, ?_⟩⟩
    rw [wi64 (by omega) (by omega)]
    refine ⟨by omega, by omega, NilC.mk rfl (StC.one C.blk (by simp) fun h9 hs9 k9 e9 => k h9 ⟨sl, _, k9, ?_, ?_, C.gin, fun b hb => by rw [hs9]; exact C.lt b hb, C.hl, ?_⟩ (e9.mono fun i hx => hx ▸ C.gin))⟩
    · exact C.recs.ext e9 fun ⟨b, off, hb, hx⟩ => (C.hl b off hb).2 hx
    · rw [hlen, show ((x.marks.length : Int) - 1).toNat = x.marks.length - 1 by omega]
      exact (C.marks.ext e9 fun ⟨b, off, hb, hx⟩ => (C.hm b off hb).2.1 hx).take iF_sized (by omega)
    · intro b off hb
      have : sm.a = some (b, off) := by
        unfold Slc.sub at hb
        cases hsa : sm.a with
        | none => rw [hsa] at hb; simp at hb
        | some p => rw [hsa] at hb; simpa using hb
      exact C.hm b off this

end Go.V.Ytclffphegfhocaa
set_option linter.unusedVariables false
set_option linter.unusedSimpArgs false
/-! Back, Same, Encode, and the batch that lives. -/
namespace Go.V.Ytclffphegfhocaa
open Go Go.V

def backB (x : Bt) : Int × Bt := match x.marks.getLast? with
  | none => (6, x)
  | some n => (0, ⟨x.recs.take n.toNat, x.size - tot (x.recs.drop n.toNat), x.marks.dropLast⟩)

theorem tot_bound {l : List Rec} (h : ∀ r ∈ l, r.Ok ∧ checkE r = 0 ∧ plainR r = r) : tot l ≤ 20000 * (l.length : Int) :=
  tot_le (fun r hr => (h r hr).1) (bad_zero fun r hr => (h r hr).2.1)

theorem c16 {h : Heap} {g : Nat} {F : Nat → Prop} {x : Bt} (B : Bat h g F x) (ok : x.Ok) (hm : x.marks.length ≤ 2199023255552) {R : Int → Heap → Prop}
    (k : ∀ h' F', Bat h' g F' (backB x).2 → Ext F h h' → Sub F F' h → R (backB x).1 h') :
    Call Go.Proofs.Try.prog 16 [.lf (.ptr (some (g, 0)))] h [.one (.int .i64)] R := by
  obtain ⟨sl, sm, C⟩ := id B
  have hlen := C.marks.len
  have hrl := C.recs.len
  have hrc := C.recs.lec
  have hlt := C.lt
  refine ok16 (NilC.mk rfl ⟨sm, C.blk.cell rfl, Br.eq (fun h0 => ?_) fun h0 => ?_⟩)
  · have hnil : x.marks = [] := List.length_eq_zero_iff.1 (by omega)
    have := k h F (by simp only [backB, hnil, List.getLast?_nil]; exact ⟨sl, sm, C⟩) (Ext.refl _ _) (Sub.refl _ _)
    simpa only [backB, hnil, List.getLast?_nil] using this
  · have hne : x.marks ≠ [] := fun he => by rw [he] at hlen; simp at hlen; omega
    have hpos : 0 < x.marks.length := by omega
    have hlast : x.marks[x.marks.length - 1]? = some (x.marks.getLast hne) := by
      rw [← List.getLast?_eq_getElem?, List.getLast?_eq_some_getLast hne]
    obtain ⟨hn0, hn1⟩ := ok.marks _ (List.getLast_mem hne)
    have hback : backB x = (0, ⟨x.recs.take (x.marks.getLast hne).toNat, x.size - tot (x.recs.drop (x.marks.getLast hne).toNat), x.marks.dropLast⟩) := by
      simp only [backB, List.getLast?_eq_some_getLast hne]
    rw [hback] at k
    obtain ⟨n, hn⟩ := Int.eq_ofNat_of_zero_le hn0
    rw [hn] at k hn1 hlast
    simp only [Int.toNat_natCast] at k
    refine NilC.mk rfl ⟨sm, C.blk.cell rfl, NilC.mk rfl ⟨sm, C.blk.cell rfl, ?_⟩⟩
    rw [wi64 (by omega) (by omega)]
    refine (C.marks.arr iF_sized).ix (k := x.marks.length - 1) (by omega) hlast fun b off hc => ⟨_, hc, NilC.mk rfl ⟨sl, C.blk.cell rfl, by omega, by omega, ?_⟩⟩
    have hsub := (C.recs.arr lfs_sized).sub (lo := n) (hi := x.recs.length) (m := sl.cap) (by omega) (Nat.le_refl _) (by omega)
    rw [List.take_length] at hsub
    have hsl : (sl.sub 4 (n : Int).toNat sl.len sl.cap) = sl.sub 4 n x.recs.length sl.cap := by rw [hrl]; rfl
    rw [hsl]
    have hdl : (x.recs.drop n).length = x.recs.length - n := by simp
    have hlen4 := ok.len
    have hall : ∀ r ∈ x.recs.drop n, r.Ok ∧ checkE r = 0 ∧ plainR r = r := fun r hr => ok.recs r (List.mem_of_mem_drop hr)
    have hsubin : ∀ b off, (sl.sub 4 n x.recs.length sl.cap).a = some (b, off) → ∃ off', sl.a = some (b, off') := by
      intro b off hb
      unfold Slc.sub at hb
      cases hsa : sl.a with
      | none => rw [hsa] at hb; simp at hb
      | some p => obtain ⟨b', o'⟩ := p; rw [hsa] at hb; simp only at hb; split at hb <;> (simp at hb; exact ⟨o', by rw [← hb.1]⟩)
    refine ⟨fun i h' d => ∃ m : Nat, i = m ∧ m ≤ (x.recs.drop n).length ∧ d = (x.recs.drop n).length - m ∧ Ext (fun j => j = g) h h' ∧ BatC h' g F ⟨x.recs, x.size - tot ((x.recs.drop n).take m), x.marks⟩ sl sm, ⟨_, 0, rfl, by omega, rfl, Ext.refl _ _, by simpa [tot] using C⟩, ?_⟩
    rintro _ h18 _ ⟨m, rfl, hm', rfl, e, C1⟩
    have htl := tot_bound (l := (x.recs.drop n).take m) fun r hr => hall r (List.mem_of_mem_take hr)
    have htn := tot_nonneg ((x.recs.drop n).take m)
    have hlt' : ((x.recs.drop n).take m).length ≤ 4096 := by simp; omega
    have hs0 := ok.s0
    have hs1 := ok.s1
    refine Br.dec (fun hi => ?_) fun hi => ?_
    · rw [hsub.len] at hi
      have hi' : m < (x.recs.drop n).length := by omega
      have hx : (x.recs.drop n)[m]? = some (x.recs.drop n)[m] := List.getElem?_eq_getElem hi'
      have hmem := hall _ (List.getElem_mem hi')
      refine (hsub.ext e fun ⟨b, off, hb, hx⟩ => ?_).ix rfl hx fun b off hc => ⟨_, _, _, _, hc, New.mk fun b1 h8 hb1 hs8 e8 _ => Set.mk fun h9 hs9 e9 _ => ?_⟩
      · obtain ⟨off', ho⟩ := hsubin b off hb; exact (C.hl b off' ho).2 hx
      have e9' : Ext0 h18 h9 := Ext.tmp e8 e9 (by omega)
      have C2 := C1.ext0 e9'
      obtain ⟨hk1, hk2⟩ := check_size hmem.2.1
      have he := enc_le hmem.1 hmem.2.1
      refine NilC.mk rfl ⟨_, C2.blk.cell rfl, ?_⟩
      refine c30 hmem.1 (by omega) (fun hh => by have := hk2 hh; omega) fun s11 h11 o11 f11 => ⟨f11.ext.keep (by omega), (C2.blk.ext f11.ext).cell rfl, ?_⟩
      have C3 := C2.ext0 f11.ext
      have hg := C1.blk.lt
      have hgs := f11.ext.size
      refine NilC.mk rfl (StC.one C3.blk (by simp) fun h12 hs12 k12 e12 => ⟨e12.keep (by omega) (fun he => by omega), _, ?_, m + 1, ?_, by omega, rfl, ?_, ?_⟩)
      · show (x.recs.drop n).length - (m + 1) < (x.recs.drop n).length - m; omega
      · rw [wi64 (by omega) (by omega)]; rfl
      · exact (e.then0 (e9'.trans f11.ext)).trans e12
      · rw [o11.len, wi64 (by simp only; omega) (by simp only; omega)] at k12
        have ht : tot ((x.recs.drop n).take (m + 1)) = tot ((x.recs.drop n).take m) + (encR (x.recs.drop n)[m]).length := by
          rw [take_succ' hi', tot_append]; simp [tot]
        refine ⟨?_, C3.recs.ext e12 fun ⟨b, off, hb, hx⟩ => (C3.hl b off hb).2 hx, C3.marks.ext e12 fun ⟨b, off, hb, hx⟩ => (C3.hm b off hb).2.1 hx, C3.gin, fun b hb => by rw [hs12]; exact C3.lt b hb, C3.hl, C3.hm⟩
        rw [ht, ← Int.sub_sub]; exact k12
    · rw [hsub.len] at hi
      have hml : m = (x.recs.drop n).length := by omega
      rw [hml, List.take_length] at C1
      refine NilC.mk rfl ⟨sl, C1.blk.cell rfl, by omega, by omega, NilC.mk rfl (StC.one C1.blk (by simp) fun h19 hs19 k19 e19 => ?_)⟩
      have hsub2 : ∀ b off, (sl.sub 4 0 (n : Int).toNat sl.cap).a = some (b, off) → sl.a = some (b, off) := by
        intro b off hb
        unfold Slc.sub at hb
        cases hsa : sl.a with
        | none => rw [hsa] at hb; simp at hb
        | some p => rw [hsa] at hb; simpa using hb
      have C4 : BatC h19 g F ⟨x.recs.take n, x.size - tot (x.recs.drop n), x.marks⟩ (sl.sub 4 0 (n : Int).toNat sl.cap) sm :=
        ⟨k19, (C1.recs.ext e19 fun ⟨b, off, hb, hx⟩ => (C1.hl b off hb).2 hx).take lfs_sized (by show n ≤ x.recs.length; omega), C1.marks.ext e19 fun ⟨b, off, hb, hx⟩ => (C1.hm b off hb).2.1 hx, C1.gin, fun b hb => by rw [hs19]; exact C1.lt b hb, fun b off hb => C1.hl b off (hsub2 b off hb), fun b off hb => ⟨(C1.hm b off hb).1, (C1.hm b off hb).2.1, fun off' ho => (C1.hm b off hb).2.2 off' (hsub2 _ _ ho)⟩⟩
      refine c31 ⟨_, _, C4⟩ hm fun h20 B20 e20 => ?_
      have hp : popB ⟨x.recs.take n, x.size - tot (x.recs.drop n), x.marks⟩ = (0, ⟨x.recs.take n, x.size - tot (x.recs.drop n), x.marks.dropLast⟩) := by
        simp only [popB]; rw [if_neg (by omega), List.dropLast_eq_take]
      rw [hp] at B20 ⊢
      exact k _ F B20 (((e.mono fun i hx => hx ▸ C.gin).trans (e19.mono fun i hx => hx ▸ C.gin)).trans e20) (Sub.refl _ _)

theorem pairwise_dropLast {l : List Int} (h : l.Pairwise (· ≤ ·)) : l.dropLast.Pairwise (· ≤ ·) := h.sublist (List.dropLast_sublist l)

theorem backB_ok {x : Bt} (ok : x.Ok) : (backB x).2.Ok := by
  unfold backB
  cases hl : x.marks.getLast? with
  | none => exact ok
  | some n =>
    have hmem : n ∈ x.marks := List.mem_of_getLast? hl
    obtain ⟨h0, h1⟩ := ok.marks n hmem
    have hsplit : tot x.recs = tot (x.recs.take n.toNat) + tot (x.recs.drop n.toNat) := by rw [← tot_append, List.take_append_drop]
    have := tot_nonneg (x.recs.drop n.toNat)
    have hlen := ok.len
    refine ⟨by simp; omega, fun r hr => ok.recs r (List.mem_of_mem_take hr), ?_, fun m hm => ?_, pairwise_dropLast ok.sorted⟩
    · rcases ok.size with ⟨h, h'⟩ | ⟨h, h'⟩
      · left; simp [h, h', tot]
      · right; exact ⟨by show x.size - tot (x.recs.drop n.toNat) = 12 + tot (x.recs.take n.toNat); omega, by show x.size - _ ≤ _; omega⟩
    · have hm' := List.dropLast_subset _ hm
      have hle : m ≤ n := by
        have hne : x.marks ≠ [] := List.ne_nil_of_mem hmem
        have hdl := List.dropLast_concat_getLast hne
        have hn' : x.marks.getLast hne = n := by
          rw [List.getLast?_eq_some_getLast hne] at hl; simpa using hl
        have hs := ok.sorted
        rw [← hdl, List.pairwise_append] at hs
        exact hn' ▸ hs.2.2 m hm _ (List.mem_singleton_self _)
      have := ok.marks m hm'
      refine ⟨this.1, ?_⟩
      simp only [List.length_take]; omega

theorem beq_refl (x : ByteArray) : (x == x) = true := by
  have : (x == x) = (x.data == x.data) := rfl
  rw [this]; simp

/-- Same lists are told to be the same. -/
theorem c13 {s t : Slc} {l : List Rec} {h : Heap} (a : Arr 4 Rec.lfs h s l) (b : Arr 4 Rec.lfs h t l) (hl : l.length ≤ 2932031007402) {R : Bool → Heap → Prop} (k : R true h) :
    Call Go.Proofs.Try.prog 13 [.lf (.slc s), .lf (.slc t)] h [.one .bool] R := by
  have h1 := a.len
  have h2 := b.len
  refine ok13 (Br.ne (fun hne => absurd hne (by omega)) fun _ => ⟨fun i h' d => ∃ m : Nat, i = m ∧ m ≤ l.length ∧ d = l.length - m ∧ h' = h, ⟨_, 0, rfl, by omega, rfl, rfl⟩, ?_⟩)
  rintro _ _ _ ⟨m, rfl, hm, rfl, rfl⟩
  refine Br.dec (fun hi => ?_) fun hi => k
  have hi' : m < l.length := by omega
  have hx : l[m]? = some l[m] := List.getElem?_eq_getElem hi'
  refine a.ix rfl hx fun b1 o1 c1 => ⟨_, _, _, _, c1, b.ix rfl hx fun b2 o2 c2 => ⟨_, _, _, _, c2, Br.f (by simp [beq_refl]) ⟨_, by omega, m + 1, ?_, by omega, rfl, rfl⟩⟩⟩
  rw [wi64 (by omega) (by omega)]; rfl

end Go.V.Ytclffphegfhocaa
set_option linter.unusedVariables false
set_option linter.unusedSimpArgs false
/-! Numbers of a fixed width, records as bytes, and the batch that lives. -/
namespace Go.V.Ytclffphegfhocaa
open Go Go.V

theorem c57 {x n : Nat} (hn : n ≤ 8) {h : Heap} {R : Slc → Heap → Prop}
    (k : ∀ s h', Own 1 bF h' s (fixedL x n) → Fresh h h' s → R s h') :
    Call Go.Proofs.Try.prog 57 [.lf (.int .u64 x), .lf (.int .i64 n)] h [.one .slc] R := by
  refine ok57 (MkC.own (f := bF) (z := (0 : UInt8)) bF_sized rfl (n := n) rfl rfl (by omega) (by omega) fun s h1 o1 hs e1 => ?_)
  refine ⟨fun i h' d => ∃ m : Nat, i = m ∧ m ≤ n ∧ d = n - m ∧ Own 1 bF h' s ((List.range n).map fun i => if i < m then UInt8.ofNat (x / 256 ^ i) else 0) ∧ Ext0 h h', ⟨_, 0, rfl, by omega, rfl, ?_, e1⟩, ?_⟩
  · rw [show ((List.range n).map fun i => if i < 0 then UInt8.ofNat (x / 256 ^ i) else 0) = List.replicate n 0 by simp [List.map_const']]
    exact o1
  rintro _ h5 _ ⟨m, rfl, hm, rfl, o, e⟩
  have hl := o.len
  simp only [List.length_map, List.length_range] at hl
  rw [hl]
  refine Br.dec (fun hi => ?_) fun hi => ?_
  · have hi' : m < n := by omega
    have e8 : IntKind.wrap .i64 ((8 : Int) * (m : Int)) = ((8 * m : Nat) : Int) := by rw [wi64 (by omega) (by omega)]; simp
    rw [e8, shrN (by omega), lo_byte]
    refine ⟨by omega, IxC.set bF_sized o rfl (by simpa using hi') rfl fun h6 hs6 o6 e6 => ⟨_, by omega, m + 1, ?_, by omega, rfl, ?_, e.trans' e6 fun i hi ⟨off, hx⟩ => ?_⟩⟩
    · rw [wi64 (by omega) (by omega)]; rfl
    · have : (((List.range n).map fun i => if i < m then UInt8.ofNat (x / 256 ^ i) else 0).set m (UInt8.ofNat (x / 256 ^ m))) = ((List.range n).map fun i => if i < m + 1 then UInt8.ofNat (x / 256 ^ i) else 0) := by
        apply List.ext_getElem?
        intro j
        rw [List.getElem?_set]
        by_cases hj : j < n
        · simp only [List.getElem?_map, List.getElem?_range hj, Option.map_some, List.length_map, List.length_range]
          split
          · rename_i he; subst he; simp [hj]
          · have : j < m + 1 ↔ j < m := by omega
            simp [this]
        · rw [List.getElem?_eq_none (by simpa using hj), List.getElem?_eq_none (by simpa using hj)]
          rw [if_neg (by omega)]
      rw [← this]; exact o6
    · rw [hs] at hx; simp at hx; omega
  · have hmn : m = n := by omega
    subst hmn
    refine k s h5 ?_ ⟨e, fun b off hb => by rw [hs] at hb; simp at hb; omega⟩
    have : ((List.range m).map fun i => if i < m then UInt8.ofNat (x / 256 ^ i) else 0) = fixedL x m := by
      apply List.map_congr_left
      intro i hi
      rw [if_pos (List.mem_range.1 hi)]
    rwa [this] at o

theorem c33 {x : Nat} {h : Heap} {R : Slc → Heap → Prop} (k : ∀ s h', Own 1 bF h' s (fixedL x 8) → Fresh h h' s → R s h') :
    Call Go.Proofs.Try.prog 33 [.lf (.int .u64 x)] h [.one .slc] R := ok33 (c57 (n := 8) (by decide) k)
theorem c34 {x : Nat} (hx : x ≤ 4294967295) {h : Heap} {R : Slc → Heap → Prop} (k : ∀ s h', Own 1 bF h' s (fixedL x 4) → Fresh h h' s → R s h') :
    Call Go.Proofs.Try.prog 34 [.lf (.int .u32 x)] h [.one .slc] R := by
  refine ok34 ?_
  unfold vc34
  rw [wu64 (by omega) (by omega)]
  exact c57 (n := 4) (by decide) k

/-- Whether so many records can have numbers from one on. -/
def fitsB (seq n : Int) : Bool := decide (seq ≤ 72057594037927935 ∧ (n = 0 ∨ n - 1 ≤ 72057594037927935 - seq))
theorem c32 {seq n : Int} (h0 : 0 ≤ seq) (h1 : 0 ≤ n) (h2 : n ≤ 9223372036854775807) {h : Heap} {R : Bool → Heap → Prop} (k : R (fitsB seq n) h) :
    Call Go.Proofs.Try.prog 32 [.lf (.int .u64 seq), .lf (.int .i64 n)] h [.one .bool] R := by
  refine ok32 (Br.dec (fun hs => Br.eq (fun hn => ?_) fun hn => ?_) fun hs => ?_)
  · have : fitsB seq n = true := by simp [fitsB]; omega
    rwa [this] at k
  · rw [wi64 (by omega) (by omega), wu64 (by omega) (by omega), wu64 (by omega) (by omega)]
    have : fitsB seq n = decide (n - 1 ≤ 72057594037927935 - seq) := by
      unfold fitsB
      rw [Bool.eq_iff_iff]; simp only [decide_eq_true_eq]; omega
    rwa [this] at k
  · have : fitsB seq n = false := by simp [fitsB]; omega
    rwa [this] at k

def encE (seq : Int) (l : List Rec) : Int :=
  if fitsB seq l.length = false then 1 else if l.length > 4096 then 2 else if bad l ≠ 0 then bad l else if 12 + tot l > 4194304 then 2 else 0
def encL (seq : Nat) (l : List Rec) : List UInt8 := fixedL seq 8 ++ fixedL l.length 4 ++ l.flatMap encR

theorem flat_tot : ∀ l : List Rec, ((l.flatMap encR).length : Int) = tot l
  | [] => rfl
  | r :: l => by simp only [List.flatMap_cons, List.length_append, tot]; have := flat_tot l; omega
theorem fixedL_len (x n : Nat) : (fixedL x n).length = n := by simp [fixedL]

theorem c17 {seq : Nat} {s : Slc} {l : List Rec} {h : Heap} (a : Arr 4 Rec.lfs h s l) (hok : ∀ r ∈ l, r.Ok) (hl : l.length ≤ 2932031007402) {R : Slc → Int → Heap → Prop}
    (k0 : encE seq l = 0 → ∀ s' h', Own 1 bF h' s' (encL seq l) → Fresh h h' s' → R s' 0 h')
    (k1 : ∀ e, encE seq l = e → e ≠ 0 → ∀ h', Ext0 h h' → R ⟨none, 0, 0⟩ e h') :
    Call Go.Proofs.Try.prog 17 [.lf (.int .u64 seq), .lf (.slc s)] h [.one .slc, .one (.int .i64)] R := by
  have hlen := a.len
  refine ok17 ?_
  unfold vc17
  rw [hlen]
  refine c32 (by omega) (by omega) (by omega) (Br.not (fun hf => ?_) fun hf => Br.dec (fun hg => ?_) fun hg => ?_)
  · exact k1 1 (by simp [encE, hf]) (by decide) _ (Ext.refl _ _)
  · exact k1 2 (by simp [encE, hf]; omega) (by decide) _ (Ext.refl _ _)
  rw [wu32 (by omega) (by omega)]
  refine c33 fun s2 h3 o2 f2 => c34 (by omega) fun s4 h5 o4 f4 => AppC.grow bF_sized (by decide) rfl (o2.ext0 f4.ext) (o4.arr bF_sized) (by rw [fixedL_len, fixedL_len]; omega) fun s6 h7 o6 g6 => ?_
  have fr6 : Fresh h h7 s6 := (f2.ext0 f4.ext).grow g6
  have hgl : l.length ≤ 4096 := by omega
  have hE : encE seq l = if bad l ≠ 0 then bad l else if 12 + tot l > 4194304 then 2 else 0 := by
    unfold encE; rw [if_neg (by simp [hf]), if_neg (by omega)]
  rw [hE] at k0 k1
  refine ⟨fun s' i h' d => ∃ (m : Nat) (B : List UInt8), i = m ∧ m ≤ l.length ∧ d = l.length - m ∧ bad (l.take m) = 0 ∧ Own 1 bF h' s' B ∧ Fresh h h' s' ∧ (12 + tot (l.take m) ≤ 4194304 → B = fixedL seq 8 ++ fixedL l.length 4 ++ (l.take m).flatMap encR) ∧ (12 + tot (l.take m) > 4194304 → 4194304 < B.length ∧ B.length ≤ 4294304), ⟨_, 0, _, rfl, by omega, rfl, rfl, o6, fr6, fun _ => by simp, fun hx => by simp [tot] at hx⟩, ?_⟩
  rintro s10 _ h12 _ ⟨m, B, rfl, hm, rfl, hbad, o, fr, hB1, hB2⟩
  have hBlen : (B.length : Int) = 12 + tot (l.take m) ∧ 12 + tot (l.take m) ≤ 4194304 ∨ 4194304 < B.length ∧ B.length ≤ 4294304 ∧ 12 + tot (l.take m) > 4194304 := by
    by_cases hh : 12 + tot (l.take m) ≤ 4194304
    · left
      rw [hB1 hh]
      have := flat_tot (l.take m)
      simp only [List.length_append, fixedL_len]; omega
    · have := hB2 (by omega)
      right; omega
  have hol := o.len
  refine Br.dec (fun hi => ?_) fun hi => ?_
  · have hi' : m < l.length := by omega
    have hx : l[m]? = some l[m] := List.getElem?_eq_getElem hi'
    have hmem := hok _ (List.getElem_mem hi')
    have ht : tot (l.take (m + 1)) = tot (l.take m) + (encR l[m]).length := by
      rw [take_succ' hi', tot_append]; simp [tot]
    refine ⟨fun s' h' => ∃ B', checkE l[m] = 0 ∧ Own 1 bF h' s' B' ∧ Fresh h h' s' ∧ (B.length ≤ 4194304 → B' = B ++ encR l[m]) ∧ (B.length > 4194304 → B' = B), ?_, ?_⟩
    · refine (a.ext0 fr.ext).ix rfl hx fun b off hc => ⟨_, _, _, _, hc, New.mk fun b1 h8 hb1 hs8 e8 _ => Set.mk fun h9 hs9 e9 _ => ?_⟩
      have e9' : Ext0 h12 h9 := Ext.tmp e8 e9 (by omega)
      refine c19 fun h10 e10 => ⟨e10.keep (by omega), Br.ne (fun hne => ?_) fun heq => ?_⟩
      · refine k1 _ ?_ hne _ ((fr.ext.trans e9').trans e10)
        rw [bad_at hi' hbad hne, if_pos hne]
      · obtain ⟨hk1, hk2⟩ := check_size heq
        have he := enc_le hmem heq
        have fr10 := (fr.ext0 e9').ext0 e10
        have hb1s : ∀ off, s10.a ≠ some (b1, off) := fun off hx => by have := (o.lt _ _ hx).1; omega
        refine Br.dec (fun hle => ?_) fun hgt => ?_
        · refine c30 hmem (by omega) (fun hh => by have := hk2 hh; omega) fun s11 h11 o11 f11 => ⟨f11.ext.keep (by have := e10.size; omega), ?_⟩
          refine AppC.grow bF_sized (by decide) rfl ((o.ext0 (e9'.trans e10)).ext0 f11.ext) (o11.arr bF_sized) (by omega) fun s12 h13 o12 g12 => ?_
          refine ⟨g12.keep (by have := e10.size; have := f11.ext.size; omega) hb1s, B ++ encR l[m], heq, o12, (fr10.ext0 f11.ext).grow g12, fun _ => rfl, fun hx => by omega⟩
        · exact ⟨B, heq, o.ext0 (e9'.trans e10), fr10, fun hx => by omega, fun _ => rfl⟩
    · rintro s' h' ⟨B', heq, o', fr', h1, h2⟩
      have he := enc_le hmem heq
      refine ⟨_, ?_, m + 1, B', ?_, by omega, rfl, bad_step hi' hbad heq, o', fr', ?_, ?_⟩
      · show l.length - (m + 1) < l.length - m; omega
      · rw [wi64 (by omega) (by omega)]; rfl
      · intro hh
        rw [ht] at hh
        rw [h1 (by omega), hB1 (by omega), take_succ' hi']; simp only [List.flatMap_append, List.flatMap_singleton, List.append_assoc]
      · intro hh
        rw [ht] at hh
        rcases hBlen with ⟨h3, h4⟩ | ⟨h3, h4, h5⟩
        · rw [h1 (by omega)]; simp only [List.length_append]; omega
        · rw [h2 (by omega)]; omega
  · have hml : m = l.length := by omega
    subst hml
    rw [List.take_length] at *
    simp only [hbad, ne_eq, not_true, if_false] at k0 k1
    refine Br.dec (fun hg' => ?_) fun hg' => ?_
    · exact k1 2 (if_pos (by omega)) (by decide) _ fr.ext
    · have hh : 12 + tot l ≤ 4194304 := by omega
      have := hB1 hh
      subst this
      exact k0 (if_neg (by omega)) _ _ o fr

theorem lives_rec : (⟨0, 1, ByteArray.mk #[97], ByteArray.mk #[98]⟩ : Rec).Ok := ⟨by decide, by decide, by decide, by decide⟩

/-- Something is put into a batch. -/
theorem c14 {h : Heap} {R : Bool → Heap → Prop} (k : ∀ h', Ext0 h h' → R true h') : Call Go.Proofs.Try.prog 14 [] h [.one .bool] R := by
  have hv1 : varint 1 = [1] := by rw [varint_small (by decide)]; rfl
  have hv0 : varint 0 = [0] := by rw [varint_small (by decide)]; rfl
  have henc : encR ⟨0, 1, ByteArray.mk #[97], ByteArray.mk #[98]⟩ = [1, 0, 1, 97, 1, 98] := by
    have : encR ⟨0, 1, ByteArray.mk #[97], ByteArray.mk #[98]⟩ = 1 :: (varint 0 ++ (varint 1 ++ [97]) ++ (varint 1 ++ [98])) := rfl
    rw [this, hv0, hv1]; rfl
  have htot : tot [⟨0, 1, ByteArray.mk #[97], ByteArray.mk #[98]⟩] = 6 := by simp only [tot, henc]; rfl
  have hall : allB ⟨[], 0, []⟩ [⟨0, 1, ByteArray.mk #[97], ByteArray.mk #[98]⟩] = (0, ⟨[⟨0, 1, ByteArray.mk #[97], ByteArray.mk #[98]⟩], 18, []⟩) := by
    unfold allB
    rw [htot]
    rfl
  have hok0 : (⟨[], 0, []⟩ : Bt).Ok := ⟨by simp, by simp, .inl ⟨rfl, rfl⟩, by simp, by simp⟩
  refine ok14 (New.mk fun b0 h1 hb0 hs1 e1 k1 => ?_)
  refine c29 (Bat.new k1) hok0 (by decide) (by decide) fun h3 F3 B3 e3 s3 => ?_
  have hok3 := allB_ok hok0 (l := [⟨0, 1, ByteArray.mk #[97], ByteArray.mk #[98]⟩]) (by simpa using lives_rec)
  rw [hall] at B3 hok3 ⊢
  have e13 : Ext0 h h3 := Ext.tmp e1 e3 (by omega)
  refine c9 B3 hok3 fun s4 h5 o4 f4 => ?_
  have hE : encE (5 : Nat) [⟨0, 1, ByteArray.mk #[97], ByteArray.mk #[98]⟩] = 0 := by
    unfold encE
    rw [htot]
    rfl
  refine c17 (seq := 5) (o4.arr lfs_sized) (by simpa using lives_rec) (by simp) (fun _ s6 h8 o6 f6 => ?_) fun e he hne => absurd (he.symm.trans hE) hne
  refine Br.t rfl (Br.t rfl (c10 ((B3.ext0 f4.ext).ext0 f6.ext) hok3 (Br.t ?_ ⟨_, (o6.arr bF_sized).bytes fun _ => rfl, ?_⟩)))
  · simp only [htot]; rfl
  · have hL : encL 5 [⟨0, 1, ByteArray.mk #[97], ByteArray.mk #[98]⟩] = [5, 0, 0, 0, 0, 0, 0, 0, 1, 0, 0, 0, 1, 0, 1, 97, 1, 98] := by
      unfold encL
      rw [List.flatMap_singleton, henc]
      rfl
    rw [hL]
    have := k h8 ((e13.trans f4.ext).trans f6.ext)
    rwa [show strEq ⟨#[5, 0, 0, 0, 0, 0, 0, 0, 1, 0, 0, 0, 1, 0, 1, 97, 1, 98]⟩ (ByteArray.mk #[5, 0, 0, 0, 0, 0, 0, 0, 1, 0, 0, 0, 1, 0, 1, 97, 1, 98]) = true from beq_refl _]

end Go.V.Ytclffphegfhocaa
set_option linter.unusedVariables false
set_option linter.unusedSimpArgs false
/-! Bytes as records: plain. -/
namespace Go.V.Ytclffphegfhocaa
open Go Go.V

theorem u8nat {k : Nat} (h : k < 256) : (UInt8.ofNat k).toNat = k := by simp; omega

/-! ### Numbers -/

def vrGo : List UInt8 → Nat → Nat → Nat × Nat × Int
  | [], _, _ => (0, 0, 4)
  | c :: r, i, n =>
    if (i = 9 ∧ 1 < c.toNat) ∨ (0 < i ∧ c.toNat = 0) then (0, 0, 3)
    else if c.toNat < 128 then (n + c.toNat % 128 * 2 ^ (7 * i), i + 1, 0)
    else vrGo r (i + 1) (n + c.toNat % 128 * 2 ^ (7 * i))

theorem vrGo_some : ∀ {b : List UInt8} {i n m k : Nat}, vrGo b i n = (m, k, 0) → i ≤ 9 → n < 2 ^ (7 * i) → ∃ x, m = n + x * 2 ^ (7 * i) ∧ (i = 0 ∨ 0 < x) ∧ m < 18446744073709551616 ∧ k = i + (varint x).length ∧ b.take (varint x).length = varint x ∧ (varint x).length ≤ b.length ∧ k ≤ 10
  | [], i, n, m, k, h, _, _ => by simp [vrGo] at h
  | c :: r, i, n, m, k, h, hi, hn => by
    have hc := c.toNat_lt
    rw [vrGo] at h
    split at h
    · simp at h
    rename_i h1
    have hpow : 2 ^ (7 * (i + 1)) = 128 * 2 ^ (7 * i) := by rw [show 7 * (i + 1) = 7 * i + 7 by omega, Nat.pow_add]; omega
    split at h
    · rename_i h2
      simp only [Prod.mk.injEq] at h
      obtain ⟨rfl, rfl, _⟩ := h
      have hm : c.toNat % 128 = c.toNat := Nat.mod_eq_of_lt h2
      have hv : varint c.toNat = [c] := by rw [varint_small h2]; simp
      refine ⟨c.toNat, by rw [hm], ?_, ?_, by rw [hv]; rfl, by rw [hv]; rfl, by rw [hv]; simp, by omega⟩
      · rcases Nat.eq_zero_or_pos i with h0 | h0
        · exact .inl h0
        · right
          rcases Nat.eq_zero_or_pos c.toNat with z | z
          · exact absurd (.inr ⟨h0, z⟩) h1
          · exact z
      · rw [hm]
        by_cases h9 : i = 9
        · subst h9
          have : c.toNat ≤ 1 := by
            rcases Nat.lt_or_ge 1 c.toNat with z | z
            · exact absurd (.inl ⟨rfl, z⟩) h1
            · exact z
          have e : 2 ^ (7 * 9) = 9223372036854775808 := rfl
          have : c.toNat * 2 ^ (7 * 9) ≤ 1 * 2 ^ (7 * 9) := Nat.mul_le_mul_right _ this
          omega
        · have h8 : i ≤ 8 := by omega
          have e : 2 ^ (7 * i) ≤ 2 ^ (7 * 8) := Nat.pow_le_pow_right (by omega) (by omega)
          have e2 : 2 ^ (7 * 8) = 72057594037927936 := rfl
          have : c.toNat * 2 ^ (7 * i) ≤ 127 * 2 ^ (7 * i) := Nat.mul_le_mul_right _ (by omega)
          omega
    · rename_i h2
      have h9 : i ≠ 9 := by
        intro h9
        exact h1 (.inl ⟨h9, by omega⟩)
      have hlt : n + c.toNat % 128 * 2 ^ (7 * i) < 2 ^ (7 * (i + 1)) := by
        have : c.toNat % 128 * 2 ^ (7 * i) ≤ 127 * 2 ^ (7 * i) := Nat.mul_le_mul_right _ (by omega)
        omega
      obtain ⟨x, e1, e2, e3, e4, e5, e6, e7⟩ := vrGo_some h (by omega) hlt
      have hx : 0 < x := by rcases e2 with z | z; omega; exact z
      have hbig : ¬ (c.toNat % 128 + 128 * x < 128) := by omega
      have hv : varint (c.toNat % 128 + 128 * x) = c :: varint x := by
        rw [varint_big hbig]
        have a1 : (c.toNat % 128 + 128 * x) % 128 + 128 = c.toNat := by omega
        have a2 : (c.toNat % 128 + 128 * x) / 128 = x := by omega
        rw [a1, a2]; simp
      refine ⟨c.toNat % 128 + 128 * x, ?_, .inr (by omega), e3, by rw [hv, e4]; simp; omega, by rw [hv]; simp [e5], by rw [hv]; simp; omega, e7⟩
      rw [e1, hpow, Nat.add_mul]
      have : x * (128 * 2 ^ (7 * i)) = 128 * x * 2 ^ (7 * i) := by rw [← Nat.mul_assoc, Nat.mul_comm x 128]
      omega

theorem vrGo_enc : ∀ (x : Nat) {i n : Nat} (rest : List UInt8), (i = 0 ∨ 0 < x) → n + x * 2 ^ (7 * i) < 18446744073709551616 → i ≤ 9 → vrGo (varint x ++ rest) i n = (n + x * 2 ^ (7 * i), i + (varint x).length, 0) := by
  intro x
  induction x using Nat.strongRecOn with
  | _ x ih =>
    intro i n rest h0 hlt hi
    have hpow : 2 ^ (7 * (i + 1)) = 128 * 2 ^ (7 * i) := by rw [show 7 * (i + 1) = 7 * i + 7 by omega, Nat.pow_add]; omega
    have h9 : i = 9 → x ≤ 1 := by
      rintro rfl
      rcases Nat.lt_or_ge 1 x with z | z
      · have : 2 * 2 ^ (7 * 9) ≤ x * 2 ^ (7 * 9) := Nat.mul_le_mul_right _ z
        have e : 2 ^ (7 * 9) = 9223372036854775808 := rfl
        omega
      · exact z
    by_cases hx : x < 128
    · have ht : (UInt8.ofNat x).toNat = x := by simp; omega
      rw [varint_small hx]
      simp only [List.cons_append, List.nil_append, vrGo, ht]
      rw [if_neg (by omega), if_pos hx, Nat.mod_eq_of_lt hx]
      rfl
    · have ht : (UInt8.ofNat (x % 128 + 128)).toNat = x % 128 + 128 := by simp; omega
      rw [varint_big hx]
      simp only [List.cons_append, vrGo, ht]
      have hi9 : i ≠ 9 := fun z => by have := h9 z; omega
      rw [if_neg (by omega), if_neg (by omega), show (x % 128 + 128) % 128 = x % 128 by omega]
      have hsplit : x * 2 ^ (7 * i) = x % 128 * 2 ^ (7 * i) + x / 128 * (128 * 2 ^ (7 * i)) := by
        rw [← Nat.mul_assoc, ← Nat.add_mul]
        congr 1
        omega
      rw [ih (x / 128) (by omega) rest (.inr (by omega)) (by rw [hpow]; omega) (by omega), hpow]
      simp only [List.length_cons, Prod.mk.injEq, and_true]
      omega

/-- A number ahead of bytes, at most so much; what is behind it. -/
def numD (b : List UInt8) (most : Nat) : Except Int (Nat × List UInt8) :=
  if (vrGo b 0 0).2.2 ≠ 0 then .error (vrGo b 0 0).2.2
  else if most < (vrGo b 0 0).1 then .error 3
  else .ok ((vrGo b 0 0).1, b.drop (vrGo b 0 0).2.1)

def textD (b : List UInt8) (most : Nat) : Except Int (List UInt8 × List UInt8) := match numD b most with
  | .error e => .error e
  | .ok (n, r) => if r.length < n then .error 4 else .ok (r.take n, r.drop n)

def mostD (kind : Nat) : Nat := if kind = 1 then 16384 else 1024

def recD (b : List UInt8) : Except Int (Rec × List UInt8) := match b with
  | [] => .error 4
  | c :: r => if 2 < c.toNat then .error 3 else match numD r 4294967295 with
    | .error e => .error e
    | .ok (f, r1) => match textD r1 1024 with
      | .error e => .error e
      | .ok (key, r2) => if c.toNat = 0 then .ok (⟨f, c.toNat, ⟨key.toArray⟩, empty⟩, r2) else match textD r2 (mostD c.toNat) with
        | .error e => .error e
        | .ok (val, r3) => .ok (⟨f, c.toNat, ⟨key.toArray⟩, ⟨val.toArray⟩⟩, r3)

def recsD : Nat → List UInt8 → Except Int (List Rec × List UInt8)
  | 0, b => .ok ([], b)
  | n + 1, b => match recD b with
    | .error e => .error e
    | .ok (x, r) => match recsD n r with
      | .error e => .error e
      | .ok (l, r') => .ok (x :: l, r')

theorem numD_ok {b : List UInt8} {most n : Nat} {r : List UInt8} (h : numD b most = .ok (n, r)) : b = varint n ++ r ∧ n ≤ most ∧ n < 18446744073709551616 ∧ (vrGo b 0 0).1 = n ∧ r = b.drop (vrGo b 0 0).2.1 ∧ (vrGo b 0 0).2.1 ≤ b.length := by
  unfold numD at h
  split at h
  · cases h
  split at h
  · cases h
  rename_i h1 h2
  have h1 : (vrGo b 0 0).2.2 = 0 := by simpa using h1
  simp only [Except.ok.injEq, Prod.mk.injEq] at h
  obtain ⟨e1, e2⟩ := h
  obtain ⟨x, g1, _, g3, g4, g5, g6, _⟩ := vrGo_some (b := b) (i := 0) (n := 0) (m := (vrGo b 0 0).1) (k := (vrGo b 0 0).2.1) (by rw [← h1]) (by omega) (by omega)
  have hx : x = n := by rw [← e1, g1]; simp
  subst hx
  refine ⟨?_, by omega, by omega, e1, e2.symm, by omega⟩
  rw [← e2, g4]
  conv => lhs; rw [← List.take_append_drop (varint x).length b]
  rw [g5]; simp

theorem numD_enc {n most : Nat} (h1 : n ≤ most) (h2 : n < 18446744073709551616) (r : List UInt8) : numD (varint n ++ r) most = .ok (n, r) := by
  have := vrGo_enc n (i := 0) (n := 0) r (.inl rfl) (by omega) (by omega)
  unfold numD
  rw [this]
  simp
  omega

theorem textD_ok {b : List UInt8} {most : Nat} {t r : List UInt8} (h : textD b most = .ok (t, r)) : b = varint t.length ++ t ++ r ∧ t.length ≤ most := by
  unfold textD at h
  split at h
  · cases h
  rename_i n r' hn
  split at h
  · cases h
  rename_i hl
  simp only [Except.ok.injEq, Prod.mk.injEq] at h
  obtain ⟨rfl, rfl⟩ := h
  obtain ⟨g1, g2, _⟩ := numD_ok hn
  have hl' : (r'.take n).length = n := by simp; omega
  rw [hl', List.append_assoc, List.take_append_drop]
  exact ⟨g1, g2⟩

theorem textD_enc {most : Nat} {t : List UInt8} (h : t.length ≤ most) (hm : most < 18446744073709551616) (r : List UInt8) : textD (varint t.length ++ t ++ r) most = .ok (t, r) := by
  unfold textD
  rw [List.append_assoc, numD_enc h (by omega)]
  simp

theorem bsz (t : List UInt8) : (ByteArray.mk t.toArray).size = t.length := by simp [ByteArray.size]

theorem checkE_zero {r : Rec} (hr : r.Ok) : checkE r = 0 ↔ 0 ≤ r.kind ∧ r.kind ≤ 2 ∧ r.key.size ≤ 1024 ∧ (r.kind = 1 → r.val.size ≤ 16384) ∧ (r.kind = 2 → r.val.size ≤ 1024) := by
  unfold checkE
  constructor
  · intro h
    split at h
    · split at h <;> first | (cases h; done) | skip
      omega
    split at h
    · split at h
      · cases h
      split at h
      · cases h
      omega
    split at h
    · split at h
      · cases h
      split at h
      · cases h
      omega
    · cases h
  · rintro ⟨h1, h2, h3, h4, h5⟩
    have : r.kind = 0 ∨ r.kind = 1 ∨ r.kind = 2 := by omega
    rcases this with e | e | e
    · rw [if_pos e, if_neg (by omega)]
    · rw [if_neg (by omega), if_pos e, if_neg (by omega), if_neg (by have := h4 e; omega)]
    · rw [if_neg (by omega), if_neg (by omega), if_pos e, if_neg (by omega), if_neg (by have := h5 e; omega)]

theorem recD_ok {b : List UInt8} {x : Rec} {r : List UInt8} (h : recD b = .ok (x, r)) : b = encR x ++ r ∧ x.Ok ∧ checkE x = 0 ∧ plainR x = x := by
  unfold recD at h
  split at h
  · cases h
  rename_i c r0
  have hc := c.toNat_lt
  split at h
  · cases h
  rename_i hk
  split at h
  · cases h
  rename_i f r1 hf
  split at h
  · cases h
  rename_i key r2 hkey
  obtain ⟨g1, g2, g3, _⟩ := numD_ok hf
  obtain ⟨k1, k2⟩ := textD_ok hkey
  have hkc : UInt8.ofNat (((c.toNat : Int) % 256).toNat) = c := by
    rw [show ((c.toNat : Int) % 256).toNat = c.toNat by omega]; simp
  split at h
  · rename_i h0
    simp only [Except.ok.injEq, Prod.mk.injEq] at h
    obtain ⟨rfl, rfl⟩ := h
    have ok : Rec.Ok ⟨f, c.toNat, ⟨key.toArray⟩, empty⟩ := ⟨by simp, by show (f : Int) ≤ _; omega, by show _ ≤ (c.toNat : Int); omega, by show (c.toNat : Int) ≤ _; omega⟩
    refine ⟨?_, ok, (checkE_zero ok).2 ⟨by simp, by show (c.toNat : Int) ≤ 2; omega, by rw [bsz]; exact k2, fun z => by have z : (c.toNat : Int) = 1 := z; omega, fun z => by have z : (c.toNat : Int) = 2 := z; omega⟩, ?_⟩
    · unfold encR
      simp only [hkc, bsz]
      rw [if_pos (by omega), g1, k1]
      simp
    · unfold plainR; rw [if_pos (by show (c.toNat : Int) = 0; omega)]
  · rename_i h0
    split at h
    · cases h
    rename_i val r3 hval
    obtain ⟨v1, v2⟩ := textD_ok hval
    simp only [Except.ok.injEq, Prod.mk.injEq] at h
    obtain ⟨rfl, rfl⟩ := h
    have ok : Rec.Ok ⟨f, c.toNat, ⟨key.toArray⟩, ⟨val.toArray⟩⟩ := ⟨by simp, by show (f : Int) ≤ _; omega, by show _ ≤ (c.toNat : Int); omega, by show (c.toNat : Int) ≤ _; omega⟩
    refine ⟨?_, ok, (checkE_zero ok).2 ⟨by simp, by show (c.toNat : Int) ≤ 2; omega, by rw [bsz]; exact k2, fun z => ?_, fun z => ?_⟩, ?_⟩
    · unfold encR
      simp only [hkc, bsz]
      rw [if_neg (by omega), g1, k1, v1]
      simp
    · have z : (c.toNat : Int) = 1 := z
      rw [bsz]
      unfold mostD at v2
      rw [if_pos (by omega)] at v2
      exact v2
    · have z : (c.toNat : Int) = 2 := z
      rw [bsz]
      unfold mostD at v2
      rw [if_neg (by omega)] at v2
      exact v2
    · unfold plainR; rw [if_neg (by show ¬ (c.toNat : Int) = 0; omega)]

theorem recD_enc {x : Rec} (hx : x.Ok) (hc : checkE x = 0) (r : List UInt8) : recD (encR x ++ r) = .ok (plainR x, r) := by
  obtain ⟨h1, h2, h3, h4, h5⟩ := (checkE_zero hx).1 hc
  obtain ⟨fam, kind, key, val⟩ := x
  obtain ⟨f0, f1, _, _⟩ := hx
  simp only at h1 h2 h3 h4 h5 f0 f1
  obtain ⟨f, rfl⟩ := Int.eq_ofNat_of_zero_le f0
  obtain ⟨k, rfl⟩ := Int.eq_ofNat_of_zero_le h1
  have hkn : (UInt8.ofNat ((k : Int) % 256).toNat).toNat = k := by
    rw [show ((k : Int) % 256).toNat = k by omega]; exact u8nat (by omega)
  have hsz : ∀ t : ByteArray, t.size = t.data.toList.length := fun t => by show t.data.size = _; simp
  have hmk : ∀ t : ByteArray, (ByteArray.mk t.data.toList.toArray) = t := fun t => by simp
  unfold encR
  simp only [List.cons_append, recD, hkn]
  rw [if_neg (by omega), List.append_assoc, List.append_assoc, show ((f : Nat) : Int).toNat = f by omega, numD_enc (by omega) (by omega)]
  simp only
  rw [hsz key] at h3 ⊢
  have hk2 := textD_enc (most := 1024) h3 (by omega) ((if (k : Int) = 0 then [] else varint val.size ++ val.data.toList) ++ r)
  simp only [List.append_assoc] at hk2 ⊢
  rw [hk2]
  simp only
  by_cases h0 : k = 0
  · subst h0
    simp [plainR, hmk]
  · rw [if_neg h0]
    have hv : val.data.toList.length ≤ mostD k := by
      rw [← hsz]
      unfold mostD
      split
      · exact h4 (by omega)
      · exact h5 (by omega)
    have hm : mostD k < 18446744073709551616 := by unfold mostD; split <;> omega
    have hv2 := textD_enc hv hm r
    rw [if_neg (by omega), hsz val, hv2]
    have : ¬ ((k : Int) = 0) := by omega
    simp [plainR, h0, hmk]

theorem recsD_ok : ∀ {n : Nat} {b : List UInt8} {l : List Rec} {r : List UInt8}, recsD n b = .ok (l, r) → b = l.flatMap encR ++ r ∧ l.length = n ∧ (∀ x ∈ l, x.Ok ∧ checkE x = 0 ∧ plainR x = x)
  | 0, b, l, r, h => by
    simp only [recsD, Except.ok.injEq, Prod.mk.injEq] at h
    obtain ⟨rfl, rfl⟩ := h
    simp
  | n + 1, b, l, r, h => by
    rw [recsD] at h
    split at h
    · cases h
    rename_i x r1 hx
    split at h
    · cases h
    rename_i l' r2 hl
    simp only [Except.ok.injEq, Prod.mk.injEq] at h
    obtain ⟨rfl, rfl⟩ := h
    obtain ⟨g1, g2⟩ := recD_ok hx
    obtain ⟨k1, k2, k3⟩ := recsD_ok hl
    refine ⟨by rw [g1, k1]; simp, by simp [k2], ?_⟩
    intro y hy
    rcases List.mem_cons.1 hy with rfl | hy
    · exact g2
    · exact k3 y hy

theorem recsD_enc : ∀ {l : List Rec} (r : List UInt8), (∀ x ∈ l, x.Ok ∧ checkE x = 0) → recsD l.length (l.flatMap encR ++ r) = .ok (l.map plainR, r)
  | [], r, h => rfl
  | x :: l, r, h => by
    obtain ⟨h1, h2⟩ := h x (List.mem_cons_self ..)
    have ih := recsD_enc (l := l) r fun y hy => h y (List.mem_cons_of_mem _ hy)
    simp only [List.length_cons, recsD, List.flatMap_cons, List.append_assoc, recD_enc h1 h2, ih, List.map_cons]

end Go.V.Ytclffphegfhocaa
