/- This text proves a part of the laws of seat Yteojmnnobmpdiaa, under no condition: S12d S12e. -/
import Derived.Test.YteojmnnobmpdiaaSH
import Derived.Test.YteojmnnobmpdiaaSE
set_option linter.unusedVariables false
set_option linter.unusedSimpArgs false
/-! slices.Sort of numbers: patterns are broken; the whole. -/
namespace Go.V.Yteojmnnobmpdiaa
open Go Go.V

def len8 : ByteArray := ByteArray.mk #[(0 : UInt8), (1 : UInt8), (2 : UInt8), (2 : UInt8), (3 : UInt8), (3 : UInt8), (3 : UInt8), (3 : UInt8), (4 : UInt8), (4 : UInt8), (4 : UInt8), (4 : UInt8), (4 : UInt8), (4 : UInt8), (4 : UInt8), (4 : UInt8), (5 : UInt8), (5 : UInt8), (5 : UInt8), (5 : UInt8), (5 : UInt8), (5 : UInt8), (5 : UInt8), (5 : UInt8), (5 : UInt8), (5 : UInt8), (5 : UInt8), (5 : UInt8), (5 : UInt8), (5 : UInt8), (5 : UInt8), (5 : UInt8), (6 : UInt8), (6 : UInt8), (6 : UInt8), (6 : UInt8), (6 : UInt8), (6 : UInt8), (6 : UInt8), (6 : UInt8), (6 : UInt8), (6 : UInt8), (6 : UInt8), (6 : UInt8), (6 : UInt8), (6 : UInt8), (6 : UInt8), (6 : UInt8), (6 : UInt8), (6 : UInt8), (6 : UInt8), (6 : UInt8), (6 : UInt8), (6 : UInt8), (6 : UInt8), (6 : UInt8), (6 : UInt8), (6 : UInt8), (6 : UInt8), (6 : UInt8), (6 : UInt8), (6 : UInt8), (6 : UInt8), (6 : UInt8), (7 : UInt8), (7 : UInt8), (7 : UInt8), (7 : UInt8), (7 : UInt8), (7 : UInt8), (7 : UInt8), (7 : UInt8), (7 : UInt8), (7 : UInt8), (7 : UInt8), (7 : UInt8), (7 : UInt8), (7 : UInt8), (7 : UInt8), (7 : UInt8), (7 : UInt8), (7 : UInt8), (7 : UInt8), (7 : UInt8), (7 : UInt8), (7 : UInt8), (7 : UInt8), (7 : UInt8), (7 : UInt8), (7 : UInt8), (7 : UInt8), (7 : UInt8), (7 : UInt8), (7 : UInt8), (7 : UInt8), (7 : UInt8), (7 : UInt8), (7 : UInt8), (7 : UInt8), (7 : UInt8), (7 : UInt8), (7 : UInt8), (7 : UInt8), (7 : UInt8), (7 : UInt8), (7 : UInt8), (7 : UInt8), (7 : UInt8), (7 : UInt8), (7 : UInt8), (7 : UInt8), (7 : UInt8), (7 : UInt8), (7 : UInt8), (7 : UInt8), (7 : UInt8), (7 : UInt8), (7 : UInt8), (7 : UInt8), (7 : UInt8), (7 : UInt8), (7 : UInt8), (7 : UInt8), (7 : UInt8), (7 : UInt8), (7 : UInt8), (7 : UInt8), (7 : UInt8), (8 : UInt8), (8 : UInt8), (8 : UInt8), (8 : UInt8), (8 : UInt8), (8 : UInt8), (8 : UInt8), (8 : UInt8), (8 : UInt8), (8 : UInt8), (8 : UInt8), (8 : UInt8), (8 : UInt8), (8 : UInt8), (8 : UInt8), (8 : UInt8), (8 : UInt8), (8 : UInt8), (8 : UInt8), (8 : UInt8), (8 : UInt8), (8 : UInt8), (8 : UInt8), (8 : UInt8), (8 : UInt8), (8 : UInt8), (8 : UInt8), (8 : UInt8), (8 : UInt8), (8 : UInt8), (8 : UInt8), (8 : UInt8), (8 : UInt8), (8 : UInt8), (8 : UInt8), (8 : UInt8), (8 : UInt8), (8 : UInt8), (8 : UInt8), (8 : UInt8), (8 : UInt8), (8 : UInt8), (8 : UInt8), (8 : UInt8), (8 : UInt8), (8 : UInt8), (8 : UInt8), (8 : UInt8), (8 : UInt8), (8 : UInt8), (8 : UInt8), (8 : UInt8), (8 : UInt8), (8 : UInt8), (8 : UInt8), (8 : UInt8), (8 : UInt8), (8 : UInt8), (8 : UInt8), (8 : UInt8), (8 : UInt8), (8 : UInt8), (8 : UInt8), (8 : UInt8), (8 : UInt8), (8 : UInt8), (8 : UInt8), (8 : UInt8), (8 : UInt8), (8 : UInt8), (8 : UInt8), (8 : UInt8), (8 : UInt8), (8 : UInt8), (8 : UInt8), (8 : UInt8), (8 : UInt8), (8 : UInt8), (8 : UInt8), (8 : UInt8), (8 : UInt8), (8 : UInt8), (8 : UInt8), (8 : UInt8), (8 : UInt8), (8 : UInt8), (8 : UInt8), (8 : UInt8), (8 : UInt8), (8 : UInt8), (8 : UInt8), (8 : UInt8), (8 : UInt8), (8 : UInt8), (8 : UInt8), (8 : UInt8), (8 : UInt8), (8 : UInt8), (8 : UInt8), (8 : UInt8), (8 : UInt8), (8 : UInt8), (8 : UInt8), (8 : UInt8), (8 : UInt8), (8 : UInt8), (8 : UInt8), (8 : UInt8), (8 : UInt8), (8 : UInt8), (8 : UInt8), (8 : UInt8), (8 : UInt8), (8 : UInt8), (8 : UInt8), (8 : UInt8), (8 : UInt8), (8 : UInt8), (8 : UInt8), (8 : UInt8), (8 : UInt8), (8 : UInt8), (8 : UInt8), (8 : UInt8), (8 : UInt8), (8 : UInt8), (8 : UInt8), (8 : UInt8)]
set_option maxRecDepth 100000 in
theorem len8_ok : (List.range 256).all (fun y => bt len8 (y : Int) == (Sort.bitsLen y : Int)) = true := by decide +kernel
theorem len8_at {y : Nat} (h : y < 256) : bt len8 (y : Int) = (Sort.bitsLen y : Int) := by
  have := List.all_eq_true.1 len8_ok y (List.mem_range.2 h)
  simpa using this

theorem shr_nat (n k : Nat) (hk : k ≤ 64) : shiftR .u64 (n : Int) (k : Int) = ((n / 2 ^ k : Nat) : Int) := by
  unfold shiftR
  have : min ((k : Int)).toNat (IntKind.bits .u64) = k := by
    have h64 : IntKind.bits .u64 = 64 := rfl
    rw [h64]; omega
  rw [this, Int.fdiv_eq_ediv_of_nonneg _ (by exact Int.pow_nonneg (by decide))]
  simp

/-- bits.Len64. -/
theorem c154 {x : Nat} (hx : x < 18446744073709551616) {h : Heap} {R : Int → Heap → Prop} (k : ∀ L : Nat, L ≤ 64 → (0 < x → 2 ^ L ≤ 2 * x) → R L h) : Call Go.Proofs.Try.prog 154 [.lf (.int .u64 (x : Nat))] h [.one (.int .i64)] R := by
  have fin : ∀ {y c : Nat}, y < 256 → c ≤ 56 → 2 ^ c * y ≤ x → (0 < x → 0 < y) → R (IntKind.wrap .i64 ((c : Int) + IntKind.wrap .i64 (bt len8 (IntKind.wrap .u8 (y : Int))))) h := fun {y c} hy hc hle hpos => by
    have h8 : Sort.bitsLen y ≤ 8 := (Sort.bitsLen_le_iff y 8).2 hy
    rw [wu8 (by omega) (by omega), len8_at hy, wi64 (n := (Sort.bitsLen y : Int)) (by omega) (by omega), wi64 (by omega) (by omega)]
    have := k (c + Sort.bitsLen y) (by omega) fun hx0 => by
      have hy0 := hpos hx0
      have h1 := Sort.two_pow_bitsLen_le hy0
      rw [Nat.pow_add]
      calc 2 ^ c * 2 ^ Sort.bitsLen y ≤ 2 ^ c * (2 * y) := Nat.mul_le_mul_left _ h1
        _ = 2 * (2 ^ c * y) := by rw [← Nat.mul_assoc, Nat.mul_comm (2 ^ c) 2, Nat.mul_assoc]
        _ ≤ 2 * x := Nat.mul_le_mul_left _ hle
    simpa using this
  refine ok154 ⟨fun i n h' => h = h' ∧ ∃ y c : Nat, i = y ∧ n = c ∧ y < 4294967296 ∧ c ≤ 32 ∧ 2 ^ c * y ≤ x ∧ (0 < x → 0 < y), Br.dec (fun hge => ⟨by decide, rfl, ?_⟩) fun hlt => ⟨rfl, x, 0, rfl, rfl, by omega, by omega, by omega, fun h => h⟩, ?_⟩
  · refine ⟨x / 2 ^ 32, 32, shr_nat x 32 (by omega), rfl, by omega, by omega, ?_, fun _ => by omega⟩
    exact Nat.mul_div_le x _
  rintro _ _ _ ⟨rfl, y, c, rfl, rfl, hy, hc, hle, hpos⟩
  refine ⟨fun i n h' => h = h' ∧ ∃ y c : Nat, i = y ∧ n = c ∧ y < 65536 ∧ c ≤ 48 ∧ 2 ^ c * y ≤ x ∧ (0 < x → 0 < y), Br.dec (fun hge => ⟨by decide, rfl, ?_⟩) fun hlt => ⟨rfl, y, c, rfl, rfl, by omega, by omega, hle, hpos⟩, ?_⟩
  · refine ⟨y / 2 ^ 16, c + 16, shr_nat y 16 (by omega), i64 (by omega) (by omega), by omega, by omega, ?_, fun _ => by omega⟩
    rw [Nat.pow_add, Nat.mul_assoc]
    exact Nat.le_trans (Nat.mul_le_mul_left _ (Nat.mul_div_le y _)) hle
  rintro _ _ _ ⟨rfl, y, c, rfl, rfl, hy, hc, hle, hpos⟩
  refine Br.dec (fun hge => ?_) fun hlt => ?_
  · have hs : shiftR .u64 (y : Int) 8 = ((y / 2 ^ 8 : Nat) : Int) := shr_nat y 8 (by omega)
    rw [hs]
    have hw : IntKind.wrap .i64 ((c : Int) + 8) = ((c + 8 : Nat) : Int) := i64 (by omega) (by omega)
    rw [hw]
    have hy2 : y / 2 ^ 8 < 256 := by omega
    have hwy : IntKind.wrap .u8 ((y / 2 ^ 8 : Nat) : Int) = ((y / 2 ^ 8 : Nat) : Int) := wu8 (by omega) (by omega)
    refine ⟨by decide, by rw [hwy]; omega, by rw [hwy]; omega, ?_⟩
    refine fin (c := c + 8) hy2 (by omega) ?_ fun _ => by omega
    rw [Nat.pow_add, Nat.mul_assoc]
    exact Nat.le_trans (Nat.mul_le_mul_left _ (Nat.mul_div_le y _)) hle
  · have hwy : IntKind.wrap .u8 (y : Int) = (y : Int) := wu8 (by omega) (by omega)
    refine ⟨by rw [hwy]; omega, by rw [hwy]; omega, ?_⟩
    exact fin (c := c) (by omega) (by omega) hle hpos

/-- bits.Len. -/
theorem c127 {x : Nat} (hx : x < 18446744073709551616) {h : Heap} {R : Int → Heap → Prop} (k : ∀ L : Nat, L ≤ 64 → (0 < x → 2 ^ L ≤ 2 * x) → R L h) : Call Go.Proofs.Try.prog 127 [.lf (.int .u64 (x : Nat))] h [.one (.int .i64)] R := ok127 (c154 hx k)

/-- nextPowerOfTwo. -/
theorem c165 {x : Nat} (h0 : 0 < x) (hx : x ≤ 4398046511104) {h : Heap} {R : Int → Heap → Prop} (k : ∀ m : Nat, 0 < m → m ≤ 2 * x → R m h) : Call Go.Proofs.Try.prog 165 [.lf (.int .i64 (x : Nat))] h [.one (.int .u64)] R := by
  refine ok165 ?_
  unfold vc165
  rw [wu64 (n := (x : Int)) (by omega) (by omega)]
  refine c127 (by omega) fun L hL hp => ⟨by omega, ?_⟩
  have h2 := hp h0
  have hsh : shiftL .u64 1 (L : Int) = ((2 ^ L : Nat) : Int) := by
    unfold shiftL
    have : min ((L : Int)).toNat (IntKind.bits .u64) = L := by
      have h64 : IntKind.bits .u64 = 64 := rfl
      rw [h64]; omega
    rw [this, Int.one_mul]
    have hc : ((2 : Int) ^ L) = ((2 ^ L : Nat) : Int) := by simp
    rw [hc]
    generalize 2 ^ L = P at h2 ⊢
    exact wu64 (by omega) (by omega)
  rw [hsh]
  exact k _ (Nat.pow_pos (by decide)) h2

theorem and_le {x : Int} {m : Nat} (hm : m < 18446744073709551616) : ∃ r : Nat, bitop .u64 .and x (m : Int) = (r : Int) ∧ r ≤ m := by
  have hlt : (BitVec.ofInt 64 x &&& BitVec.ofInt 64 (m : Int)).toNat ≤ m := by
    rw [BitVec.toNat_and]
    have : (BitVec.ofInt 64 (m : Int)).toNat = m := by simp; omega
    rw [this]
    exact Nat.and_le_right
  refine ⟨_, ?_, hlt⟩
  show IntKind.wrap .u64 ((BitVec.ofInt 64 x &&& BitVec.ofInt 64 (m : Int)).toNat : Int) = _
  exact wu64 (by omega) (by omega)

/-- xorshift's next: some number. -/
theorem c166 {h : Heap} {x : Nat} {n : Int} (hx : Blk h x 224 [.int .u64 n]) {R : Int → Heap → Prop} (k : ∀ h' r, Blk h' x 224 [.int .u64 r] → Ext (fun y => y = x) h h' → R r h') :
    Call Go.Proofs.Try.prog 166 [.lf (.ptr (some (x, 0)))] h [.one (.int .u64)] R :=
  ok166 (NilC.mk rfl ⟨n, hx.cell rfl, NilC.mk rfl ⟨n, hx.cell rfl, by decide, NilC.mk rfl (StC.one hx (by simp) fun h8 hs8 k8 e8 =>
    NilC.mk rfl ⟨_, k8.cell rfl, NilC.mk rfl ⟨_, k8.cell rfl, by decide, NilC.mk rfl (StC.one k8 (by simp) fun h17 hs17 k17 e17 =>
    NilC.mk rfl ⟨_, k17.cell rfl, NilC.mk rfl ⟨_, k17.cell rfl, by decide, NilC.mk rfl (StC.one k17 (by simp) fun h26 hs26 k26 e26 =>
    NilC.mk rfl ⟨_, k26.cell rfl, k h26 _ k26 ((e8.trans e17).trans e26)⟩)⟩⟩)⟩⟩)⟩⟩)

/-- breakPatterns: some permutation. -/
theorem c146 {h : Heap} {s : Slc} {d : Array Int} (u : US h s d) {a b : Nat} (hb : b ≤ d.size) (hab : a + 12 < b) {R : Heap → Prop} (k : ∀ h' e, US h' s e → Sort.PermIn a b d e → Ext (inS s) h h' → R h') :
    Call Go.Proofs.Try.prog 146 [.lf (.slc s), .lf (.int .i64 a), .lf (.int .i64 b)] h [] R := by
  have hsz := u.sz
  obtain ⟨l, hl⟩ : ∃ l, b - a = l := ⟨_, rfl⟩
  have wl : IntKind.wrap .i64 ((b : Int) - (a : Int)) = (l : Int) := i64 (by omega) (by omega)
  have wd : Int.tdiv (l : Int) 4 = ((l / 4 : Nat) : Int) := by rw [Int.tdiv_eq_ediv_of_nonneg (by omega)]; rfl
  have wd1 : IntKind.wrap .i64 ((l / 4 : Nat) : Int) = ((l / 4 : Nat) : Int) := i64 rfl (by omega)
  have wm2 : IntKind.wrap .i64 (((l / 4 : Nat) : Int) * 2) = ((l / 4 * 2 : Nat) : Int) := i64 (by simp) (by omega)
  have wa2 : IntKind.wrap .i64 ((a : Int) + ((l / 4 * 2 : Nat) : Int)) = ((a + l / 4 * 2 : Nat) : Int) := i64 (by omega) (by omega)
  have wa3 : IntKind.wrap .i64 (((a + l / 4 * 2 : Nat) : Int) - 1) = ((a + l / 4 * 2 - 1 : Nat) : Int) := i64 (by omega) (by omega)
  have wa4 : IntKind.wrap .i64 (((a + l / 4 * 2 : Nat) : Int) + 1) = ((a + l / 4 * 2 + 1 : Nat) : Int) := i64 (by omega) (by omega)
  refine ok146 ?_
  unfold vc146
  simp only [wl, wd, wd1, wm2, wa2, wa3, wa4]
  have hL1 : 4 * (l / 4) ≤ l := Nat.mul_div_le l 4
  have hL2 : 3 ≤ l / 4 := by omega
  clear wl wd wd1 wm2 wa2 wa3 wa4
  generalize l / 4 = L at *
  refine Br.dec (fun _ => ?_) fun hn => by omega
  refine New.mk fun x h1 hx hs1 e1 k1 => StC.one k1 (by simp) fun h2 hs2 k2 e2 => ?_
  have hx0 : h.size ≤ x := by omega
  have hxs : ¬ inS s x := fun hin => by have := u.lt x hin; omega
  have u2 := (u.ext0 e1).ext e2 fun b hb he => hxs (he ▸ hb)
  have e02 : Ext0 h h2 := e1.tmp e2 hx0
  refine c165 (by omega) (by omega) fun m hm0 hm => ⟨by decide, ?_⟩
  have wmm : IntKind.wrap .u64 ((m : Int) - 1) = ((m - 1 : Nat) : Int) := by rw [wu64 (by omega) (by omega)]; omega
  simp only [wmm]
  refine ⟨fun i h' t => ∃ (q : Nat) (e : Array Int) (r : Int), i = q ∧ a + L * 2 - 1 ≤ q ∧ q ≤ a + L * 2 + 2 ∧ t = a + L * 2 + 2 - q ∧ US h' s e ∧ Blk h' x 224 [.int .u64 r] ∧ Sort.PermIn a b d e ∧ Ext (inS s) h h', ⟨_, _, d, _, rfl, Nat.le_refl _, by omega, rfl, u2, k2, Sort.permIn_refl d a b, e02.of0⟩, ?_⟩
  rintro _ h8 _ ⟨q, e, r, rfl, hq1, hq2, rfl, u8, k8, p8, x8⟩
  have hes : e.size = d.size := p8.1
  refine ⟨by decide, Br.dec (fun hle => ?_) fun hgt => k h8 e u8 p8 x8⟩
  refine c166 k8 fun h11 r' k11 e11 => ?_
  have u11 := u8.ext e11 fun b hb he => hxs (he ▸ hb)
  have x11 : Ext (inS s) h h11 := x8.trans' e11 fun i hi he => by have he : i = x := he; omega
  obtain ⟨w, hw, hwm⟩ := and_le (x := r') (m := m - 1) (by omega)
  rw [hw]
  have hww : IntKind.wrap .i64 (w : Int) = (w : Int) := i64 rfl (by omega)
  simp only [hww]
  refine ⟨fun i h' => h11 = h' ∧ ∃ z : Nat, i = z ∧ z < l, Br.dec (fun hge => ⟨rfl, w - l, i64 (by omega) (by omega), by omega⟩) fun hlt => ⟨rfl, w, rfl, by omega⟩, ?_⟩
  rintro _ _ ⟨rfl, z, rfl, hz⟩
  have hwz : IntKind.wrap .i64 ((a : Int) + (z : Int)) = ((a + z : Nat) : Int) := i64 (by omega) (by omega)
  simp only [hwz]
  refine u11.swap (p := a + z) (q := q) rfl rfl (by omega) (by omega) fun h26 hs26 u26 x26 => ⟨a + L * 2 + 2 - (q + 1), by omega, q + 1, _, r', i64 (by omega) (by omega), by omega, by omega, rfl, u26, k11.ext x26 hxs, ?_, x11.trans x26⟩
  exact Sort.permIn_trans d e _ a b p8 (Sort.swp_permIn e a b q (a + z) (by omega) (by omega) (by omega) (by omega) (by omega))

end Go.V.Yteojmnnobmpdiaa
set_option linter.unusedVariables false
set_option linter.unusedSimpArgs false
/-! slices.Sort of numbers. -/
namespace Go.V.Yteojmnnobmpdiaa
open Go Go.V

theorem swo : Sort.SWO Sort.ltInt := Sort.swo_ltInt

/-- **pdqsort.** -/
theorem c126 : ∀ (N : Nat) {h : Heap} {s : Slc} {d : Array Int} {a b : Nat} {lim : Int}, b - a ≤ N → US h s d → a ≤ b → b ≤ d.size → Sort.Below Sort.ltInt a b d → -9223372036854775808 ≤ lim → lim ≤ 9223372036854775807 → ∀ {R : Heap → Prop},
    (∀ h' e, US h' s e → Sort.PermIn a b d e → Sort.SortedIn Sort.ltInt a b e → Ext (inS s) h h' → R h') →
    Call Go.Proofs.Try.prog 126 [.lf (.slc s), .lf (.int .i64 a), .lf (.int .i64 b), .lf (.int .i64 lim)] h [] R := by
  intro N
  induction N using Nat.strongRecOn with
  | ind N ih =>
  intro h s d a b lim hN u hab hb hB hl0 hl1 R k
  have hsz := u.sz
  have wr0 : ∀ n : Int, -9223372036854775808 ≤ IntKind.wrap .i64 n ∧ IntKind.wrap .i64 n ≤ 9223372036854775807 := fun n => by
    rw [IntKind.wrap_i64]; omega
  refine ok126 ⟨fun q r l _ _ h' m => ∃ (a' b' : Nat) (e : Array Int), q = a' ∧ r = b' ∧ a ≤ a' ∧ a' ≤ b' ∧ b' ≤ b ∧ m = b' - a' ∧ -9223372036854775808 ≤ l ∧ l ≤ 9223372036854775807 ∧ US h' s e ∧ e.size = d.size ∧ Sort.Below Sort.ltInt a' b' e ∧
      (∀ f, Sort.PermIn a' b' e f → Sort.SortedIn Sort.ltInt a' b' f → Sort.PermIn a b d f ∧ Sort.SortedIn Sort.ltInt a b f) ∧ Ext (inS s) h h',
    ⟨_, a, b, d, rfl, rfl, Nat.le_refl _, hab, Nat.le_refl _, rfl, hl0, hl1, u, rfl, hB, fun f h1 h2 => ⟨h1, h2⟩, Ext.refl _ _⟩, ?_⟩
  rintro _ _ l wb wp h7 _ ⟨q, r, e, rfl, rfl, haq, hqr, hrb, rfl, hll0, hll1, u7, hes, hB7, glue, x7⟩
  have wrq : IntKind.wrap .i64 ((r : Int) - (q : Int)) = ((r - q : Nat) : Int) := i64 (by omega) (by omega)
  simp only [wrq]
  have fin : ∀ {h' : Heap} {f : Array Int}, US h' s f → Sort.PermIn q r e f → Sort.SortedIn Sort.ltInt q r f → Ext (inS s) h h' → R h' := fun uf hp hso xf => k _ _ uf (glue _ hp hso).1 (glue _ hp hso).2 xf
  refine Br.dec (fun h12 => ?_) fun h12 => Br.eq (fun hl => ?_) fun hl => ?_
  · have sp := Sort.insertionSort_holds (lt := Sort.ltInt) swo e q r hqr (by omega)
    exact c144 u7 (by omega) hqr fun h9 u9 x9 => fin u9 sp.1 sp.2 (x7.trans x9)
  · have sp := Sort.heapSort_holds (lt := Sort.ltInt) swo e q r hqr (by omega)
    exact c145 u7 (by omega) hqr fun h9 u9 x9 => fin u9 sp.1 sp.2 (x7.trans x9)
  have hlen : q + 12 < r := by omega
  refine ⟨fun l' h' => -9223372036854775808 ≤ l' ∧ l' ≤ 9223372036854775807 ∧ ∃ e1, US h' s e1 ∧ Sort.PermIn q r e e1 ∧ Ext (inS s) h h', Br.not (fun _ => c146 u7 (by omega) hlen fun h' e1 u1 p1 x1 => ⟨(wr0 _).1, (wr0 _).2, e1, u1, p1, x7.trans x1⟩) fun _ => ⟨hll0, hll1, e, u7, Sort.permIn_refl e q r, x7⟩, ?_⟩
  rintro l' h14 ⟨hl'0, hl'1, e1, u14, p14, x14⟩
  have h1s : e1.size = d.size := p14.1.trans hes
  refine c147 u14 (by omega) hlen fun pv t h17 hp1 hp2 x17 => ?_
  have u17 := u14.ext0 x17
  have x17' := x14.then0 x17
  refine ⟨fun i t' h' => ∃ (pv : Nat) (e2 : Array Int), i = pv ∧ q ≤ pv ∧ pv < r ∧ US h' s e2 ∧ Sort.PermIn q r e e2 ∧ Ext (inS s) h h', Br.eq (fun _ => c148 u17 (by omega) (by omega) fun h19 u19 x19 => ?_) fun _ => ⟨pv, e1, rfl, hp1, hp2, u17, p14, x17'⟩, ?_⟩
  · have w1 : IntKind.wrap .i64 ((r : Int) - 1) = ((r - 1 : Nat) : Int) := i64 (by omega) (by omega)
    have w2 : IntKind.wrap .i64 ((pv : Int) - (q : Int)) = ((pv - q : Nat) : Int) := i64 (by omega) (by omega)
    rw [w1, w2]
    exact ⟨(r - 1) - (pv - q), _, i64 (by omega) (by omega), by omega, by omega, u19, Sort.permIn_trans _ _ _ q r p14 (Sort.reverseRange_holds e1 q r hqr (by omega)), x17'.trans x19⟩
  rintro _ t' h22 ⟨pv, e2, rfl, hp1, hp2, u22, p22, x22⟩
  have h2s : e2.size = d.size := p22.1.trans hes
  have B22 : Sort.Below Sort.ltInt q r e2 := hB7.perm (by omega) p22
  refine ⟨fun h' => ∃ e3, US h' s e3 ∧ Sort.PermIn q r e e3 ∧ Ext (inS s) h h', ⟨fun _ h' => h22 = h', Br.mk (fun _ => Br.mk (fun _ => rfl) fun _ => rfl) fun _ => rfl, ?_⟩, ?_⟩
  · rintro cc _ rfl
    refine Br.mk (fun _ => c149 u22 (by omega) (by omega) fun h28 u28 x28 => ?_) fun _ => ⟨e2, u22, p22, x22⟩
    have sp := Sort.partialInsertionSort_holds (lt := Sort.ltInt) swo e2 q r (by omega) (by omega) B22
    exact Br.mk (fun ht => fin u28 (Sort.permIn_trans _ _ _ q r p22 sp.1) (sp.2 ht) (x22.trans x28)) fun _ => ⟨_, u28, Sort.permIn_trans _ _ _ q r p22 sp.1, x22.trans x28⟩
  rintro h29 ⟨e3, u29, p29, x29⟩
  have h3s : e3.size = d.size := p29.1.trans hes
  have B29 : Sort.Below Sort.ltInt q r e3 := hB7.perm (by omega) p29
  refine ⟨fun cc h' => h29 = h' ∧ (cc = true → 0 < q ∧ Sort.ltInt e3[q - 1]! e3[pv]! = false), Br.dec (fun hq => ?_) fun hq => ⟨rfl, fun h => by cases h⟩, ?_⟩
  · refine u29.read (k := q - 1) (i64 (by omega) (by omega)) (by omega) fun bb oo hc => ⟨_, hc, u29.read (k := pv) rfl (by omega) fun bb oo hc => ⟨_, hc, c150 ⟨rfl, fun h => ⟨by omega, by simpa using h⟩⟩⟩⟩
  rintro cc _ ⟨rfl, hcc⟩
  refine Br.mk (fun ht => ?_) fun _ => ?_
  · obtain ⟨hq0, hnl⟩ := hcc ht
    obtain ⟨m1, m2, ms, mB, mg⟩ := Sort.round_eq swo (Sort.partitionEqual_holds _) (mid := (Sort.partitionEqual Sort.ltInt e3 q r pv).1) (d4 := (Sort.partitionEqual Sort.ltInt e3 q r pv).2) hq0 hp1 hp2 (by omega) B29 hnl rfl
    exact c151 u29 (by omega) hp1 hp2 fun h42 u42 x42 => ⟨r - (Sort.partitionEqual Sort.ltInt e3 q r pv).1, by omega, _, r, _, rfl, rfl, by omega, m2, hrb, rfl, hl'0, hl'1, u42, by omega, mB, fun f hf hs => glue f (Sort.permIn_trans _ _ _ q r p29 (mg f hf hs).1) (mg f hf hs).2, x29.trans x42⟩
  · refine c152 u29 (by omega) hp1 hp2 fun h46 u46 x46 => ⟨by decide, ?_⟩
    obtain ⟨m1, m2, ms, mBl, mBr, mgl, mgr⟩ := Sort.round_part swo (Sort.partition_holds _) (mid := (Sort.partition Sort.ltInt e3 q r pv).1) (ap := (Sort.partition Sort.ltInt e3 q r pv).2.1) (d4 := (Sort.partition Sort.ltInt e3 q r pv).2.2) hp1 hp2 (by omega) B29 rfl
    generalize (Sort.partition Sort.ltInt e3 q r pv).1 = mid at *
    generalize (Sort.partition Sort.ltInt e3 q r pv).2.1 = ap at *
    generalize (Sort.partition Sort.ltInt e3 q r pv).2.2 = e4 at *
    have w3 : IntKind.wrap .i64 ((mid : Int) - (q : Int)) = ((mid - q : Nat) : Int) := i64 (by omega) (by omega)
    have w4 : IntKind.wrap .i64 ((r : Int) - (mid : Int)) = ((r - mid : Nat) : Int) := i64 (by omega) (by omega)
    have w5 : IntKind.wrap .i64 ((mid : Int) + 1) = ((mid + 1 : Nat) : Int) := i64 (by omega) (by omega)
    simp only [w3, w4, w5]
    refine Br.dec (fun _ => ?_) fun _ => ?_
    · refine ih (mid - q) (by omega) (Nat.le_refl _) u46 m1 (by omega) mBl hl'0 hl'1 fun h47 L u47 pL sL x47 => ?_
      obtain ⟨LB, Lg⟩ := mgl L pL sL
      exact ⟨r - (mid + 1), by omega, mid + 1, r, L, rfl, rfl, by omega, by omega, hrb, rfl, hl'0, hl'1, u47, by have := pL.1; omega, LB, fun f hf hs => glue f (Sort.permIn_trans _ _ _ q r p29 (Lg f hf hs).1) (Lg f hf hs).2, (x29.trans x46).trans x47⟩
    · refine ih (r - (mid + 1)) (by omega) (Nat.le_refl _) u46 (by omega) (by omega) mBr hl'0 hl'1 fun h47 L u47 pL sL x47 => ?_
      obtain ⟨LB, Lg⟩ := mgr L pL sL
      exact ⟨mid - q, by omega, q, mid, L, rfl, rfl, by omega, by omega, by omega, rfl, hl'0, hl'1, u47, by have := pL.1; omega, LB, fun f hf hs => glue f (Sort.permIn_trans _ _ _ q r p29 (Lg f hf hs).1) (Lg f hf hs).2, (x29.trans x46).trans x47⟩

/-- Numbers, rising. -/
def sortI (l : List Int) : List Int := l.mergeSort fun x y => decide (x ≤ y)

/-- slices.Sort: the one rising list. -/
theorem c93 {h : Heap} {s : Slc} {l : List Int} (o : Own 1 uF h s l) (hl : l.length ≤ 4398046511104) {R : Heap → Prop} (k : ∀ h', Own 1 uF h' s (sortI l) → Ext (inS s) h h' → R h') :
    Call Go.Proofs.Try.prog 93 [.lf (.slc s)] h [] R := by
  have u : US h s l.toArray := ⟨by simpa using o, by simpa using hl⟩
  have hlen : s.len = l.length := o.len
  refine ok93 ?_
  unfold vc93
  rw [wu64 (by omega) (by omega), hlen]
  refine c127 (by omega) fun L hL _ => c126 _ (Nat.le_refl _) u (a := 0) (b := l.length) (Nat.zero_le _) (by simp) (.inl rfl) (by omega) (by omega) fun h' e ue pe se xe => k h' ?_ xe
  have hs : e.toList = l.toArray.toList.mergeSort (fun x y => !Sort.ltInt y x) := Sort.sorted_unique_holds (lt := Sort.ltInt) swo (fun x y h1 h2 => by
    simp only [Sort.ltInt, decide_eq_false_iff_not] at h1 h2; omega) l.toArray e (by simpa using pe) (by simpa using se)
  have := ue.own
  rw [hs] at this
  have hf : (fun x y => !Sort.ltInt y x) = fun x y : Int => decide (x ≤ y) := by
    funext x y
    unfold Sort.ltInt
    by_cases hh : x ≤ y
    · have : ¬ y < x := by omega
      simp [hh, this]
    · have : y < x := by omega
      simp [hh, this]
  rw [hf] at this
  exact this

end Go.V.Yteojmnnobmpdiaa
