/- This text proves a part of the laws of seat Ytclffphegfhocaa, under no condition: B4i. -/
import Derived.Test.YtclffphegfhocaaFH
set_option linter.unusedVariables false
set_option linter.unusedSimpArgs false
/-! slices.Sort of numbers: patterns are broken; the whole. -/
namespace Go.V.Ytclffphegfhocaa
open Go Go.V

def len8 : ByteArray := ByteArray.mk #[(0 : UInt8), (1 : UInt8), (2 : UInt8), (2 : UInt8), (3 : UInt8), (3 : UInt8), (3 : UInt8), (3 : UInt8), (4 : UInt8), (4 : UInt8), (4 : UInt8), (4 : UInt8), (4 : UInt8), (4 : UInt8), (4 : UInt8), (4 : UInt8), (5 : UInt8), (5 : UInt8), (5 : UInt8), (5 : UInt8), (5 : UInt8), (5 : UInt8), (5 : UInt8), (5 : UInt8), (5 : UInt8), (5 : UInt8), (5 : UInt8), (5 : UInt8), (5 : UInt8), (5 : UInt8), (5 : UInt8), (5 : UInt8), (6 : UInt8), (6 : UInt8), (6 : UInt8), (6 : UInt8), (6 : UInt8), (6 : UInt8), (6 : UInt8), (6 : UInt8), (6 : UInt8), (6 : UInt8), (6 : UInt8), (6 : UInt8), (6 : UInt8), (6 : UInt8), (6 : UInt8), (6 : UInt8), (6 : UInt8), (6 : UInt8), (6 : UInt8), (6 : UInt8), (6 : UInt8), (6 : UInt8), (6 : UInt8), (6 : UInt8), (6 : UInt8), (6 : UInt8), (6 : UInt8), (6 : UInt8), (6 : UInt8), (6 : UInt8), (6 : UInt8), (6 : UInt8), (7 : UInt8), (7 : UInt8), (7 : UInt8), (7 : UInt8), (7 : UInt8), (7 : UInt8), (7 : UInt8), (7 : UInt8), (7 : UInt8), (7 : UInt8), (7 : UInt8), (7 : UInt8), (7 : UInt8), (7 : UInt8), (7 : UInt8), (7 : UInt8), (7 : UInt8), (7 : UInt8), (7 : UInt8), (7 : UInt8), (7 : UInt8), (7 : UInt8), (7 : UInt8), (7 : UInt8), (7 : UInt8), (7 : UInt8), (7 : UInt8), (7 : UInt8), (7 : UInt8), (7 : UInt8), (7 : UInt8), (7 : UInt8), (7 : UInt8), (7 : UInt8), (7 : UInt8), (7 : UInt8), (7 : UInt8), (7 : UInt8), (7 : UInt8), (7 : UInt8), (7 : UInt8), (7 : UInt8), (7 : UInt8), (7 : UInt8), (7 : UInt8), (7 : UInt8), (7 : UInt8), (7 : UInt8), (7 : UInt8), (7 : UInt8), (7 : UInt8), (7 : UInt8), (7 : UInt8), (7 : UInt8), (7 : UInt8), (7 : UInt8), (7 : UInt8), (7 : UInt8), (7 : UInt8), (7 : UInt8), (7 : UInt8), (7 : UInt8), (7 : UInt8), (7 : UInt8), (8 : UInt8), (8 : UInt8), (8 : UInt8), (8 : UInt8), (8 : UInt8), (8 : UInt8), (8 : UInt8), (8 : UInt8), (8 : UInt8), (8 : UInt8), (8 : UInt8), (8 : UInt8), (8 : UInt8), (8 : UInt8), (8 : UInt8), (8 : UInt8), (8 : UInt8), (8 : UInt8), (8 : UInt8), (8 : UInt8), (8 : UInt8), (8 : UInt8), (8 : UInt8), (8 : UInt8), (8 : UInt8), (8 : UInt8), (8 : UInt8), (8 : UInt8), (8 : UInt8), (8 : UInt8), (8 : UInt8), (8 : UInt8), (8 : UInt8), (8 : UInt8), (8 : UInt8), (8 : UInt8), (8 : UInt8), (8 : UInt8), (8 : UInt8), (8 : UInt8), (8 : UInt8), (8 : UInt8), (8 : UInt8), (8 : UInt8), (8 : UInt8), (8 : UInt8), (8 : UInt8), (8 : UInt8), (8 : UInt8), (8 : UInt8), (8 : UInt8), (8 : UInt8), (8 : UInt8), (8 : UInt8), (8 : UInt8), (8 : UInt8), (8 : UInt8), (8 : UInt8), (8 : UInt8), (8 : UInt8), (8 : UInt8), (8 : UInt8), (8 : UInt8), (8 : UInt8), (8 : UInt8), (8 : UInt8), (8 : UInt8), (8 : UInt8), (8 : UInt8), (8 : UInt8), (8 : UInt8), (8 : UInt8), (8 : UInt8), (8 : UInt8), (8 : UInt8), (8 : UInt8), (8 : UInt8), (8 : UInt8), (8 : UInt8), (8 : UInt8), (8 : UInt8), (8 : UInt8), (8 : UInt8), (8 : UInt8), (8 : UInt8), (8 : UInt8), (8 : UInt8), (8 : UInt8), (8 : UInt8), (8 : UInt8), (8 : UInt8), (8 : UInt8), (8 : UInt8), (8 : UInt8), (8 : UInt8), (8 : UInt8), (8 : UInt8), (8 : UInt8), (8 : UInt8), (8 : UInt8), (8 : UInt8), (8 : UInt8), (8 : UInt8), (8 : UInt8), (8 : UInt8), (8 : UInt8), (8 : UInt8), (8 : UInt8), (8 : UInt8), (8 : UInt8), (8 : UInt8), (8 : UInt8), (8 : UInt8), (8 : UInt8), (8 : UInt8), (8 : UInt8), (8 : UInt8), (8 : UInt8), (8 : UInt8), (8 : UInt8), (8 : UInt8), (8 : UInt8), (8 : UInt8), (8 : UInt8), (8 : UInt8), (8 : UInt8), (8 : UInt8), (8 : UInt8)]
set_option maxRecDepth 100000 in
theorem len8_ok : (List.range 256).all (fun y => bt len8 (y : Int) == (Sort.bitsLen y : Int)) = true := by decide +kernel
theorem len8_at {y : Nat} (h : y < 256) : bt len8 (y : Int) = (Sort.bitsLen y : Int) := by
  have := List.all_eq_true.1 len8_ok y (List.mem_range.2 h)
  simpa using this

theorem shr_nat (n k : Nat) (hk : k ≤ 64) : shiftR .u64 (n : Int) (k : Int) = ((n / 2 ^ k : Nat) : Int) := by
  unfold shiftR
  have : min ((k : Int)).toNat (IntKind.bits .u64) = k := by
    have h64 : IntKind.bits .u64 = 64 := rfl
    rw [h64]; omega
  rw [this, Int.fdiv_eq_ediv_of_nonneg _ (by exact Int.pow_nonneg (by decide))]
  simp

/-- bits.Len64. -/
theorem c84 {x : Nat} (hx : x < 18446744073709551616) {h : Heap} {R : Int → Heap → Prop} (k : ∀ L : Nat, L ≤ 64 → (0 < x → 2 ^ L ≤ 2 * x) → R L h) : Call Go.Proofs.Try.prog 84 [.lf (.int .u64 (x : Nat))] h [.one (.int .i64)] R := by
  have fin : ∀ {y c : Nat}, y < 256 → c ≤ 56 → 2 ^ c * y ≤ x → (0 < x → 0 < y) → R (IntKind.wrap .i64 ((c : Int) + IntKind.wrap .i64 (bt len8 (IntKind.wrap .u8 (y : Int))))) h := fun {y c} hy hc hle hpos => by
    have h8 : Sort.bitsLen y ≤ 8 := (Sort.bitsLen_le_iff y 8).2 hy
    rw [wu8 (by omega) (by omega), len8_at hy, wi64 (n := (Sort.bitsLen y : Int)) (by omega) (by omega), wi64 (by omega) (by omega)]
    have := k (c + Sort.bitsLen y) (by omega) fun hx0 => by
      have hy0 := hpos hx0
      have h1 := Sort.two_pow_bitsLen_le hy0
      rw [Nat.pow_add]
      calc 2 ^ c * 2 ^ Sort.bitsLen y ≤ 2 ^ c * (2 * y) := Nat.mul_le_mul_left _ h1
        _ = 2 * (2 ^ c * y) := by rw [← Nat.mul_assoc, Nat.mul_comm (2 ^ c) 2, Nat.mul_assoc]
        _ ≤ 2 * x := Nat.mul_le_mul_left _ hle
    simpa using this
  refine ok84 ⟨fun i n h' => h = h' ∧ ∃ y c : Nat, i = y ∧ n = c ∧ y < 4294967296 ∧ c ≤ 32 ∧ 2 ^ c * y ≤ x ∧ (0 < x → 0 < y), Br.dec (fun hge => ⟨by decide, rfl, ?_⟩) fun hlt => ⟨rfl, x, 0, rfl, rfl, by omega, by omega, by omega, fun h => h⟩, ?_⟩
  · refine ⟨x / 2 ^ 32, 32, shr_nat x 32 (by omega), rfl, by omega, by omega, ?_, fun _ => by omega⟩
    exact Nat.mul_div_le x _
  rintro _ _ _ ⟨rfl, y, c, rfl, rfl, hy, hc, hle, hpos⟩
  refine ⟨fun i n h' => h = h' ∧ ∃ y c : Nat, i = y ∧ n = c ∧ y < 65536 ∧ c ≤ 48 ∧ 2 ^ c * y ≤ x ∧ (0 < x → 0 < y), Br.dec (fun hge => ⟨by decide, rfl, ?_⟩) fun hlt => ⟨rfl, y, c, rfl, rfl, by omega, by omega, hle, hpos⟩, ?_⟩
  · refine ⟨y / 2 ^ 16, c + 16, shr_nat y 16 (by omega), i64 (by omega) (by omega), by omega, by omega, ?_, fun _ => by omega⟩
    rw [Nat.pow_add, Nat.mul_assoc]
    exact Nat.le_trans (Nat.mul_le_mul_left _ (Nat.mul_div_le y _)) hle
  rintro _ _ _ ⟨rfl, y, c, rfl, rfl, hy, hc, hle, hpos⟩
  refine Br.dec (fun hge => ?_) fun hlt => ?_
  · have hs : shiftR .u64 (y : Int) 8 = ((y / 2 ^ 8 : Nat) : Int) := shr_nat y 8 (by omega)
    rw [hs]
    have hw : IntKind.wrap .i64 ((c : Int) + 8) = ((c + 8 : Nat) : Int) := i64 (by omega) (by omega)
    rw [hw]
    have hy2 : y / 2 ^ 8 < 256 := by omega
    have hwy : IntKind.wrap .u8 ((y / 2 ^ 8 : Nat) : Int) = ((y / 2 ^ 8 : Nat) : Int) := wu8 (by omega) (by omega)
    refine ⟨by decide, by rw [hwy]; omega, by rw [hwy]; omega, ?_⟩
    refine fin (c := c + 8) hy2 (by omega) ?_ fun _ => by omega
    rw [Nat.pow_add, Nat.mul_assoc]
    exact Nat.le_trans (Nat.mul_le_mul_left _ (Nat.mul_div_le y _)) hle
  · have hwy : IntKind.wrap .u8 (y : Int) = (y : Int) := wu8 (by omega) (by omega)
    refine ⟨by rw [hwy]; omega, by rw [hwy]; omega, ?_⟩
    exact fin (c := c) (by omega) (by omega) hle hpos

/-- bits.Len. -/
theorem c72 {x : Nat} (hx : x < 18446744073709551616) {h : Heap} {R : Int → Heap → Prop} (k : ∀ L : Nat, L ≤ 64 → (0 < x → 2 ^ L ≤ 2 * x) → R L h) : Call Go.Proofs.Try.prog 72 [.lf (.int .u64 (x : Nat))] h [.one (.int .i64)] R := ok72 (c84 hx k)

/-- nextPowerOfTwo. -/
theorem c86 {x : Nat} (h0 : 0 < x) (hx : x ≤ 4398046511104) {h : Heap} {R : Int → Heap → Prop} (k : ∀ m : Nat, 0 < m → m ≤ 2 * x → R m h) : Call Go.Proofs.Try.prog 86 [.lf (.int .i64 (x : Nat))] h [.one (.int .u64)] R := by
  refine ok86 ?_
  unfold vc86
  rw [wu64 (n := (x : Int)) (by omega) (by omega)]
  refine c72 (by omega) fun L hL hp => ⟨by omega, ?_⟩
  have h2 := hp h0
  have hsh : shiftL .u64 1 (L : Int) = ((2 ^ L : Nat) : Int) := by
    unfold shiftL
    have : min ((L : Int)).toNat (IntKind.bits .u64) = L := by
      have h64 : IntKind.bits .u64 = 64 := rfl
      rw [h64]; omega
    rw [this, Int.one_mul]
    have hc : ((2 : Int) ^ L) = ((2 ^ L : Nat) : Int) := by simp
    rw [hc]
    generalize 2 ^ L = P at h2 ⊢
    exact wu64 (by omega) (by omega)
  rw [hsh]
  exact k _ (Nat.pow_pos (by decide)) h2

theorem and_le {x : Int} {m : Nat} (hm : m < 18446744073709551616) : ∃ r : Nat, bitop .u64 .and x (m : Int) = (r : Int) ∧ r ≤ m := by
  have hlt : (BitVec.ofInt 64 x &&& BitVec.ofInt 64 (m : Int)).toNat ≤ m := by
    rw [BitVec.toNat_and]
    have : (BitVec.ofInt 64 (m : Int)).toNat = m := by simp; omega
    rw [this]
    exact Nat.and_le_right
  refine ⟨_, ?_, hlt⟩
  show IntKind.wrap .u64 ((BitVec.ofInt 64 x &&& BitVec.ofInt 64 (m : Int)).toNat : Int) = _
  exact wu64 (by omega) (by omega)

/-- xorshift's next: some number. -/
theorem c87 {h : Heap} {x : Nat} {n : Int} (hx : Blk h x 114 [.int .u64 n]) {R : Int → Heap → Prop} (k : ∀ h' r, Blk h' x 114 [.int .u64 r] → Ext (fun y => y = x) h h' → R r h') :
    Call Go.Proofs.Try.prog 87 [.lf (.ptr (some (x, 0)))] h [.one (.int .u64)] R :=
  ok87 (NilC.mk rfl ⟨n, hx.cell rfl, NilC.mk rfl ⟨n, hx.cell rfl, by decide, NilC.mk rfl (StC.one hx (by simp) fun h8 hs8 k8 e8 =>
    NilC.mk rfl ⟨_, k8.cell rfl, NilC.mk rfl ⟨_, k8.cell rfl, by decide, NilC.mk rfl (StC.one k8 (by simp) fun h17 hs17 k17 e17 =>
    NilC.mk rfl ⟨_, k17.cell rfl, NilC.mk rfl ⟨_, k17.cell rfl, by decide, NilC.mk rfl (StC.one k17 (by simp) fun h26 hs26 k26 e26 =>
    NilC.mk rfl ⟨_, k26.cell rfl, k h26 _ k26 ((e8.trans e17).trans e26)⟩)⟩⟩)⟩⟩)⟩⟩)

/-- breakPatterns: some permutation. -/
theorem c76 {h : Heap} {s : Slc} {d : Array Int} (u : US h s d) {a b : Nat} (hb : b ≤ d.size) (hab : a + 12 < b) {R : Heap → Prop} (k : ∀ h' e, US h' s e → Sort.PermIn a b d e → Ext (inS s) h h' → R h') :
    Call Go.Proofs.Try.prog 76 [.lf (.slc s), .lf (.int .i64 a), .lf (.int .i64 b)] h [] R := by
  have hsz := u.sz
  obtain ⟨l, hl⟩ : ∃ l, b - a = l := ⟨_, rfl⟩
  have wl : IntKind.wrap .i64 ((b : Int) - (a : Int)) = (l : Int) := i64 (by omega) (by omega)
  have wd : Int.tdiv (l : Int) 4 = ((l / 4 : Nat) : Int) := by rw [Int.tdiv_eq_ediv_of_nonneg (by omega)]; rfl
  have wd1 : IntKind.wrap .i64 ((l / 4 : Nat) : Int) = ((l / 4 : Nat) : Int) := i64 rfl (by omega)
  have wm2 : IntKind.wrap .i64 (((l / 4 : Nat) : Int) * 2) = ((l / 4 * 2 : Nat) : Int) := i64 (by simp) (by omega)
  have wa2 : IntKind.wrap .i64 ((a : Int) + ((l / 4 * 2 : Nat) : Int)) = ((a + l / 4 * 2 : Nat) : Int) := i64 (by omega) (by omega)
  have wa3 : IntKind.wrap .i64 (((a + l / 4 * 2 : Nat) : Int) - 1) = ((a + l / 4 * 2 - 1 : Nat) : Int) := i64 (by omega) (by omega)
  have wa4 : IntKind.wrap .i64 (((a + l / 4 * 2 : Nat) : Int) + 1) = ((a + l / 4 * 2 + 1 : Nat) : Int) := i64 (by omega) (by omega)
  refine ok76 ?_
  unfold vc76
  simp only [wl, wd, wd1, wm2, wa2, wa3, wa4]
  have hL1 : 4 * (l / 4) ≤ l := Nat.mul_div_le l 4
  have hL2 : 3 ≤ l / 4 := by omega
  clear wl wd wd1 wm2 wa2 wa3 wa4
  generalize l / 4 = L at *
  refine Br.dec (fun _ => ?_) fun hn => by omega
  refine New.mk fun x h1 hx hs1 e1 k1 => StC.one k1 (by simp) fun h2 hs2 k2 e2 => ?_
  have hx0 : h.size ≤ x := by omega
  have hxs : ¬ inS s x := fun hin => by have := u.lt x hin; omega
  have u2 := (u.ext0 e1).ext e2 fun b hb he => hxs (he ▸ hb)
  have e02 : Ext0 h h2 := e1.tmp e2 hx0
  refine c86 (by omega) (by omega) fun m hm0 hm => ⟨by decide, ?_⟩
  have wmm : IntKind.wrap .u64 ((m : Int) - 1) = ((m - 1 : Nat) : Int) := by rw [wu64 (by omega) (by omega)]; omega
  simp only [wmm]
  refine ⟨fun i h' t => ∃ (q : Nat) (e : Array Int) (r : Int), i = q ∧ a + L * 2 - 1 ≤ q ∧ q ≤ a + L * 2 + 2 ∧ t = a + L * 2 + 2 - q ∧ US h' s e ∧ Blk h' x 114 [.int .u64 r] ∧ Sort.PermIn a b d e ∧ Ext (inS s) h h', ⟨_, _, d, _, rfl, Nat.le_refl _, by omega, rfl, u2, k2, Sort.permIn_refl d a b, e02.of0⟩, ?_⟩
  rintro _ h8 _ ⟨q, e, r, rfl, hq1, hq2, rfl, u8, k8, p8, x8⟩
  have hes : e.size = d.size := p8.1
  refine ⟨by decide, Br.dec (fun hle => ?_) fun hgt => k h8 e u8 p8 x8⟩
  refine c87 k8 fun h11 r' k11 e11 => ?_
  have u11 := u8.ext e11 fun b hb he => hxs (he ▸ hb)
  have x11 : Ext (inS s) h h11 := x8.trans' e11 fun i hi he => by have he : i = x := he; omega
  obtain ⟨w, hw, hwm⟩ := and_le (x := r') (m := m - 1) (by omega)
  rw [hw]
  have hww : IntKind.wrap .i64 (w : Int) = (w : Int) := i64 rfl (by omega)
  simp only [hww]
  refine ⟨fun i h' => h11 = h' ∧ ∃ z : Nat, i = z ∧ z < l, Br.dec (fun hge => ⟨rfl, w - l, i64 (by omega) (by omega), by omega⟩) fun hlt => ⟨rfl, w, rfl, by omega⟩, ?_⟩
  rintro _ _ ⟨rfl, z, rfl, hz⟩
  have hwz : IntKind.wrap .i64 ((a : Int) + (z : Int)) = ((a + z : Nat) : Int) := i64 (by omega) (by omega)
  simp only [hwz]
  refine u11.swap (p := a + z) (q := q) rfl rfl (by omega) (by omega) fun h26 hs26 u26 x26 => ⟨a + L * 2 + 2 - (q + 1), by omega, q + 1, _, r', i64 (by omega) (by omega), by omega, by omega, rfl, u26, k11.ext x26 hxs, ?_, x11.trans x26⟩
  exact Sort.permIn_trans d e _ a b p8 (Sort.swp_permIn e a b q (a + z) (by omega) (by omega) (by omega) (by omega) (by omega))

end Go.V.Ytclffphegfhocaa
