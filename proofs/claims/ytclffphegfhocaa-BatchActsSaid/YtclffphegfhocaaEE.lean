/- This text proves a part of the laws of seat Ytclffphegfhocaa, under no condition: W5a W5b W5p W5n W5ok. -/
import Derived.Test.YtclffphegfhocaaED
set_option linter.unusedVariables false
set_option linter.unusedSimpArgs false
/-! CRC-32C, by bits and by a table. -/
namespace Go.V.Crc
open Go Go.V

abbrev W32 := BitVec 32
def poly : W32 := 2197175160#32

/-- One bit. -/
def step (v : W32) : W32 := (v >>> 1) ^^^ (if v.getLsbD 0 then poly else 0#32)
def step8 (v : W32) : W32 := step (step (step (step (step (step (step (step v)))))))
def upd (v : W32) (c : UInt8) : W32 := step8 (v ^^^ BitVec.ofNat 32 c.toNat)
def crc (l : List UInt8) : W32 := ~~~ (l.foldl upd 4294967295#32)

theorem step_xor (a b : W32) : step (a ^^^ b) = step a ^^^ step b := by
  unfold step
  rw [BitVec.ushiftRight_xor_distrib, BitVec.getLsbD_xor]
  generalize a >>> 1 = x
  generalize b >>> 1 = y
  cases a.getLsbD 0 <;> cases b.getLsbD 0
  · simp
  · show (x ^^^ y) ^^^ poly = (x ^^^ 0#32) ^^^ (y ^^^ poly)
    rw [BitVec.xor_zero]; ac_rfl
  · show (x ^^^ y) ^^^ poly = (x ^^^ poly) ^^^ (y ^^^ 0#32)
    rw [BitVec.xor_zero]; ac_rfl
  · show (x ^^^ y) ^^^ 0#32 = (x ^^^ poly) ^^^ (y ^^^ poly)
    rw [show (x ^^^ poly) ^^^ (y ^^^ poly) = (x ^^^ y) ^^^ (poly ^^^ poly) by ac_rfl, BitVec.xor_self]

theorem step8_xor (a b : W32) : step8 (a ^^^ b) = step8 a ^^^ step8 b := by
  unfold step8; simp only [step_xor]

theorem step_even {v : W32} (h : v.toNat % 2 = 0) : (step v).toNat = v.toNat / 2 := by
  unfold step
  have : v.getLsbD 0 = false := by
    rw [BitVec.getLsbD, Nat.testBit_zero]
    simp [h]
  rw [this]
  simp [BitVec.toNat_ushiftRight, Nat.shiftRight_eq_div_pow]

theorem step8_high {v : W32} (h : v.toNat % 256 = 0) : (step8 v).toNat = v.toNat / 256 := by
  unfold step8
  have h1 := step_even (v := v) (by omega)
  have h2 := step_even (v := step v) (by omega)
  have h3 := step_even (v := step (step v)) (by omega)
  have h4 := step_even (v := step (step (step v))) (by omega)
  have h5 := step_even (v := step (step (step (step v)))) (by omega)
  have h6 := step_even (v := step (step (step (step (step v))))) (by omega)
  have h7 := step_even (v := step (step (step (step (step (step v)))))) (by omega)
  have h8 := step_even (v := step (step (step (step (step (step (step v))))))) (by omega)
  omega

/-- Eight bits at once. -/
theorem upd_table (r : W32) (c : UInt8) : upd r c = (r >>> 8) ^^^ step8 (BitVec.ofNat 32 ((r.toNat % 256) ^^^ c.toNat)) := by
  unfold upd
  have hc : c.toNat < 256 := c.toNat_lt
  have hr := r.isLt
  have hx : (r.toNat % 256) ^^^ c.toNat < 256 := Nat.xor_lt_two_pow (n := 8) (by omega) (by omega)
  have hsplit : r ^^^ BitVec.ofNat 32 c.toNat = ((r >>> 8) <<< 8) ^^^ BitVec.ofNat 32 ((r.toNat % 256) ^^^ c.toNat) := by
    apply BitVec.eq_of_getLsbD_eq
    intro i hi
    simp only [BitVec.getLsbD_xor, BitVec.getLsbD_ofNat, hi, decide_true, Bool.true_and, BitVec.getLsbD_shiftLeft, BitVec.getLsbD_ushiftRight, Nat.testBit_xor]
    by_cases h8 : i < 8
    · have e : (r.toNat % 256).testBit i = r.getLsbD i := by
        rw [show 256 = 2 ^ 8 from rfl, Nat.testBit_mod_two_pow]
        simp [h8, BitVec.getLsbD]
      rw [e]
      simp [h8]
    · have e1 : (r.toNat % 256).testBit i = false := Nat.testBit_lt_two_pow (Nat.lt_of_lt_of_le (Nat.mod_lt _ (by omega)) (Nat.pow_le_pow_right (n := 2) (by omega) (show 8 ≤ i by omega)))
      have e2 : c.toNat.testBit i = false := Nat.testBit_lt_two_pow (Nat.lt_of_lt_of_le hc (Nat.pow_le_pow_right (n := 2) (by omega) (show 8 ≤ i by omega)))
      rw [e1, e2]
      simp [h8, show 8 + (i - 8) = i by omega]
  rw [hsplit, step8_xor]
  congr 1
  apply BitVec.eq_of_toNat_eq
  have hh : ((r >>> 8) <<< 8).toNat = r.toNat / 256 * 256 := by
    simp only [BitVec.toNat_shiftLeft, BitVec.toNat_ushiftRight, Nat.shiftRight_eq_div_pow, Nat.shiftLeft_eq]
    omega
  rw [step8_high (by omega), hh, BitVec.toNat_ushiftRight, Nat.shiftRight_eq_div_pow]
  omega

/-! ### As the machine has them -/

theorem ofI (a : W32) : BitVec.ofInt 32 (a.toNat : Int) = a := by simp [BitVec.ofInt_natCast]
theorem w32 (a : W32) : IntKind.wrap .u32 (a.toNat : Int) = a.toNat := wu32 (by omega) (by have := a.isLt; omega)
theorem bit_xor (a b : W32) : bitop .u32 .xor (a.toNat : Int) (b.toNat : Int) = ((a ^^^ b).toNat : Int) := by
  show IntKind.wrap .u32 (BitVec.ofInt 32 _ ^^^ BitVec.ofInt 32 _).toNat = _
  rw [ofI, ofI, w32]
theorem bit_and (a b : W32) : bitop .u32 .and (a.toNat : Int) (b.toNat : Int) = ((a &&& b).toNat : Int) := by
  show IntKind.wrap .u32 (BitVec.ofInt 32 _ &&& BitVec.ofInt 32 _).toNat = _
  rw [ofI, ofI, w32]
theorem shr (a : W32) (n : Nat) (h : n ≤ 32) : shiftR .u32 (a.toNat : Int) (n : Int) = ((a >>> n).toNat : Int) := by
  unfold shiftR
  rw [show min (n : Int).toNat (IntKind.bits .u32) = n from by simp [IntKind.bits]; omega, BitVec.toNat_ushiftRight, Nat.shiftRight_eq_div_pow]
  rw [Int.fdiv_eq_ediv_of_nonneg _ (Int.pow_nonneg (by omega))]
  simp

theorem and_one (v : W32) : v &&& 1#32 = if v.getLsbD 0 then 1#32 else 0#32 := by
  apply BitVec.eq_of_getLsbD_eq
  intro i hi
  rw [BitVec.getLsbD_and]
  by_cases h0 : i = 0
  · subst h0; cases v.getLsbD 0 <;> simp
  · have : (1#32 : W32).getLsbD i = false := by
      simp [h0]
    rw [this]
    cases v.getLsbD 0 <;> simp [h0]

theorem step_prog (v : W32) : bitop .u32 .xor (shiftR .u32 (v.toNat : Int) 1) (bitop .u32 .and 2197175160 (IntKind.wrap .u32 (0 - bitop .u32 .and (v.toNat : Int) 1))) = ((step v).toNat : Int) := by
  have h1 : bitop .u32 .and (v.toNat : Int) 1 = ((v &&& 1#32).toNat : Int) := bit_and v 1#32
  have h2 : shiftR .u32 (v.toNat : Int) 1 = ((v >>> 1).toNat : Int) := shr v 1 (by omega)
  have h3 : bitop .u32 .and 2197175160 (IntKind.wrap .u32 (0 - bitop .u32 .and (v.toNat : Int) 1)) = ((if v.getLsbD 0 then poly else 0#32 : W32).toNat : Int) := by
    rw [h1, and_one]
    cases v.getLsbD 0 <;> decide
  rw [h2, h3, bit_xor]
  rfl

theorem step_ref (v : W32) : (bitop .u32 .and (v.toNat : Int) 1 = 1 → bitop .u32 .xor (shiftR .u32 (v.toNat : Int) 1) 2197175160 = ((step v).toNat : Int)) ∧
    (bitop .u32 .and (v.toNat : Int) 1 ≠ 1 → shiftR .u32 (v.toNat : Int) 1 = ((step v).toNat : Int)) := by
  have h1 : bitop .u32 .and (v.toNat : Int) 1 = ((v &&& 1#32).toNat : Int) := bit_and v 1#32
  have h2 : shiftR .u32 (v.toNat : Int) 1 = ((v >>> 1).toNat : Int) := shr v 1 (by omega)
  have h3 : bitop .u32 .xor ((v >>> 1).toNat : Int) 2197175160 = (((v >>> 1) ^^^ poly).toNat : Int) := bit_xor _ poly
  rw [h1, h2, h3, and_one]
  unfold step
  cases v.getLsbD 0 <;> simp

theorem bit_not (v : W32) : bitop .u32 .xor (IntKind.max .u32) (v.toNat : Int) = ((~~~v).toNat : Int) := by
  have h : bitop .u32 .xor (IntKind.max .u32) (v.toNat : Int) = (((4294967295#32 : W32) ^^^ v).toNat : Int) := bit_xor 4294967295#32 v
  rw [h]
  have : (4294967295#32 : W32) ^^^ v = ~~~v := by
    apply BitVec.eq_of_getLsbD_eq
    intro i hi
    rw [BitVec.getLsbD_xor, BitVec.getLsbD_not, show (4294967295#32 : W32) = BitVec.allOnes 32 from rfl, BitVec.getLsbD_allOnes]
    simp [hi]
  rw [this]

theorem byte32 (c : UInt8) : IntKind.wrap .u32 (c.toNat : Int) = ((BitVec.ofNat 32 c.toNat).toNat : Int) := by
  have := c.toNat_lt
  rw [wu32 (by omega) (by omega), BitVec.toNat_ofNat, Nat.mod_eq_of_lt (by omega)]

end Go.V.Crc
set_option linter.unusedVariables false
set_option linter.unusedSimpArgs false
/-! Words about bytes in memory; what is read of a log's bytes. -/
namespace Go.V

def bF (c : UInt8) : List Lf := [.int .u8 (c.toNat : Int)]
theorem bF_sized : Sized 1 bF := fun _ => rfl

namespace Crc
def stepN : Nat → W32 → W32
  | 0, v => v
  | n + 1, v => step (stepN n v)

theorem step8_eq (v : W32) : step8 v = stepN 8 v := rfl
theorem w0 (r : W32) : IntKind.wrap .u8 (r.toNat : Int) = ((r.toNat % 256 : Nat) : Int) := by
  have : IntKind.wrap .u8 (r.toNat : Int) = (r.toNat : Int) % 256 := by
    simp [IntKind.wrap, IntKind.signed, IntKind.bits]
  rw [this]; rfl
theorem bit8_xor {a b : Nat} (ha : a < 256) (hb : b < 256) : bitop .u8 .xor (a : Int) (b : Int) = ((a ^^^ b : Nat) : Int) := by
  show IntKind.wrap .u8 (BitVec.ofInt 8 _ ^^^ BitVec.ofInt 8 _).toNat = _
  have h1 : BitVec.ofInt 8 (a : Int) = BitVec.ofNat 8 a := by simp [BitVec.ofInt_natCast]
  have h2 : BitVec.ofInt 8 (b : Int) = BitVec.ofNat 8 b := by simp [BitVec.ofInt_natCast]
  have hx : a ^^^ b < 256 := Nat.xor_lt_two_pow (n := 8) ha hb
  rw [h1, h2, BitVec.toNat_xor, BitVec.toNat_ofNat, BitVec.toNat_ofNat, Nat.mod_eq_of_lt ha, Nat.mod_eq_of_lt hb]
  have : IntKind.wrap .u8 ((a ^^^ b : Nat) : Int) = ((a ^^^ b : Nat) : Int) % 256 := by
    simp [IntKind.wrap, IntKind.signed, IntKind.bits]
  rw [this]; omega

theorem foldl_snoc (l : List UInt8) (k : Nat) (hk : k < l.length) (v : W32) : (l.take (k + 1)).foldl upd v = upd ((l.take k).foldl upd v) l[k] := by
  rw [List.take_add_one, List.getElem?_eq_getElem hk, List.foldl_append]; rfl
end Crc

/-- A sum, masked. -/
def maskI (n : Int) : Int := IntKind.wrap .u32 (bitop .u32 .or (shiftR .u32 n 15) (shiftL .u32 n 17) + 2726488792)

theorem bitor_comm (k : IntKind) (a b : Int) : bitop k .or a b = bitop k .or b a := by
  show k.wrap _ = k.wrap _
  rw [BitVec.or_comm]

/-- Fixed: the last byte first. -/
def fixI (l : List UInt8) : Int := l.foldr (fun c n => bitop .u64 .or (shiftL .u64 n 8) (c.toNat : Int)) 0

theorem wu64b (c : UInt8) : IntKind.wrap .u64 (c.toNat : Int) = (c.toNat : Int) := wu64 (by omega) (by have := c.toNat_lt; omega)

/-- Bytes in memory, of a slice that has them within its capacity. -/
structure Byt (h : Heap) (s : Slc) (l : List UInt8) : Prop where
  arr : Arr 1 bF h s l
  cap : s.len ≤ s.cap
theorem Byt.ext {S : Nat → Prop} {h h' : Heap} {s : Slc} {l : List UInt8} (a : Byt h s l) (e : Ext S h h') (hs : ∀ b off, s.a = some (b, off) → ¬ S b) : Byt h' s l := ⟨a.arr.ext e fun ⟨b, off, h1, h2⟩ => hs b off h1 h2, a.cap⟩
theorem Byt.ext0 {h h' : Heap} {s : Slc} {l : List UInt8} (a : Byt h s l) (e : Ext0 h h') : Byt h' s l := ⟨a.arr.ext0 e, a.cap⟩
theorem Byt.len {h : Heap} {s : Slc} {l : List UInt8} (a : Byt h s l) : s.len = l.length := a.arr.len
theorem Byt.own {h : Heap} {s : Slc} {l : List UInt8} (o : Own 1 bF h s l) : Byt h s l := ⟨o.arr bF_sized, o.lec⟩
theorem Byt.sub {h : Heap} {s : Slc} {l : List UInt8} (a : Byt h s l) {lo hi : Nat} (h1 : lo ≤ hi) (h2 : hi ≤ l.length) : Byt h (s.sub 1 lo hi s.cap) ((l.take hi).drop lo) := by
  have h3 := a.len
  have h4 := a.cap
  exact ⟨a.arr.sub h1 h2 (by omega), by simp [Slc.sub]; omega⟩
theorem Byt.drop {h : Heap} {s : Slc} {l : List UInt8} (a : Byt h s l) {lo : Nat} (h1 : lo ≤ l.length) : Byt h (s.sub 1 lo s.len s.cap) (l.drop lo) := by
  have := a.sub h1 (Nat.le_refl l.length)
  rw [List.take_length] at this
  rw [a.len]; exact this
theorem Byt.take {h : Heap} {s : Slc} {l : List UInt8} (a : Byt h s l) {n : Nat} (h1 : n ≤ l.length) : Byt h (s.sub 1 0 n s.cap) (l.take n) := by
  have := a.sub (Nat.zero_le n) h1
  rwa [List.drop_zero] at this
theorem sub_inS {s : Slc} {sz lo hi m b off : Nat} (h : (s.sub sz lo hi m).a = some (b, off)) : ∃ off', s.a = some (b, off') := by
  unfold Slc.sub at h
  simp only at h
  split at h
  · exact ⟨_, h⟩
  · cases hs : s.a with
    | none => rw [hs] at h; cases h
    | some p => obtain ⟨b', o⟩ := p; rw [hs] at h; cases h; exact ⟨_, rfl⟩

theorem arr_extN {α : Type} {sz : Nat} {f : α → List Lf} {S : Nat → Prop} {h h' : Heap} {s : Slc} {l : List α} (a : Arr sz f h s l) (e : Ext S h h') (hs : l ≠ [] → ∀ b off, s.a = some (b, off) → ¬ S b) : Arr sz f h' s l := by
  by_cases hl : l = []
  · subst hl
    exact ⟨a.len, a.ne, fun b off hb i x hx => by simp at hx, a.pl⟩
  · exact a.ext e fun ⟨b, off, h1, h2⟩ => hs hl b off h1 h2
theorem arr_lt {h : Heap} {s : Slc} {l : List UInt8} (a : Arr 1 bF h s l) (hl : l ≠ []) {b off : Nat} (hb : s.a = some (b, off)) : b < h.size := by
  obtain ⟨x, m, rfl⟩ := List.exists_cons_of_ne_nil hl
  have := a.at_ b off hb 0 x rfl
  exact this.lt

theorem getB {l : List UInt8} {p : Nat} (h : p < l.length) : l[p]? = some l[p] := List.getElem?_eq_getElem h

def sF (s : Slc) : List Lf := [.slc s]
theorem sF_sized : Sized 1 sF := fun _ => rfl

/-- A row of rows of bytes. -/
structure Rows (h : Heap) (s : Slc) (ls : List (List UInt8)) : Prop where
  ex : ∃ xs : List (Slc × List UInt8), Arr 1 sF h s (xs.map (·.1)) ∧ (∀ x ∈ xs, Byt h x.1 x.2) ∧ xs.map (·.2) = ls
theorem Rows.ext0 {h h' : Heap} {s : Slc} {ls : List (List UInt8)} (r : Rows h s ls) (e : Ext0 h h') : Rows h' s ls := by
  obtain ⟨xs, a, b, c⟩ := r.ex
  exact ⟨xs, a.ext0 e, fun x hx => (b x hx).ext0 e, c⟩
theorem Rows.len {h : Heap} {s : Slc} {ls : List (List UInt8)} (r : Rows h s ls) : s.len = ls.length := by
  obtain ⟨xs, a, b, rfl⟩ := r.ex
  have := a.len
  simpa using this

/-- Rows of bytes that are gathered, one after the other: the row of rows, the row at which one is; what else this call writes. -/
structure RD (h0 hh : Heap) (P : Nat → Prop) (out rcd : Slc) (xs : List (Slc × List UInt8)) (now : List UInt8) : Prop where
  o : Own 1 sF hh out (xs.map (·.1))
  r : Own 1 bF hh rcd now
  el : ∀ x ∈ xs, Byt hh x.1 x.2
  ext : Ext0 h0 hh
  pn : ∀ b, P b → h0.size ≤ b ∧ b < hh.size
  on : ∀ b off, out.a = some (b, off) → h0.size ≤ b ∧ ¬ P b
  rn : ∀ b off, rcd.a = some (b, off) → h0.size ≤ b ∧ ¬ P b ∧ ∀ off', out.a ≠ some (b, off')
  en : ∀ x ∈ xs, ∀ b off, x.1.a = some (b, off) → b < hh.size ∧ ¬ P b ∧ (∀ off', out.a ≠ some (b, off')) ∧ ∀ off', rcd.a ≠ some (b, off')

theorem RD.step {h0 hh h' : Heap} {P S : Nat → Prop} {out rcd : Slc} {xs : List (Slc × List UInt8)} {now : List UInt8} (D : RD h0 hh P out rcd xs now) (e : Ext S hh h') (hs : ∀ b, S b → P b) : RD h0 h' P out rcd xs now :=
  ⟨D.o.ext e fun ⟨b, off, h1, h2⟩ => (D.on b off h1).2 (hs b h2), D.r.ext e fun ⟨b, off, h1, h2⟩ => (D.rn b off h1).2.1 (hs b h2), fun x hx => (D.el x hx).ext e fun b off h1 h2 => (D.en x hx b off h1).2.1 (hs b h2),
    D.ext.trans' e fun i hi z => by have := (D.pn i (hs i z)).1; omega, fun b hb => ⟨(D.pn b hb).1, Nat.lt_of_lt_of_le (D.pn b hb).2 e.size⟩, D.on, D.rn, fun x hx b off h1 => ⟨Nat.lt_of_lt_of_le (D.en x hx b off h1).1 e.size, (D.en x hx b off h1).2⟩⟩

theorem RD.rows {h0 hh : Heap} {P : Nat → Prop} {out rcd : Slc} {xs : List (Slc × List UInt8)} {now : List UInt8} (D : RD h0 hh P out rcd xs now) : Rows hh out (xs.map (·.2)) :=
  ⟨xs, D.o.arr sF_sized, D.el, rfl⟩

/-- Bytes are added to the row at which one is. -/
theorem RD.app {h0 hh : Heap} {P : Nat → Prop} {out rcd : Slc} {xs : List (Slc × List UInt8)} {now : List UInt8} (D : RD h0 hh P out rcd xs now) {x : Slc} {m : List UInt8} (a : Arr 1 bF hh x m)
    (hb : now.length + m.length ≤ 140737488355328) {e : TypeId} {K : Slc → Heap → Prop} (k : ∀ r' h', RD h0 h' P out r' xs (now ++ m) → Ext (fun b => ∃ off, rcd.a = some (b, off)) hh h' → K r' h') :
    AppC e [.int .u8 0] 1 1 rcd x hh K := by
  refine AppC.grow bF_sized (by omega) rfl D.r a (by omega) fun r' h' o' g => k r' h' ?_ g.ext
  have hlt := D.o.lt
  have h00 := D.ext.size
  refine ⟨D.o.ext g.ext fun ⟨b, off, h1, off', h2⟩ => (D.rn b off' h2).2.2 off h1, o', fun y hy => (D.el y hy).ext g.ext fun b off h1 ⟨off', h2⟩ => (D.en y hy b off h1).2.2.2 off' h2,
    D.ext.trans' g.ext fun i hi ⟨off, z⟩ => by have := (D.rn i off z).1; omega, fun b hb => ⟨(D.pn b hb).1, Nat.lt_of_lt_of_le (D.pn b hb).2 g.ext.size⟩, D.on, fun b off hb => ?_, fun y hy b off hb => ?_⟩
  · rcases g.new with n | ⟨b', n, hn⟩
    · rw [n] at hb; exact D.rn b off hb
    · rw [n] at hb; cases hb
      exact ⟨by omega, fun hp => by have := (D.pn _ hp).2; omega, fun off' ho => by have := (hlt _ _ ho).1; omega⟩
  · obtain ⟨h1, h2, h3, h4⟩ := D.en y hy b off hb
    refine ⟨Nat.lt_of_lt_of_le h1 g.ext.size, h2, h3, fun off' ho => ?_⟩
    rcases g.new with n | ⟨b', n, hn⟩
    · rw [n] at ho; exact h4 off' ho
    · rw [n] at ho; cases ho; omega

/-- The row at which one is is put to the others; the next one is begun as nil. -/
theorem RD.push {h0 hh : Heap} {P : Nat → Prop} {out rcd : Slc} {xs : List (Slc × List UInt8)} {now : List UInt8} (D : RD h0 hh P out rcd xs now) (hb : xs.length ≤ 4398046511104) {t e : TypeId} {K : Slc → Heap → Prop}
    (k : ∀ o' h', RD h0 h' P o' ⟨none, 0, 0⟩ (xs ++ [(rcd, now)]) [] → Ext (fun b => ∃ off, out.a = some (b, off)) hh h' → K o' h') :
    New t [.slc rcd] hh fun b h1 => AppC e [.slc ⟨none, 0, 0⟩] 1 24 out ⟨some (b, 0), 1, 1⟩ h1 K := by
  refine New.mk fun b h1 hb0 hs1 e1 k1 => ?_
  have o1 : Own 1 sF h1 ⟨some (b, 0), 1, 1⟩ [rcd] := Own.new (l := [rcd]) sF_sized (by simpa [sF] using k1)
  refine AppC.grow sF_sized (by omega) rfl (D.o.ext0 e1) (o1.arr sF_sized) (by simp; omega) fun o' h' oo g => k o' h' ?_ (e1.of0.trans g.ext)
  have h00 := D.ext.size
  have hrl := D.r.lt
  have g' : Ext (fun b => ∃ off, out.a = some (b, off)) hh h' := e1.of0.trans g.ext
  have hs := g'.size
  have cls : ∀ b' off, o'.a = some (b', off) → (∃ off', out.a = some (b', off')) ∨ hh.size ≤ b' := fun b' off hb' => by
    rcases g.new with n | ⟨b2, n, hn⟩
    · exact .inl ⟨off, by rw [← n]; exact hb'⟩
    · rw [n] at hb'; cases hb'; exact .inr (by omega)
  refine ⟨by simpa using oo, Own.nil _ _ _, fun y hy => ?_, D.ext.trans' g' fun i hi ⟨off, z⟩ => by have := (D.on i off z).1; omega, fun b hb => ⟨(D.pn b hb).1, Nat.lt_of_lt_of_le (D.pn b hb).2 hs⟩, fun b' off hb' => ?_, fun b' off hb' => (by cases hb'), fun y hy b' off hb' => ?_⟩
  · rcases List.mem_append.1 hy with hy | hy
    · exact (D.el y hy).ext g' fun b off h1 ⟨off', h2⟩ => (D.en y hy b off h1).2.2.1 off' h2
    · simp at hy; subst hy
      exact (Byt.own D.r).ext g' fun b off h1 ⟨off', h2⟩ => (D.rn b off h1).2.2 off' h2
  · rcases cls b' off hb' with ⟨off', z⟩ | z
    · exact D.on b' off' z
    · exact ⟨by omega, fun hp => by have := (D.pn b' hp).2; omega⟩
  · rcases List.mem_append.1 hy with hy | hy
    · obtain ⟨h1, h2, h3, h4⟩ := D.en y hy b' off hb'
      refine ⟨by omega, h2, fun off' ho => ?_, fun off' ho => (by cases ho)⟩
      rcases cls b' off' ho with ⟨off2, z⟩ | z
      · exact h3 off2 z
      · omega
    · simp at hy; subst hy
      obtain ⟨h1, h2, h3⟩ := D.rn b' off hb'
      have hlt := (hrl b' off hb').1
      refine ⟨by omega, h2, fun off' ho => ?_, fun off' ho => (by cases ho)⟩
      rcases cls b' off' ho with ⟨off2, z⟩ | z
      · exact h3 off2 z
      · omega

/-- The next row is begun as an empty one of its own. -/
theorem RD.fresh {h0 hh : Heap} {P : Nat → Prop} {out : Slc} {xs : List (Slc × List UInt8)} (D : RD h0 hh P out ⟨none, 0, 0⟩ xs []) {t : TypeId} {b : Nat} {h' : Heap} (hb : b = hh.size) (e : Ext0 hh h') (k : Blk h' b t []) :
    RD h0 h' P out ⟨some (b, 0), 0, 0⟩ xs [] := by
  have h00 := D.ext.size
  have hol := D.o.lt
  have hs := e.size
  refine ⟨D.o.ext0 e, Own.new (l := ([] : List UInt8)) bF_sized k, fun x hx => (D.el x hx).ext0 e, D.ext.trans e, fun b hb => ⟨(D.pn b hb).1, Nat.lt_of_lt_of_le (D.pn b hb).2 hs⟩, D.on, fun b' off hb' => ?_, fun x hx b' off hb' => ?_⟩
  · cases hb'
    exact ⟨by omega, fun hp => by have := (D.pn _ hp).2; omega, fun off' ho => by have := (hol _ _ ho).1; omega⟩
  · obtain ⟨h1, h2, h3, h4⟩ := D.en x hx b' off hb'
    exact ⟨by omega, h2, h3, fun off' ho => by cases ho; omega⟩

def fixedL (x n : Nat) : List UInt8 := (List.range n).map fun i => UInt8.ofNat (x / 256 ^ i)

theorem pow_8 (m : Nat) : (2 : Nat) ^ (8 * m) = 256 ^ m := by rw [Nat.pow_mul]

theorem shrN {x m : Nat} (hm : m ≤ 8) : shiftR .u64 (x : Int) ((8 * m : Nat) : Int) = ((x / 256 ^ m : Nat) : Int) := by
  show Int.fdiv (x : Int) (2 ^ (min (((8 * m : Nat) : Int)).toNat 64)) = _
  rw [Int.toNat_natCast, Nat.min_eq_left (by omega)]
  rw [show ((2 : Int) ^ (8 * m)) = ((256 ^ m : Nat) : Int) by rw [← pow_8]; simp]
  rw [Int.fdiv_eq_ediv_of_nonneg _ (Int.natCast_nonneg _)]
  simp

theorem wu8_nat (n : Nat) : IntKind.wrap .u8 (n : Int) = ((n % 256 : Nat) : Int) := by
  simp [IntKind.wrap, IntKind.bits, IntKind.signed]

theorem lo_byte {n : Nat} : IntKind.wrap .u8 (n : Int) = ((UInt8.ofNat n).toNat : Int) := by
  rw [wu8_nat]; simp

theorem strEq_eq (l m : List UInt8) : strEq ⟨l.toArray⟩ ⟨m.toArray⟩ = decide (l = m) := by
  have e : strEq ⟨l.toArray⟩ ⟨m.toArray⟩ = (l.toArray == m.toArray) := rfl
  rw [e, Bool.eq_iff_iff]
  simp

end Go.V
set_option linter.unusedVariables false
set_option linter.unusedSimpArgs false
/-! A log's bytes, read: plain. -/
namespace Go.V.Wal
open Go Go.V Go.V.Crc

inductive Fr where
  | stop (how : Int)
  | take (typ : Int) (body : List UInt8) (n : Nat)

def allZ (l : List UInt8) : Bool := l.all (· == 0)
def endS (w : Bool) : Int := if w then 1 else 0
def badS (rec : Bool) : Int := if rec then 1 else 3
def headS (rec : Bool) : Nat := if rec then 11 else 7
def at_ (l : List UInt8) (i : Nat) : Nat := (l.getD i 0).toNat
def lenS (l : List UInt8) : Nat := at_ l 4 + 256 * at_ l 5
def typS (f : List UInt8) (rec : Bool) : Int := (at_ f 6 : Int) - (if rec then 4 else 0)
def sumS (f : List UInt8) : Bool := decide (maskI ((crc (f.drop 6)).toNat : Int) = IntKind.wrap .u32 (fixI (f.take 4)))
def logS (f : List UInt8) : Int := IntKind.wrap .u32 (fixI ((f.drop 7).take 4))

/-- A fragment that is there. -/
def lookS (f : List UInt8) (rec : Bool) (log : Int) (within : Bool) : Fr :=
  if sumS f = false ∨ typS f rec < 1 ∨ typS f rec > 4 then .stop (badS rec)
  else if rec = true ∧ logS f ≠ log then .stop 2
  else if decide (typS f rec = 1 ∨ typS f rec = 2) = within then .stop (badS rec)
  else .take (typS f rec) (f.drop (headS rec)) f.length

def fragS (rest : List UInt8) (room : Nat) (rec : Bool) (log : Int) (within : Bool) : Fr :=
  if allZ rest = true then .stop (endS within)
  else if rest.length < headS rec then .stop 1
  else if headS rec + lenS rest > room then .stop (badS rec)
  else if headS rec + lenS rest > rest.length then .stop 1
  else lookS (rest.take (headS rec + lenS rest)) rec log within

def roomS (at' : Nat) : Nat := 4096 - at' % 4096

def nextS (b : List UInt8) (rec : Bool) (log : Int) (at' : Nat) (within : Bool) : Nat × Fr :=
  if roomS at' < headS rec then
    if roomS at' ≤ (b.drop at').length then (at' + roomS at', fragS (b.drop (at' + roomS at')) 4096 rec log within)
    else (at', .stop (if allZ (b.drop at') = true then endS within else 1))
  else (at', fragS (b.drop at') (roomS at') rec log within)

def readS (b : List UInt8) (rec : Bool) (log : Int) : Nat → Nat → Nat → Bool → List UInt8 → List (List UInt8) → List (List UInt8) × Int × Nat
  | 0, _, place, _, _, l => (l, 0, place)
  | f + 1, at', place, within, now, l => match nextS b rec log at' within with
    | (_, .stop how) => (l, how, place)
    | (at1, .take typ body n) =>
      if typ = 2 ∨ typ = 3 then readS b rec log f (at1 + n) place true (now ++ body) l
      else readS b rec log f (at1 + n) (at1 + n) false [] (l ++ [now ++ body])

def recS (b : List UInt8) : Bool := decide (7 ≤ b.length ∧ 5 ≤ at_ b 6 ∧ at_ b 6 ≤ 8)
def readAll (b : List UInt8) (log : Int) : List (List UInt8) × Int × Nat := if 1073741824 < b.length then ([], 3, 0) else readS b (recS b) log (b.length + 1) 0 0 false [] []

theorem roomS_pos (n : Nat) : 1 ≤ roomS n ∧ roomS n ≤ 4096 := by unfold roomS; omega
theorem headS_two (r : Bool) : headS r = 7 ∨ headS r = 11 := by cases r <;> simp [headS]
theorem roomS_skip (n : Nat) : roomS (n + roomS n) = 4096 := by unfold roomS; omega
theorem lenS_lt (l : List UInt8) : lenS l < 65536 := by
  have h1 := (l.getD 4 0).toNat_lt
  have h2 := (l.getD 5 0).toNat_lt
  unfold lenS at_
  omega

/-- Behind a block's end. -/
theorem nextS_skip {b : List UInt8} {rec : Bool} {log : Int} {at' : Nat} {within : Bool} (h1 : roomS at' < headS rec) (h2 : roomS at' ≤ (b.drop at').length) :
    nextS b rec log at' within = nextS b rec log (at' + roomS at') within := by
  have hh := headS_two rec
  unfold nextS
  rw [if_pos h1, if_pos h2, roomS_skip, if_neg (by omega)]

theorem fragS_take {rest : List UInt8} {room : Nat} {rec : Bool} {log : Int} {within : Bool} {typ : Int} {body : List UInt8} {n : Nat} (h : fragS rest room rec log within = .take typ body n) :
    headS rec ≤ n ∧ n ≤ rest.length ∧ n ≤ room ∧ 1 ≤ typ ∧ typ ≤ 4 ∧ body = (rest.take n).drop (headS rec) ∧ n = headS rec + body.length ∧ (decide (typ = 1 ∨ typ = 2) = !within) := by
  unfold fragS at h
  split at h
  · cases h
  split at h
  · cases h
  split at h
  · cases h
  split at h
  · cases h
  unfold lookS at h
  split at h
  · cases h
  split at h
  · cases h
  split at h
  · cases h
  rename_i h1 h2 h3 h4 h5 h6 h7
  cases h
  have hl : (rest.take (headS rec + lenS rest)).length = headS rec + lenS rest := by simp; omega
  rw [hl]
  refine ⟨by omega, by omega, by omega, by omega, by omega, rfl, ?_, ?_⟩
  · rw [List.length_drop, hl]; omega
  · generalize decide (typS (rest.take (headS rec + lenS rest)) rec = 1 ∨ typS (rest.take (headS rec + lenS rest)) rec = 2) = q at h7
    cases q <;> cases within <;> simp_all

theorem nextS_take {b : List UInt8} {rec : Bool} {log : Int} {at' : Nat} {within : Bool} {at1 : Nat} {typ : Int} {body : List UInt8} {n : Nat} (h : nextS b rec log at' within = (at1, .take typ body n)) (hat : at' ≤ b.length) :
    7 ≤ n ∧ at' ≤ at1 ∧ at1 + n ≤ b.length ∧ 1 ≤ typ ∧ typ ≤ 4 ∧ n = headS rec + body.length := by
  have hh := headS_two rec
  unfold nextS at h
  split at h
  · split at h
    · rename_i h1 h2
      have he := congrArg Prod.fst h
      have hf := congrArg Prod.snd h
      simp only at he hf
      obtain ⟨g1, g2, g3, g4, g5, g6, g7, _⟩ := fragS_take hf
      rw [List.length_drop] at g2 h2
      refine ⟨by omega, by omega, by omega, g4, g5, g7⟩
    · cases h
  · have he := congrArg Prod.fst h
    have hf := congrArg Prod.snd h
    simp only at he hf
    obtain ⟨g1, g2, g3, g4, g5, g6, g7, _⟩ := fragS_take hf
    rw [List.length_drop] at g2
    exact ⟨by omega, by omega, by omega, g4, g5, g7⟩

theorem fragS_stop {rest : List UInt8} {room : Nat} {rec : Bool} {log : Int} {within : Bool} {how : Int} (h : fragS rest room rec log within = .stop how) : 0 ≤ how ∧ how ≤ 3 := by
  have he : ∀ w, 0 ≤ endS w ∧ endS w ≤ 3 := by decide
  have hb : ∀ w, 0 ≤ badS w ∧ badS w ≤ 3 := by decide
  unfold fragS at h
  split at h
  · cases h; exact he _
  split at h
  · cases h; decide
  split at h
  · cases h; exact hb _
  split at h
  · cases h; decide
  unfold lookS at h
  split at h
  · cases h; exact hb _
  split at h
  · cases h; decide
  split at h
  · cases h; exact hb _
  · cases h

theorem nextS_stop {b : List UInt8} {rec : Bool} {log : Int} {at' : Nat} {within : Bool} {at1 : Nat} {how : Int} (h : nextS b rec log at' within = (at1, .stop how)) : 0 ≤ how ∧ how ≤ 3 := by
  have he : ∀ w, 0 ≤ endS w ∧ endS w ≤ 3 := by decide
  unfold nextS at h
  split at h
  · split at h
    · exact fragS_stop (congrArg Prod.snd h)
    · have := congrArg Prod.snd h
      simp only [Fr.stop.injEq] at this
      subst this
      split
      · exact he _
      · decide
  · exact fragS_stop (congrArg Prod.snd h)

/-! ### Numbers of two bytes -/

theorem or64 {x c : Nat} (hx : x < 72057594037927936) (hc : c < 256) : bitop .u64 .or (shiftL .u64 (x : Int) 8) (c : Int) = ((256 * x + c : Nat) : Int) := by
  have hs : shiftL .u64 (x : Int) 8 = ((256 * x : Nat) : Int) := by
    unfold shiftL
    rw [show (2 : Int) ^ min (8 : Int).toNat (IntKind.bits .u64) = 256 from rfl, wu64 (by omega) (by omega)]
    show (x : Int) * 256 = _
    omega
  rw [hs]
  show IntKind.wrap .u64 (BitVec.ofInt 64 _ ||| BitVec.ofInt 64 _).toNat = _
  have h1 : BitVec.ofInt 64 ((256 * x : Nat) : Int) = BitVec.ofNat 64 (256 * x) := BitVec.ofInt_natCast _ _
  have h2 : BitVec.ofInt 64 (c : Int) = BitVec.ofNat 64 c := BitVec.ofInt_natCast _ _
  rw [h1, h2, BitVec.toNat_or, BitVec.toNat_ofNat, BitVec.toNat_ofNat, Nat.mod_eq_of_lt (by omega), Nat.mod_eq_of_lt (by omega)]
  have := Nat.two_pow_add_eq_or_of_lt (i := 8) (b := c) (by omega) x
  rw [show 256 * x ||| c = 256 * x + c from this.symm, wu64 (by omega) (by omega)]

theorem fix_two (a b : UInt8) : fixI [a, b] = ((a.toNat + 256 * b.toNat : Nat) : Int) := by
  have ha := a.toNat_lt
  have hb := b.toNat_lt
  have h0 : bitop .u64 .or (shiftL .u64 0 8) (b.toNat : Int) = ((256 * 0 + b.toNat : Nat) : Int) := or64 (x := 0) (by omega) (by omega)
  show bitop .u64 .or (shiftL .u64 (bitop .u64 .or (shiftL .u64 0 8) (b.toNat : Int)) 8) (a.toNat : Int) = _
  rw [h0, or64 (by omega) (by omega)]
  congr 1; omega

end Go.V.Wal
set_option linter.unusedVariables false
set_option linter.unusedSimpArgs false
/-! Numbers of a fixed width, there and back. -/
namespace Go.V

def le : List UInt8 → Nat
  | [] => 0
  | c :: r => c.toNat + 256 * le r

theorem le_lt : ∀ l : List UInt8, le l < 256 ^ l.length
  | [] => by simp [le]
  | c :: r => by
    have := le_lt r
    have hc := c.toNat_lt
    simp only [le, List.length_cons, Nat.pow_succ]
    omega

theorem fixI_le : ∀ {l : List UInt8}, l.length ≤ 8 → fixI l = (le l : Nat)
  | [], _ => rfl
  | c :: r, h => by
    have ih := fixI_le (l := r) (by simp at h; omega)
    have hl := le_lt r
    have hp : 256 ^ r.length ≤ 256 ^ 7 := Nat.pow_le_pow_right (by omega) (by simp at h; omega)
    have e7 : 256 ^ 7 = 72057594037927936 := rfl
    have hc := c.toNat_lt
    show bitop .u64 .or (shiftL .u64 (fixI r) 8) (c.toNat : Int) = _
    rw [ih, Wal.or64 (by omega) (by omega)]
    simp only [le]
    congr 1
    omega

theorem fixedL_succ (x n : Nat) : fixedL x (n + 1) = UInt8.ofNat x :: fixedL (x / 256) n := by
  unfold fixedL
  rw [List.range_succ_eq_map, List.map_cons, List.map_map]
  congr 1
  · simp
  · apply List.map_congr_left
    intro i _
    simp only [Function.comp]
    rw [Nat.pow_succ', Nat.div_div_eq_div_mul]

theorem le_fixed : ∀ (n : Nat) {x : Nat}, x < 256 ^ n → le (fixedL x n) = x
  | 0, x, h => by simp at h; subst h; rfl
  | n + 1, x, h => by
    rw [fixedL_succ, le, le_fixed n (by rw [Nat.div_lt_iff_lt_mul (by omega)]; rw [Nat.pow_succ] at h; exact h)]
    have : (UInt8.ofNat x).toNat = x % 256 := by simp
    omega

theorem fixed_le : ∀ l : List UInt8, fixedL (le l) l.length = l
  | [] => rfl
  | c :: r => by
    have hc := c.toNat_lt
    rw [List.length_cons, fixedL_succ, le]
    have h1 : (c.toNat + 256 * le r) / 256 = le r := by omega
    have h2 : UInt8.ofNat (c.toNat + 256 * le r) = c := by
      apply UInt8.toNat_inj.1
      have : (UInt8.ofNat (c.toNat + 256 * le r)).toNat = (c.toNat + 256 * le r) % 256 := by simp
      omega
    rw [h1, h2, fixed_le r]

theorem fixedL_length (x n : Nat) : (fixedL x n).length = n := by simp [fixedL]

end Go.V
set_option linter.unusedVariables false
set_option linter.unusedSimpArgs false
/-! Arguments that are bytes. -/
namespace Go.V
open Go.ChangeShapes Go.WideShapes

/-- A slice among the arguments has no more elements than room, and lies in memory. -/
theorem okW_slc {P : Program} {W : World} {base : Nat} {t e : TypeId} (ht : P.underlying t = some (.slice e)) {s : Slc} (hval : Value.okWide P W .any base t (Lf.slc s).val) :
    s.len ≤ s.cap ∧ ∀ b off, s.a = some (b, off) → b < W.heap.size := by
  simp only [Lf.val, Value.okWide, ht, Cell.okWide, Cell.ok] at hval
  cases hs : s.a with
  | none =>
    rw [sadr_none hs] at hval
    have hl : s.len = 0 ∧ s.cap = 0 := by
      generalize s.len = a at hval
      generalize s.cap = c at hval
      cases a <;> cases c <;> simp_all
    exact ⟨by omega, fun b off h => by cases h⟩
  | some p =>
    obtain ⟨b, o⟩ := p
    rw [sadr_some hs rfl] at hval
    obtain ⟨h1, _, _, _, row, cells, hsh, _⟩ := hval
    refine ⟨h1, fun b' off h => ?_⟩
    cases h
    unfold World.shape? at hsh
    split at hsh
    · rename_i hb; exact size_pos_of_getElem? hb
    · cases hsh

section
variable {H : Type} {enc : TypeId × Value → H} {P : Program} {W : World}

theorem byte_open {t : TypeId} (ht : P.underlying t = some (.int .u8)) {n : Nat} {cs : List Value} {y : DataW H × List MemPlace} (hl : cs.length = 1) (h : DataW.trod enc P W 0 (fun _ => true) true n t cs = some y) :
    ∃ x : UInt8, cs = (bF x).map Lf.val ∧ True := by
  obtain ⟨x, e, _, w⟩ := DataW.trod_int ht h
  have := wf_int w
  refine ⟨UInt8.ofNat x.toNat, ?_, trivial⟩
  rw [e]
  have h1 : 0 ≤ x := this.1
  have h2 : x ≤ 255 := this.2
  have : (UInt8.ofNat x.toNat).toNat = x.toNat := by simp; omega
  simp [bF, Lf.val, this]
  omega

theorem bytes_open {t e : TypeId} {base : Nat} {v : Value} {d : DataW H} {p : List MemPlace} (ht : P.underlying t = some (.slice e)) (he : P.underlying e = some (.int .u8)) (hc : P.cellsOf e = 1) (hb1 : P.bytesOf e = 1)
    (hval : Value.okWide P W .any base t v) (h : DataW.Trod enc P W 0 (fun _ => true) true t v d p) (hw : (d.weights P t).all (· ≤ reachBytes) = true) :
    ∃ s l, v = (Lf.slc s).val ∧ Byt W.heap s l ∧ l.length ≤ 140737488355328 ∧ ∀ b off, s.a = some (b, off) → b < W.heap.size := by
  obtain ⟨s, l, rfl, h2, _, _, h5⟩ := open_arrW (f := bF) (Q := fun _ => True) ht hc bF_sized (fun n cs y hl hy => byte_open he hl hy) hval h
  obtain ⟨hcap, hblk⟩ := okW_slc ht hval
  refine ⟨s, l, rfl, ⟨h2, hcap⟩, ?_, hblk⟩
  rcases h5 with rfl | ⟨k, hk⟩
  · simp
  · have := of_decide_eq_true (List.all_eq_true.1 hw _ hk)
    rw [hb1] at this
    have hr : reachBytes = 140737488351232 := by decide
    omega
end
end Go.V
