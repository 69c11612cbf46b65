/- This text proves a part of the laws of seat Yteojmnnobmpdiaa, under no condition: W5c W5d. -/
import Derived.Test.YteojmnnobmpdiaaWE
import Derived.Test.YteojmnnobmpdiaaWG
import Derived.Test.YteojmnnobmpdiaaWD
import Derived.Test.YteojmnnobmpdiaaWF
set_option linter.unusedVariables false
set_option linter.unusedSimpArgs false
/-! The codec's contracts: sums, fixed numbers. -/
namespace Go.V.Yteojmnnobmpdiaa
open Go Go.V Go.V.Crc

set_option maxRecDepth 20000 in
theorem c162 {h : Heap} {R : Option (Nat × Nat) → Heap → Prop} (k : ∀ b h', Ext0 h h' → (∀ i, i < 256 → cellsAt h' b i [.int .u32 ((step8 (BitVec.ofNat 32 i)).toNat : Int)]) → R (some (b, 0)) h') :
    Call Go.Proofs.Try.prog 162 [] h [.one .ptr] R := by
  refine ok162 (New.mk fun b0 h1 hb0 hs1 e1 k1 => ?_)
  refine ⟨fun i hh n => ∃ (q : Nat) (cs : List Lf) (t : TypeId), i = q ∧ q ≤ 256 ∧ Blk hh b0 t cs ∧ cs.length = 256 ∧ (∀ j, j < q → cs[j]? = some (.int .u32 ((step8 (BitVec.ofNat 32 j)).toNat : Int))) ∧ Ext0 h hh ∧ n = 256 - q,
    ⟨_, 0, _, _, rfl, by omega, k1, rfl, by omega, e1, rfl⟩, ?_⟩
  rintro _ h5 _ ⟨q, cs, t, rfl, hq, B, hl, hcs, e, rfl⟩
  refine Br.dec (fun hlt => ?_) fun hge => k b0 h5 e fun i hi => B.cell (hcs i (by omega))
  have hq2 : q < 256 := by omega
  refine ⟨fun r i hh n => ∃ p : Nat, i = p ∧ p ≤ 8 ∧ h5 = hh ∧ r = ((stepN p (BitVec.ofNat 32 q)).toNat : Int) ∧ n = 8 - p, ⟨_, 0, rfl, by omega, rfl, ?_, rfl⟩, ?_⟩
  · rw [wu32 (by omega) (by omega)]
    show (q : Int) = ((BitVec.ofNat 32 q).toNat : Int)
    rw [BitVec.toNat_ofNat, Nat.mod_eq_of_lt (by omega)]
  rintro _ _ _ _ ⟨p, rfl, hp, rfl, rfl, rfl⟩
  refine Br.dec (fun hlt2 => ⟨by omega, 8 - (p + 1), by omega, p + 1, by rw [wi64 (by omega) (by omega)]; omega, by omega, rfl, step_prog _, rfl⟩) fun hge2 => ?_
  obtain rfl : p = 8 := by omega
  refine ⟨by omega, by omega, ?_⟩
  rw [show 0 + (q : Int).toNat * 1 = q by omega]
  refine StC.one B (by omega) fun h14 hs14 B14 e14 => ⟨256 - (q + 1), by omega, q + 1, _, _, by rw [wi64 (by omega) (by omega)]; omega, by omega, B14, by simp [hl], fun j hj => ?_, e.trans' e14 fun i hi z => ?_, rfl⟩
  · rw [List.getElem?_set]
    by_cases hjq : q = j
    · subst hjq; rw [if_pos rfl, if_pos (by omega)]; rfl
    · rw [if_neg hjq]; exact hcs j (by omega)
  · have z : i = b0 := z
    omega

theorem c142 {h : Heap} {s : Slc} {l : List UInt8} (a : Arr 1 bF h s l) (hl : l.length ≤ 9223372036854775806) {R : Int → Heap → Prop} (k : ∀ h', Ext0 h h' → R ((crc l).toNat : Int) h') :
    Call Go.Proofs.Try.prog 142 [.lf (.slc s)] h [.one (.int .u32)] R := by
  have hlen := a.len
  have hn : ∀ v : W32, bitop .u32 .xor (if Bool.false = Bool.true then (-1 : Int) else IntKind.max .u32) (v.toNat : Int) = ((~~~v).toNat : Int) := fun v => by
    rw [if_neg (by decide)]; exact bit_not v
  have hinit : (4294967295 : Int) = (((l.take 0).foldl upd 4294967295#32).toNat : Int) := by simp
  refine ok142 (Br.dec (fun hs => ?_) fun hs => ?_)
  · refine ⟨fun r i hh n => ∃ q : Nat, i = q ∧ q ≤ l.length ∧ h = hh ∧ r = (((l.take q).foldl upd 4294967295#32).toNat : Int) ∧ n = l.length - q, ⟨_, 0, rfl, by omega, rfl, hinit, rfl⟩, ?_⟩
    rintro _ _ _ _ ⟨q, rfl, hq, rfl, rfl, rfl⟩
    rw [hlen]
    refine Br.dec (fun hlt => ?_) fun hge => ?_
    · have hql : q < l.length := by omega
      refine a.ix rfl (getB hql) fun b off hb => ⟨_, hb, ?_⟩
      refine ⟨fun r i hh n => ∃ p : Nat, i = p ∧ p ≤ 8 ∧ h = hh ∧ r = ((stepN p ((l.take q).foldl upd 4294967295#32 ^^^ BitVec.ofNat 32 l[q].toNat)).toNat : Int) ∧ n = 8 - p, ⟨_, 0, rfl, by omega, rfl, ?_, rfl⟩, ?_⟩
      · rw [byte32, bit_xor]; rfl
      rintro _ _ _ _ ⟨p, rfl, hp, rfl, rfl, rfl⟩
      refine Br.dec (fun hlt2 => ⟨by omega, 8 - (p + 1), by omega, p + 1, by rw [wi64 (by omega) (by omega)]; omega, by omega, rfl, step_prog _, rfl⟩) fun hge2 => ?_
      obtain rfl : p = 8 := by omega
      exact ⟨l.length - (q + 1), by omega, q + 1, by rw [wi64 (by omega) (by omega)]; omega, by omega, rfl, by rw [foldl_snoc l q hql]; rfl, rfl⟩
    · obtain rfl : q = l.length := by omega
      rw [hn, List.take_length]
      exact k h (Ext.refl _ _)
  · refine c162 fun b h18 e18 T => ?_
    have a18 := a.ext0 e18
    refine ⟨fun r i hh n => ∃ q : Nat, i = q ∧ q ≤ l.length ∧ h18 = hh ∧ r = (((l.take q).foldl upd 4294967295#32).toNat : Int) ∧ n = l.length - q, ⟨_, 0, rfl, by omega, rfl, hinit, rfl⟩, ?_⟩
    rintro _ _ _ _ ⟨q, rfl, hq, rfl, rfl, rfl⟩
    rw [hlen]
    refine Br.dec (fun hlt => ?_) fun hge => ?_
    · have hql : q < l.length := by omega
      refine a18.ix rfl (getB hql) fun b' off hb => ⟨_, hb, by omega, NilC.mk rfl ?_⟩
      have hc : l[q].toNat < 256 := l[q].toNat_lt
      have hx : ((l.take q).foldl upd 4294967295#32).toNat % 256 ^^^ l[q].toNat < 256 := Nat.xor_lt_two_pow (n := 8) (Nat.mod_lt _ (by omega)) hc
      rw [w0, bit8_xor (Nat.mod_lt _ (by omega)) hc]
      refine ⟨by omega, by omega, ((step8 (BitVec.ofNat 32 (((l.take q).foldl upd 4294967295#32).toNat % 256 ^^^ l[q].toNat))).toNat : Int), ?_, ?_⟩
      · rw [show 0 + ((((l.take q).foldl upd 4294967295#32).toNat % 256 ^^^ l[q].toNat : Nat) : Int).toNat * 1 = ((l.take q).foldl upd 4294967295#32).toNat % 256 ^^^ l[q].toNat by omega]
        exact T _ hx
      · refine ⟨l.length - (q + 1), by omega, q + 1, by rw [wi64 (by omega) (by omega)]; omega, by omega, rfl, ?_, rfl⟩
        rw [show (8 : Int) = ((8 : Nat) : Int) from rfl, shr _ 8 (by omega), bit_xor, foldl_snoc l q hql, upd_table]
    · obtain rfl : q = l.length := by omega
      rw [hn, List.take_length]
      exact k h18 e18

theorem c161 {h : Heap} {n : Int} {R : Int → Heap → Prop} (k : R (bitop .u32 .or (shiftL .u32 n 17) (shiftR .u32 n 15)) h) : Call Go.Proofs.Try.prog 161 [.lf (.int .u32 n), .lf (.int .i64 (-15))] h [.one (.int .u32)] R := by
  have e1 : bitop .u64 .and (IntKind.wrap .u64 (-15)) 31 = 17 := by decide
  have e2 : IntKind.wrap .u64 (32 - 17) = 15 := by decide
  refine ok161 ?_
  unfold vc161
  rw [e1, e2]
  exact ⟨by omega, by omega, k⟩

theorem c141 {h : Heap} {n : Int} {R : Int → Heap → Prop} (k : R (maskI n) h) : Call Go.Proofs.Try.prog 141 [.lf (.int .u32 n)] h [.one (.int .u32)] R := by
  refine ok141 (c161 ?_)
  rw [bitor_comm]
  exact k

/-- slices.Backward of bytes: the function that it hands back. -/
theorem c170 {h : Heap} {s : Slc} {R : Value → Heap → Prop} (k : ∀ b h', b = h.size → h'.size = h.size + 1 → Ext0 h h' → cellsAt h' b 0 [.slc s] → R (.func (.func 172) #[] #[.pointer (some ⟨b, 0, none⟩)]) h') :
    Call Go.Proofs.Try.prog 170 [.lf (.slc s)] h [.one .raw] R :=
  ok170 (New.mk fun b h' hb hs e k' => k b h' hb hs e (k'.cell rfl))

theorem fback {h : Heap} {b : Nat} {s : Slc} {l : List UInt8} (hl : l.length ≤ 9223372036854775806) {y : Value} (J : Nat → Heap → Prop) (hJ : J l.length h) (hlen : s.len = l.length)
    (hkeep : ∀ q hh, J q hh → cellsAt hh b 0 [.slc s] ∧ Arr 1 bF hh s l)
    (hrd : ∀ q hh (hq : q < l.length), J (q + 1) hh → ∀ R : Bool → Heap → Prop, (∀ hh', J q hh' → R true hh') → CallV Go.Proofs.Try.prog y [.lf (.int .i64 q), .lf (.int .u8 (l[q].toNat : Int))] hh [.one .bool] R)
    {R : Heap → Prop} (k : ∀ h', J 0 h' → R h') : CallF Go.Proofs.Try.prog (.func (.func 172) #[] #[.pointer (some ⟨b, 0, none⟩)]) [.lf (.raw y)] h [] R := by
  refine ⟨172, [], [.lf (.ptr (some (b, 0)))], _, _, rfl, Go.Proofs.Try.func172, rfl, ok172 ⟨s, (hkeep _ _ hJ).1, ?_⟩⟩
  rw [hlen]
  refine ⟨fun i hh n => ∃ q : Nat, i = (q : Int) - 1 ∧ q ≤ l.length ∧ J q hh ∧ n = q, ⟨_, l.length, wi64 (by omega) (by omega), by omega, hJ, rfl⟩, ?_⟩
  rintro _ h4 n ⟨q, rfl, hq, J4, hn⟩
  refine Br.dec (fun hge => ?_) fun hlt => ?_
  · obtain ⟨p, rfl⟩ : ∃ p, q = p + 1 := ⟨q - 1, by omega⟩
    obtain ⟨h1, h2⟩ := hkeep _ _ J4
    have e : ((p + 1 : Nat) : Int) - 1 = (p : Int) := by omega
    rw [e]
    exact ⟨s, h1, h2.ix rfl (getB (show p < l.length by omega)) fun b' off hb => ⟨_, hb, hrd p h4 (by omega) J4 _ fun h' J' => Br.f rfl ⟨p, by omega, p, by rw [wi64 (by omega) (by omega)], by omega, J', rfl⟩⟩⟩
  · obtain rfl : q = 0 := by omega
    exact k h4 J4

theorem c160 {h : Heap} {s : Slc} {l : List UInt8} (a : Byt h s l) {m : Nat} (hm : m ≤ 8) {R : Int → Int → Heap → Prop} (k0 : l.length < m → R 0 4 h) (k : m ≤ l.length → ∀ h', Ext0 h h' → R (fixI (l.take m)) 0 h') :
    Call Go.Proofs.Try.prog 160 [.lf (.slc s), .lf (.int .i64 m)] h [.one (.int .u64), .one (.int .i64)] R := by
  have hlen := a.len
  have hcap := a.cap
  refine ok160 (Br.dec (fun c => k0 (by omega)) fun c => New.mk fun b0 h1 hb0 hs1 e1 k1 => StC.one k1 (by decide) fun h2 hs2 B2 e2 => ⟨by omega, by omega, ?_⟩)
  have hm2 : m ≤ l.length := by omega
  have e02 : Ext0 h h2 := e1.trans' e2 fun i hi z => by have : i = b0 := z; omega
  rw [show (m : Int).toNat = m by omega]
  have hsub := (a.ext0 e02).sub (lo := 0) (hi := m) (by omega) hm2
  simp only [List.drop_zero] at hsub
  generalize hL : l.take m = L at hsub
  have hLl : L.length = m := by rw [← hL]; simp; omega
  have hin : ∀ b off, (s.sub 1 0 m s.cap).a = some (b, off) → ∃ off', s.a = some (b, off') := fun b off hb => sub_inS hb
  generalize s.sub 1 0 m s.cap = s' at hsub hin
  refine c170 fun bb h4 hbb hs4 e4 kb => ?_
  intro lp
  refine LoopC.mk fun D lr h8 hD hlr hs8 e8 kD kl => ?_
  intro hyield
  obtain ⟨t, B2⟩ : ∃ t, Blk h2 b0 t [.int .u64 0] := ⟨_, B2⟩
  have hltb := B2.lt
  have e28 : Ext0 h2 h8 := e4.trans e8
  refine fback (l := L) (by omega) (fun q hh => Blk hh b0 t [.int .u64 (fixI (L.drop q))] ∧ LAt hh lr lp ∧ Ext (fun i => i = b0 ∨ i = lr) h8 hh) ⟨?_, kl, Ext.refl _ _⟩ (by have := hsub.len; omega) (fun q hh ⟨B, A, e⟩ => ⟨?_, ?_⟩) (fun q hh hq ⟨B, A, e⟩ R hR => ?_) (fun h19 ⟨B, A, e⟩ => ?_)
  · have := B2.ext e28
    rw [List.drop_length]
    exact this
  · exact cellsAt.ext e (by omega) (cellsAt.ext e8 id kb)
  · refine arr_extN (hsub.ext0 e28).arr e fun hne b' off hb' => ?_
    obtain ⟨off', hb2⟩ := hin b' off hb'
    have := arr_lt a.arr (fun z => hne (by rw [← hL, z]; simp)) hb2
    omega
  · refine hyield hh R A _ _ (LBusy.mk A fun h13 hs13 e13 k13 => ⟨_, (B.ext e13 (fun z => by omega)).cell rfl, by omega, StC.one (B.ext e13 (fun z => by omega)) Nat.zero_lt_one fun h15 hs15 B15 e15 => LReady.mk ?_ fun h16 hs16 e16 A16 => hR h16 ⟨?_, A16, ?_⟩⟩)
    · exact (e15.same lr (size_pos_of_getElem? k13) (fun z => by omega)).trans k13
    · have := B15.ext e16 (fun z => by omega)
      have hd : L.drop q = L[q] :: L.drop (q + 1) := List.drop_eq_getElem_cons hq
      rw [hd]
      rw [wu64b] at this
      exact this
    · exact ((e.trans' e13 fun i hi z => .inr z).trans' e15 fun i hi z => .inl z).trans' e16 fun i hi z => .inr z
  · refine LEnd.mk A fun h20 hs20 e20 => ⟨_, (B.ext e20 (fun z => by omega)).cell rfl, CollC.mk ?_ fun h22 hs22 e22 => ?_⟩
    · have h1' := e20.same D (by have := size_pos_of_getElem? kD; have := e.size; omega) (fun z => by omega)
      have h2' := e.same D (size_pos_of_getElem? kD) (fun z => by omega)
      exact h1'.trans (h2'.trans kD)
    · rw [List.drop_zero, ← hL]
      refine k hm2 h22 ?_
      have s28 := e28.size
      have s02 := e02.size
      exact ((((e02.trans e28).trans' e fun i hi z => by omega).trans' e20 fun i hi z => by omega).trans' e22 fun i hi z => by omega)

theorem c140 {h : Heap} {s : Slc} {l : List UInt8} (a : Byt h s l) {R : Int → Int → Heap → Prop} (k0 : l.length < 4 → R 0 4 h) (k : 4 ≤ l.length → ∀ h', Ext0 h h' → R (IntKind.wrap .u32 (fixI (l.take 4))) 0 h') :
    Call Go.Proofs.Try.prog 140 [.lf (.slc s)] h [.one (.int .u32), .one (.int .i64)] R := by
  refine ok140 (c160 a (m := 4) (by omega) (fun h0 => ?_) k)
  have : IntKind.wrap .u32 0 = 0 := by decide
  rw [this]
  exact k0 h0

theorem c163 {x n : Nat} (hn : n ≤ 8) {h : Heap} {R : Slc → Heap → Prop}
    (k : ∀ s h', Own 1 bF h' s (fixedL x n) → Fresh h h' s → R s h') :
    Call Go.Proofs.Try.prog 163 [.lf (.int .u64 x), .lf (.int .i64 n)] h [.one .slc] R := by
  refine ok163 (MkC.own (f := bF) (z := (0 : UInt8)) bF_sized rfl (n := n) rfl rfl (by omega) (by omega) fun s h1 o1 hs e1 => ?_)
  refine ⟨fun i h' d => ∃ m : Nat, i = m ∧ m ≤ n ∧ d = n - m ∧ Own 1 bF h' s ((List.range n).map fun i => if i < m then UInt8.ofNat (x / 256 ^ i) else 0) ∧ Ext0 h h', ⟨_, 0, rfl, by omega, rfl, ?_, e1⟩, ?_⟩
  · rw [show ((List.range n).map fun i => if i < 0 then UInt8.ofNat (x / 256 ^ i) else 0) = List.replicate n 0 by simp [List.map_const']]
    exact o1
  rintro _ h5 _ ⟨m, rfl, hm, rfl, o, e⟩
  have hl := o.len
  simp only [List.length_map, List.length_range] at hl
  rw [hl]
  refine Br.dec (fun hi => ?_) fun hi => ?_
  · have hi' : m < n := by omega
    have e8 : IntKind.wrap .i64 ((8 : Int) * (m : Int)) = ((8 * m : Nat) : Int) := by rw [wi64 (by omega) (by omega)]; simp
    rw [e8, shrN (by omega), lo_byte]
    refine ⟨by omega, IxC.set bF_sized o rfl (by simpa using hi') rfl fun h6 hs6 o6 e6 => ⟨_, by omega, m + 1, ?_, by omega, rfl, ?_, e.trans' e6 fun i hi ⟨off, hx⟩ => ?_⟩⟩
    · rw [wi64 (by omega) (by omega)]; rfl
    · have : (((List.range n).map fun i => if i < m then UInt8.ofNat (x / 256 ^ i) else 0).set m (UInt8.ofNat (x / 256 ^ m))) = ((List.range n).map fun i => if i < m + 1 then UInt8.ofNat (x / 256 ^ i) else 0) := by
        apply List.ext_getElem?
        intro j
        rw [List.getElem?_set]
        by_cases hj : j < n
        · simp only [List.getElem?_map, List.getElem?_range hj, Option.map_some, List.length_map, List.length_range]
          split
          · rename_i he; subst he; simp [hj]
          · have : j < m + 1 ↔ j < m := by omega
            simp [this]
        · rw [List.getElem?_eq_none (by simpa using hj), List.getElem?_eq_none (by simpa using hj)]
          rw [if_neg (by omega)]
      rw [← this]; exact o6
    · rw [hs] at hx; simp at hx; omega
  · have hmn : m = n := by omega
    subst hmn
    refine k s h5 ?_ ⟨e, fun b off hb => by rw [hs] at hb; simp at hb; omega⟩
    have : ((List.range m).map fun i => if i < m then UInt8.ofNat (x / 256 ^ i) else 0) = fixedL x m := by
      apply List.map_congr_left
      intro i hi
      rw [if_pos (List.mem_range.1 hi)]
    rwa [this] at o

theorem c143 {x : Nat} (hx : x < 4294967296) {h : Heap} {R : Slc → Heap → Prop} (k : ∀ s h', Own 1 bF h' s (fixedL x 4) → Fresh h h' s → R s h') :
    Call Go.Proofs.Try.prog 143 [.lf (.int .u32 x)] h [.one .slc] R := by
  refine ok143 ?_
  unfold vc143
  rw [wu64 (by omega) (by omega)]
  exact c163 (n := 4) (by decide) k

/-! ### The document's -/

theorem c123 {h : Heap} {n : Int} {R : Int → Heap → Prop} (k : R (maskI n) h) : Call Go.Proofs.Try.prog 123 [.lf (.int .u32 n)] h [.one (.int .u32)] R :=
  ok123 ⟨by omega, by omega, k⟩

theorem c124 {h : Heap} {s : Slc} {l : List UInt8} (a : Arr 1 bF h s l) (hl : l.length ≤ 9223372036854775806) {R : Int → Heap → Prop} (k : R ((crc l).toNat : Int) h) :
    Call Go.Proofs.Try.prog 124 [.lf (.slc s)] h [.one (.int .u32)] R := by
  have hlen := a.len
  have hn : ∀ v : W32, bitop .u32 .xor (if Bool.false = Bool.true then (-1 : Int) else IntKind.max .u32) (v.toNat : Int) = ((~~~v).toNat : Int) := fun v => by
    rw [if_neg (by decide)]; exact bit_not v
  have hinit : (4294967295 : Int) = (((l.take 0).foldl upd 4294967295#32).toNat : Int) := by simp
  refine ok124 ⟨fun r i hh n => ∃ q : Nat, i = q ∧ q ≤ l.length ∧ h = hh ∧ r = (((l.take q).foldl upd 4294967295#32).toNat : Int) ∧ n = l.length - q, ⟨_, 0, rfl, by omega, rfl, hinit, rfl⟩, ?_⟩
  rintro _ _ _ _ ⟨q, rfl, hq, rfl, rfl, rfl⟩
  rw [hlen]
  refine Br.dec (fun hlt => ?_) fun hge => ?_
  · have hql : q < l.length := by omega
    refine a.ix rfl (getB hql) fun b off hb => ⟨_, hb, ?_⟩
    refine ⟨fun r i hh n => ∃ p : Nat, i = p ∧ p ≤ 8 ∧ h = hh ∧ r = ((stepN p ((l.take q).foldl upd 4294967295#32 ^^^ BitVec.ofNat 32 l[q].toNat)).toNat : Int) ∧ n = 8 - p, ⟨_, 0, rfl, by omega, rfl, ?_, rfl⟩, ?_⟩
    · rw [byte32, bit_xor]; rfl
    rintro _ _ _ _ ⟨p, rfl, hp, rfl, rfl, rfl⟩
    refine Br.dec (fun hlt2 => ⟨by omega, ?_⟩) fun hge2 => ?_
    · obtain ⟨s1, s2⟩ := step_ref (stepN p ((l.take q).foldl upd 4294967295#32 ^^^ BitVec.ofNat 32 l[q].toNat))
      exact Br.eq (fun c => ⟨8 - (p + 1), by omega, p + 1, by rw [wi64 (by omega) (by omega)]; omega, by omega, rfl, s1 c, rfl⟩) fun c => ⟨8 - (p + 1), by omega, p + 1, by rw [wi64 (by omega) (by omega)]; omega, by omega, rfl, s2 c, rfl⟩
    obtain rfl : p = 8 := by omega
    exact ⟨l.length - (q + 1), by omega, q + 1, by rw [wi64 (by omega) (by omega)]; omega, by omega, rfl, by rw [foldl_snoc l q hql]; rfl, rfl⟩
  · obtain rfl : q = l.length := by omega
    rw [hn, List.take_length]
    exact k

theorem c122 {h : Heap} {s : Slc} {l : List UInt8} (a : Arr 1 bF h s l) {m : Nat} (hm : m ≤ 8) {R : Int → Int → Heap → Prop} (k0 : l.length < m → R 0 4 h) (k : m ≤ l.length → R (fixI (l.take m)) 0 h) :
    Call Go.Proofs.Try.prog 122 [.lf (.slc s), .lf (.int .i64 m)] h [.one (.int .u64), .one (.int .i64)] R := by
  have hlen := a.len
  refine ok122 (Br.dec (fun c => k0 (by omega)) fun c => ?_)
  have hm2 : m ≤ l.length := by omega
  refine ⟨fun r i hh n => ∃ q : Nat, i = (q : Int) - 1 ∧ q ≤ m ∧ h = hh ∧ r = fixI ((l.take m).drop q) ∧ n = q, ⟨_, m, wi64 (by omega) (by omega), by omega, rfl, by rw [List.drop_of_length_le (by simp; omega)]; rfl, rfl⟩, ?_⟩
  rintro _ _ _ n ⟨q, rfl, hq, rfl, rfl, hn⟩
  refine Br.dec (fun hge => ?_) fun hlt => ?_
  · obtain ⟨p, rfl⟩ : ∃ p, q = p + 1 := ⟨q - 1, by omega⟩
    have e : ((p + 1 : Nat) : Int) - 1 = (p : Int) := by omega
    rw [e]
    have hp : p < l.length := by omega
    refine ⟨by omega, a.ix rfl (getB hp) fun b' off hb => ⟨_, hb, p, by omega, p, by rw [wi64 (by omega) (by omega)], by omega, rfl, ?_, rfl⟩⟩
    have hd : (l.take m).drop p = l[p] :: (l.take m).drop (p + 1) := by
      have hlt : p < (l.take m).length := by simp; omega
      rw [List.drop_eq_getElem_cons hlt]
      simp
    rw [hd, wu64b]
    rfl
  · obtain rfl : q = 0 := by omega
    exact k hm2

end Go.V.Yteojmnnobmpdiaa
set_option linter.unusedVariables false
set_option linter.unusedSimpArgs false
/-! The log's contracts: its fragments. -/
namespace Go.V.Yteojmnnobmpdiaa
open Go Go.V Go.V.Crc Go.V.Wal

theorem nz (c : UInt8) : ((c.toNat : Int) != 0) = !(c == 0) := by
  by_cases h : c = 0
  · subst h; rfl
  · have : c.toNat ≠ 0 := fun e => h (UInt8.toNat_inj.1 (by simpa using e))
    have h1 : ((c.toNat : Int) != 0) = true := by simp; omega
    rw [h1]; simp [h]

theorem allZ_snoc {l : List UInt8} {q : Nat} (h : q < l.length) : allZ (l.take (q + 1)) = (allZ (l.take q) && (l[q] == 0)) := by
  unfold allZ
  rw [List.take_add_one, getB h, List.all_append]
  simp
theorem allZ_none {l : List UInt8} {q : Nat} (h : q < l.length) (hz : (l[q] == 0) = false) : allZ l = false := by
  unfold allZ
  rw [List.all_eq_false]
  exact ⟨l[q], List.getElem_mem h, by simpa using hz⟩

theorem v139 {h : Heap} {c : UInt8} {R : Bool → Heap → Prop} (k : R (!(c == 0)) h) : CallV Go.Proofs.Try.prog (.func (.func 139) #[] #[]) [.lf (.int .u8 (c.toNat : Int))] h [.one .bool] R :=
  .inl ⟨139, [], [], _, _, rfl, Go.Proofs.Try.func139, rfl, ok139 (by unfold vc139; rw [nz]; exact k)⟩

theorem c118 {h : Heap} {s : Slc} {l : List UInt8} (a : Arr 1 bF h s l) (hl : l.length ≤ 9223372036854775806) {R : Bool → Heap → Prop} (k : R (allZ l) h) :
    Call Go.Proofs.Try.prog 118 [.lf (.slc s)] h [.one .bool] R := by
  have hlen := a.len
  refine ok118 (ok138 (ok159 ?_))
  refine ⟨fun i hh n => ∃ q : Nat, i = q ∧ q ≤ l.length ∧ h = hh ∧ allZ (l.take q) = true ∧ n = l.length - q, ⟨_, 0, rfl, by omega, rfl, rfl, rfl⟩, ?_⟩
  rintro _ _ _ ⟨q, rfl, hq, rfl, hz, rfl⟩
  rw [hlen]
  refine Br.dec (fun hlt => ?_) fun hge => ?_
  · have hql : q < l.length := by omega
    refine a.ix rfl (getB hql) fun b off hb => ⟨_, hb, v139 (Br.mk (fun c => ?_) fun c => ?_)⟩
    · show R (!decide ((q : Int) ≥ 0)) h
      rw [decide_eq_true (by omega : (q : Int) ≥ 0)]
      rw [allZ_none hql (by simpa using c)] at k
      exact k
    · exact ⟨l.length - (q + 1), by omega, q + 1, by rw [wi64 (by omega) (by omega)]; omega, by omega, rfl, by rw [allZ_snoc hql, hz]; simpa using c, rfl⟩
  · obtain rfl : q = l.length := by omega
    rw [List.take_length] at hz
    rw [hz] at k
    exact k

theorem c87 {h : Heap} {s : Slc} {l : List UInt8} (a : Arr 1 bF h s l) (hl : l.length ≤ 9223372036854775806) {R : Bool → Heap → Prop} (k : R (allZ l) h) :
    Call Go.Proofs.Try.prog 87 [.lf (.slc s)] h [.one .bool] R := by
  have hlen := a.len
  refine ok87 ⟨fun i hh n => ∃ q : Nat, i = q ∧ q ≤ l.length ∧ h = hh ∧ allZ (l.take q) = true ∧ n = l.length - q, ⟨_, 0, rfl, by omega, rfl, rfl, rfl⟩, ?_⟩
  rintro _ _ _ ⟨q, rfl, hq, rfl, hz, rfl⟩
  rw [hlen]
  refine Br.dec (fun hlt => ?_) fun hge => ?_
  · have hql : q < l.length := by omega
    refine a.ix rfl (getB hql) fun b off hb => ⟨_, hb, ?_⟩
    rw [nz]
    refine Br.mk (fun c => ?_) fun c => ?_
    · rw [allZ_none hql (by simpa using c)] at k
      exact k
    · exact ⟨l.length - (q + 1), by omega, q + 1, by rw [wi64 (by omega) (by omega)]; omega, by omega, rfl, by rw [allZ_snoc hql, hz]; simpa using c, rfl⟩
  · obtain rfl : q = l.length := by omega
    rw [List.take_length] at hz
    rw [hz] at k
    exact k

theorem c88 {h : Heap} {w : Bool} {R : Int → Heap → Prop} (k : R (endS w) h) : Call Go.Proofs.Try.prog 88 [.lf (.bool w)] h [.one (.int .i64)] R :=
  ok88 (by cases w <;> exact k)
theorem c86 {h : Heap} {w : Bool} {R : Int → Heap → Prop} (k : R (headS w : Nat) h) : Call Go.Proofs.Try.prog 86 [.lf (.bool w)] h [.one (.int .i64)] R :=
  ok86 (by cases w <;> exact k)

/-- The reader in memory. -/
def rdr (s0 : Slc) (log : Int) (rec : Bool) (at' : Nat) (within : Bool) : List Lf := [.slc s0, .int .u32 log, .bool rec, .int .i64 (headS rec : Nat), .int .i64 (at' : Nat), .bool within]

section
variable {h : Heap} {p : Nat} {t : TypeId} {s0 : Slc} {log : Int} {rec : Bool} {at' : Nat} {within : Bool}

theorem c119 (B : Blk h p t (rdr s0 log rec at' within)) {R : Int → Heap → Prop} (k : R (endS within) h) : Call Go.Proofs.Try.prog 119 [.lf (.ptr (some (p, 0)))] h [.one (.int .i64)] R :=
  ok119 (NilC.mk rfl ⟨within, B.cell rfl, by cases within <;> exact k⟩)
theorem c120 (B : Blk h p t (rdr s0 log rec at' within)) {R : Int → Heap → Prop} (k : R (badS rec) h) : Call Go.Proofs.Try.prog 120 [.lf (.ptr (some (p, 0)))] h [.one (.int .i64)] R :=
  ok120 (NilC.mk rfl ⟨rec, B.cell rfl, by cases rec <;> exact k⟩)

theorem typ_run {f : List UInt8} (h6 : 6 < f.length) : (rec = false → IntKind.wrap .i64 (f[6].toNat : Int) = typS f rec) ∧ (rec = true → IntKind.wrap .i64 (IntKind.wrap .i64 (f[6].toNat : Int) - 4) = typS f rec) := by
  have hl := f[6].toNat_lt
  have ha : at_ f 6 = f[6].toNat := by simp [at_, List.getD, h6]
  unfold typS
  rw [ha]
  refine ⟨fun e => ?_, fun e => ?_⟩
  · subst e; rw [wi64 (by omega) (by omega)]; simp
  · subst e; rw [wi64 (n := (f[6].toNat : Int)) (by omega) (by omega), wi64 (by omega) (by omega)]; simp

theorem c121 (B : Blk h p t (rdr s0 log rec at' within)) {s : Slc} {f : List UInt8} (a : Byt h s f) (hf : headS rec ≤ f.length) (hf2 : f.length ≤ 100000) (hat : at' ≤ 1073741824) (hp : ∀ off, s.a ≠ some (p, off)) {R : Int → Slc → Int → Heap → Prop}
    (k0 : ∀ how h', lookS f rec log within = .stop how → Ext0 h h' → R 0 ⟨none, 0, 0⟩ how h')
    (k1 : ∀ typ body s' h', lookS f rec log within = .take typ body f.length → Ext (fun i => i = p) h h' → Blk h' p t (rdr s0 log rec (at' + f.length) within) → Byt h' s' body → (∀ b off, s'.a = some (b, off) → ∃ off', s.a = some (b, off')) → R typ s' (-1) h') :
    Call Go.Proofs.Try.prog 121 [.lf (.ptr (some (p, 0))), .lf (.slc s)] h [.one (.int .i64), .one .slc, .one (.int .i64)] R := by
  have hh := headS_two rec
  have hlen := a.len
  have h6 : 6 < f.length := by omega
  obtain ⟨ht1, ht2⟩ := typ_run (rec := rec) h6
  refine ok121 (c140 a (fun h0 => by omega) fun h4 h2 e2 => ?_)
  refine (a.ext0 e2).arr.ix (k := 6) rfl (getB h6) fun b3 b4 hb => ⟨_, hb, ?_⟩
  have B2 := B.ext e2
  refine ⟨fun i hh => i = typS f rec ∧ h2 = hh, NilC.mk rfl ⟨rec, B2.cell rfl, Br.mk (fun c => ⟨ht2 c, rfl⟩) fun c => ⟨ht1 c, rfl⟩⟩, ?_⟩
  rintro _ _ ⟨rfl, rfl⟩
  have a2 := a.ext0 e2
  refine ⟨fun c hh => c = decide (sumS f = false ∨ typS f rec < 1 ∨ typS f rec > 4) ∧ Ext0 h hh, ⟨by omega, by omega, ?_⟩, ?_⟩
  · refine c142 (a2.drop (by omega)).arr (by simp; omega) fun h14 e14 => c141 ?_
    have e := e2.trans e14
    refine Br.ne (fun c => ⟨?_, e⟩) fun c => ?_
    · have : sumS f = false := decide_eq_false c
      rw [decide_eq_true (.inl this)]
    · have hs : sumS f = true := decide_eq_true c
      refine Br.dec (fun c1 => ⟨?_, e⟩) fun c1 => ⟨?_, e⟩
      · rw [decide_eq_true (.inr (.inl c1))]
      · rw [Bool.eq_iff_iff]; simp only [decide_eq_true_eq]
        exact ⟨fun z => .inr (.inr z), fun z => by rcases z with z | z | z; · rw [hs] at z; cases z
                                                   · exact absurd z c1
                                                   · exact z⟩
  · rintro _ h18 ⟨rfl, e18⟩
    have B18 := B.ext e18
    have a18 := a.ext0 e18
    refine Br.dec (fun c => ?_) fun c => ?_
    · exact c120 B18 (k0 _ _ (by unfold lookS; rw [if_pos c]) e18)
    · refine ⟨fun hh => ¬ (rec = true ∧ logS f ≠ log) ∧ Ext0 h hh, NilC.mk rfl ⟨rec, B18.cell rfl, Br.mk (fun cr => ⟨by omega, by omega, ?_⟩) fun cr => ⟨fun z => (by rw [cr] at z; cases z.1), e18⟩⟩, ?_⟩
      · have h11 : headS rec = 11 := by rw [cr]; rfl
        refine c140 (a18.drop (by omega)) (fun h0 => by rw [List.length_drop] at h0; omega) fun _ h27 e27 => ?_
        have e := e18.trans e27
        refine NilC.mk rfl ⟨log, (B.ext e).cell rfl, Br.ne (fun c2 => ?_) fun c2 => ⟨fun z => z.2 c2, e⟩⟩
        exact k0 _ _ (by unfold lookS; rw [if_neg c, if_pos ⟨cr, c2⟩]) e
      · rintro h31 ⟨c2, e31⟩
        refine ⟨fun b hh => b = decide (typS f rec = 1 ∨ typS f rec = 2) ∧ h31 = hh, Br.eq (fun c3 => ⟨by rw [decide_eq_true (.inl c3)], rfl⟩) fun c3 => ⟨?_, rfl⟩, ?_⟩
        · rw [Bool.eq_iff_iff]; simp [c3]
        · rintro _ _ ⟨rfl, rfl⟩
          have B31 := B.ext e31
          have a31 := a.ext0 e31
          refine NilC.mk rfl ⟨within, B31.cell rfl, Br.mk (fun c4 => ?_) fun c4 => ?_⟩
          · exact c120 B31 (k0 _ _ (by unfold lookS; rw [if_neg c, if_neg c2, if_pos (by simpa using c4)]) e31)
          · refine NilC.mk rfl ⟨_, B31.cell rfl, NilC.mk rfl (StC.one B31 (by show 4 < 6; omega) fun h45 hs45 B45 e45 => NilC.mk rfl ⟨_, B45.cell rfl, by omega, by omega, ?_⟩)⟩
            rw [hlen, wi64 (by omega) (by omega)] at B45
            have hB : Blk h45 p t (rdr s0 log rec (at' + f.length) within) := by
              rw [show ((at' : Nat) : Int) + (f.length : Int) = ((at' + f.length : Nat) : Int) by omega] at B45
              exact B45
            rw [show (headS rec : Int).toNat = headS rec by omega]
            refine k1 _ _ _ _ (by unfold lookS; rw [if_neg c, if_neg c2, if_neg (by simpa using c4)]) (e31.of0.trans e45) hB ((a31.drop hf).ext e45 fun b off hb z => ?_) fun b off hb => sub_inS hb
            obtain ⟨off', hb'⟩ := sub_inS hb
            have z : b = p := z
            subst z
            exact hp off' hb'
end

end Go.V.Yteojmnnobmpdiaa
