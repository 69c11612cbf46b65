/- This text proves a part of the laws of seat Ytclffphegfhocaa, under no condition: B3c. -/
import Derived.Test.YtclffphegfhocaaVL2
import Derived.Test.YtclffphegfhocaaB3b
set_option linter.unusedVariables false
set_option linter.unusedSimpArgs false
/-! The bytes of a record and of numbers of a fixed width. -/
namespace Go.V.Ytclffphegfhocaa
open Go Go.V

theorem strnews (s : ByteArray) : (s.data.toList.map fun (c : UInt8) => Value.int IntKind.u8 (c.toNat : Int)) = (s.data.toList.flatMap bF).map Lf.val := by
  generalize s.data.toList = l
  induction l with
  | nil => rfl
  | cons x l ih => rw [List.map_cons, ih]; rfl

theorem bsize (s : ByteArray) : s.data.toList.length = s.size := rfl

/-- A text and its length behind bytes. -/
theorem c56 {s : Slc} {t : ByteArray} {l : List UInt8} {h : Heap} (o : Own 1 bF h s l) (hb : l.length + t.size ≤ 1099511627776) {R : Slc → Heap → Prop}
    (k : ∀ s' h', Own 1 bF h' s' (l ++ (varint t.size ++ t.data.toList)) → Grow s h s' h' → R s' h') :
    Call Go.Proofs.Try.prog 56 [.lf (.slc s), .lf (.str t)] h [.one .slc] R := by
  refine ok56 ?_
  unfold vc56
  rw [wu64 (by omega) (by omega)]
  have hv := varint_len10 (n := t.size) (by omega)
  refine c55 (by omega) fun s1 h1 o1 e1 f1 => AppC.grow bF_sized (by decide) rfl (o.ext0 e1) (o1.arr bF_sized) (by omega) fun s2 h2 o2 g2 => ?_
  refine AppV.grow bF_sized (by decide) rfl o2 (m := t.data.toList) (by rw [bsize, List.length_append]; omega) (bsize t).symm (strnews t) fun s3 h3 o3 g3 => ?_
  exact k _ _ (by simpa using o3) ((g2.pre e1).trans g3)

theorem kbyte (k : Int) : IntKind.wrap .u8 k = ((UInt8.ofNat (k % 256).toNat).toNat : Int) := by
  simp [IntKind.wrap, IntKind.bits, IntKind.signed]; omega

/-- A record's bytes. -/
theorem c30 {r : Rec} (hr : r.Ok) (h1 : r.key.size ≤ 1099511627000) (h2 : r.kind ≠ 0 → r.val.size + r.key.size ≤ 1099511627000) {h : Heap} {R : Slc → Heap → Prop}
    (k : ∀ s' h', Own 1 bF h' s' (encR r) → Fresh h h' s' → R s' h') :
    Call Go.Proofs.Try.prog 30 [.agg r.lfs] h [.one .slc] R := by
  obtain ⟨fam, kind, key, val⟩ := r
  obtain ⟨f0, f1, k0, k1⟩ := hr
  simp only at h1 h2 f0 f1 k0 k1
  obtain ⟨n, rfl⟩ := Int.eq_ofNat_of_zero_le f0
  have hl1 := varint_len10 (n := n) (by omega)
  have hl2 := varint_len10 (n := key.size) (by omega)
  have hn : (n : Int) ≤ 18446744073709551615 := by omega
  refine ok30 (New.mk fun b0 g1 hb0 hs1 e1 kb0 => ⟨fun s g => Own 1 bF g s (UInt8.ofNat (kind % 256).toNat :: varint n) ∧ Fresh h g s ∧ Ext0 g1 g ∧ (∀ off, s.a ≠ some (b0, off)), ⟨?_, ?_⟩, ?_⟩)
  · refine New.mk fun b3 g4 hb3 hs4 e4 kb3 => ?_
    rw [wu64 f0 hn]
    rw [bF_one _ _ (kbyte kind)] at kb3
    have o3 := Own.new bF_sized kb3
    refine c55 (by omega) fun s5 g6 o5 e6 f6 => ⟨e6.keep (by omega), ?_⟩
    refine AppC.grow bF_sized (by decide) rfl (o3.ext0 e6) (o5.arr bF_sized) (by simp; omega) fun s7 g8 o7 gr => ⟨gr.keep (by have := e6.size; omega) (by intro off hx; simp at hx; omega), o7, ?_, ?_, ?_⟩
    · exact Fresh.grow ⟨(e1.trans e4).trans e6, fun b off hx => by simp at hx; omega⟩ gr
    · exact (e4.trans e6).trans' gr.ext fun i hi ⟨off, hx⟩ => by simp at hx; omega
    · intro off hx
      rcases gr.new with h3 | ⟨b, h3, h4⟩
      · rw [h3] at hx; simp at hx; omega
      · rw [h3] at hx; simp at hx; have := e6.size; omega
  · rw [wu64 f0 hn]
    refine c55 (by omega) fun s5 g6 o5 e6 f6 => ⟨e6.keep (by omega), ?_⟩
    refine New.mk fun b3 g4 hb3 hs4 e4 kb3 => ?_
    rw [bF_one _ _ (kbyte kind)] at kb3
    have o3 := Own.new bF_sized kb3
    have := e6.size
    refine AppC.grow bF_sized (by decide) rfl o3 ((o5.ext0 e4).arr bF_sized) (by simp; omega) fun s7 g8 o7 gr => ⟨gr.keep (by omega) (by intro off hx; simp at hx; omega), o7, ?_, ?_, ?_⟩
    · exact Fresh.grow ⟨(e1.trans e6).trans e4, fun b off hx => by simp at hx; omega⟩ gr
    · exact (e6.trans e4).trans' gr.ext fun i hi ⟨off, hx⟩ => by simp at hx; omega
    · intro off hx
      rcases gr.new with h3 | ⟨b, h3, h4⟩
      · rw [h3] at hx; simp at hx; omega
      · rw [h3] at hx; simp at hx; omega
  · rintro s g ⟨o, fr, e, hnb⟩
    have := e.size
    refine c56 o (by simp; omega) fun s' g' o' gr => ⟨gr.keep (by omega) (fun off => hnb off), ?_⟩
    have hnb' : ∀ off, s'.a ≠ some (b0, off) := fun off hx => by
      rcases gr.new with h3 | ⟨b, h3, h4⟩
      · exact hnb off (h3 ▸ hx)
      · rw [h3] at hx; simp at hx; omega
    have := gr.ext.size
    refine Br.ne (fun h0 => ?_) fun h0 => ?_
    · have := h2 h0
      refine c56 o' (by simp only [List.length_append, List.length_cons, bsize]; omega) fun s'' g'' o'' gr' => ⟨gr'.keep (by omega) (fun off => hnb' off), k _ _ ?_ ((fr.grow gr).grow gr')⟩
      simpa [encR, h0] using o''
    · subst h0
      refine k _ _ ?_ (fr.grow gr)
      simpa [encR] using o'

/-- The bytes of a number, by the document. -/
theorem c28 {n : Nat} (hn : n < 18446744073709551616) {h : Heap} {R : Slc → Heap → Prop}
    (k : ∀ s h', Own 1 bF h' s (varint n) → Fresh h h' s → R s h') :
    Call Go.Proofs.Try.prog 28 [.lf (.int .u64 n)] h [.one .slc] R := by
  refine ok28 (New.mk fun b0 g1 hb0 hs1 e1 kb0 => ?_)
  have o0 : Own 1 bF g1 ⟨some (b0, 0), 0, 0⟩ ([] : List UInt8) := Own.new (l := ([] : List UInt8)) bF_sized kb0
  refine ⟨fun i s h' d => ∃ (m : Nat) (l : List UInt8), i = m ∧ m < 18446744073709551616 ∧ m = d ∧ varint n = l ++ varint m ∧ Own 1 bF h' s l ∧ Fresh h h' s, ⟨n, n, [], rfl, hn, rfl, rfl, o0, ⟨e1, fun b off hx => by simp at hx; omega⟩⟩, ?_⟩
  rintro _ s h4 _ ⟨m, l, rfl, hm, rfl, hl, o, fr⟩
  have hlen' : l.length + (varint m).length ≤ 10 := by
    have := varint_len10 (n := n) (by omega)
    rw [hl] at this; simpa using this
  have hpos : 0 < (varint m).length := by rw [varint]; split <;> simp
  refine Br.dec (fun hge => ?_) fun hlt => ?_
  · have hge' : ¬ m < 128 := by omega
    refine New.mk fun b6 h7 hb hs7 e7 k7 => ?_
    rw [and127 hm] at k7
    have h3 : ((m % 128 : Nat) : Int) = ((m % 128 : Nat) : Int) := rfl
    rw [bF_one _ _ (or_byte (m % 128)), Nat.mod_mod] at k7
    refine AppC.grow bF_sized (by decide) rfl (o.ext0 e7) ((Own.new bF_sized k7).arr bF_sized) (by simp only [List.length_singleton]; omega) fun s8 h9 o9 g9 => ?_
    refine ⟨by decide, m / 128, by omega, m / 128, _, shr7 m, by omega, rfl, ?_, o9, (fr.ext0 e7).grow g9⟩
    rw [hl, varint_big hge']; simp
  · have hlt' : m < 128 := by omega
    refine New.mk fun b6 h7 hb hs7 e7 k7 => ?_
    rw [bF_one _ _ lo_byte] at k7
    refine AppC.grow bF_sized (by decide) rfl (o.ext0 e7) ((Own.new bF_sized k7).arr bF_sized) (by simp only [List.length_singleton]; omega) fun s8 h9 o9 g9 => ?_
    rw [← varint_small hlt', ← hl] at o9
    exact k _ _ o9 ((fr.ext0 e7).grow g9)

/-- How many bytes a record takes, by the document. -/
theorem c11 {r : Rec} (hr : r.Ok) (h1 : r.key.size ≤ 1099511627000) (h2 : r.kind ≠ 0 → r.val.size + r.key.size ≤ 1099511627000) (h3 : r.val.size ≤ 9223372036854775807) {h : Heap} {R : Int → Heap → Prop}
    (k : ∀ h', Ext0 h h' → R ((encR r).length : Int) h') :
    Call Go.Proofs.Try.prog 11 [.agg r.lfs] h [.one (.int .i64)] R := by
  obtain ⟨fam, kind, key, val⟩ := r
  obtain ⟨f0, f1, k0, k1⟩ := hr
  simp only at h1 h2 h3 f0 f1 k0 k1
  obtain ⟨n, rfl⟩ := Int.eq_ofNat_of_zero_le f0
  have hl1 := varint_len10 (n := n) (by omega)
  have hl2 := varint_len10 (n := key.size) (by omega)
  have hl3 := varint_len10 (n := val.size) (by omega)
  have hn : (n : Int) ≤ 18446744073709551615 := by omega
  have klen : (encR ⟨n, kind, key, val⟩).length = 1 + (varint n).length + ((varint key.size).length + key.size) + if kind = 0 then 0 else (varint val.size).length + val.size := by
    unfold encR
    split <;> simp [bsize] <;> omega
  rw [klen] at k
  refine ok11 (a0 := n) (a1 := kind) (a2 := key) (a3 := val) (New.mk fun b0 g1 hb0 hs1 e1 kb0 => ?_)
  rw [wu64 f0 hn, wu64 (n := (key.size : Int)) (by omega) (by omega)]
  refine c28 (by omega) fun s2 g3 o2 fr2 => ⟨fr2.ext.keep (by omega), c28 (by omega) fun s4 g5 o4 fr4 => ⟨fr4.ext.keep (by have := fr2.ext.size; omega), ?_⟩⟩
  have hs2 := o2.len
  have hs4 := o4.len
  refine Br.ne (fun h0 => ?_) fun h0 => ?_
  · rw [if_neg h0] at k
    have := h2 h0
    rw [wu64 (n := (val.size : Int)) (by omega) (by omega)]
    refine c28 (by omega) fun s6 g7 o6 fr6 => ⟨fr6.ext.keep (by have := fr2.ext.size; have := fr4.ext.size; omega), ?_⟩
    have hs6 := o6.len
    rw [hs2, hs4, hs6, wi64 (n := 1 + _) (by omega) (by omega), wi64 (n := 1 + _ + _) (by omega) (by omega), wi64 (n := 1 + _ + _ + _) (by omega) (by omega), wi64 (n := 1 + _ + _ + _ + _) (by omega) (by omega), wi64 (by omega) (by omega)]
    have := k _ (((e1.trans fr2.ext).trans fr4.ext).trans fr6.ext)
    refine cast ?_ this
    congr 1
    omega
  · rw [if_pos h0] at k
    rw [hs2, hs4, wi64 (n := 1 + _) (by omega) (by omega), wi64 (n := 1 + _ + _) (by omega) (by omega), wi64 (by omega) (by omega)]
    have := k _ ((e1.trans fr2.ext).trans fr4.ext)
    refine cast ?_ this
    congr 1
    omega

/-- A copy of records. -/
theorem c27 {s : Slc} {l : List Rec} {h : Heap} (a : Arr 4 Rec.lfs h s l) (hl : l.length ≤ 1099511627776) {R : Slc → Heap → Prop}
    (k : ∀ s' h', Own 4 Rec.lfs h' s' l → Fresh h h' s' → R s' h') :
    Call Go.Proofs.Try.prog 27 [.lf (.slc s)] h [.one .slc] R := by
  refine ok27 (Br.mk (fun hn => ?_) fun hn => New.mk fun b0 g1 hb0 hs1 e1 kb0 => ?_)
  · have : l = [] := Classical.byContradiction fun hne => by
      obtain ⟨b, off, hb⟩ := a.ne hne
      rw [hb] at hn; cases hn
    subst this
    exact k _ _ (Own.nil _ _ _) (Fresh.nil 0)
  · have o0 : Own 4 Rec.lfs g1 ⟨some (b0, 0), 0, 0⟩ ([] : List Rec) := Own.new (l := ([] : List Rec)) lfs_sized kb0
    refine AppC.grow lfs_sized (by decide) rfl o0 (a.ext0 e1) (by simp; omega) fun s8 h9 o9 g9 => ?_
    exact k _ _ (by simpa using o9) (Fresh.grow ⟨e1, fun b off hx => by simp at hx; omega⟩ g9)

end Go.V.Ytclffphegfhocaa
