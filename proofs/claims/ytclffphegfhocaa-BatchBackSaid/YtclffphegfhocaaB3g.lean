/- This text proves a part of the laws of seat Ytclffphegfhocaa, under no condition: B3g. -/
import Derived.Test.YtclffphegfhocaaB3f
set_option linter.unusedVariables false
set_option linter.unusedSimpArgs false
/-! Numbers of a fixed width, records as bytes, and the batch that lives. -/
namespace Go.V.Ytclffphegfhocaa
open Go Go.V

def fixedL (x n : Nat) : List UInt8 := (List.range n).map fun i => UInt8.ofNat (x / 256 ^ i)

theorem pow_8 (m : Nat) : (2 : Nat) ^ (8 * m) = 256 ^ m := by rw [Nat.pow_mul]

theorem shrN {x m : Nat} (hm : m ≤ 8) : shiftR .u64 (x : Int) ((8 * m : Nat) : Int) = ((x / 256 ^ m : Nat) : Int) := by
  show Int.fdiv (x : Int) (2 ^ (min (((8 * m : Nat) : Int)).toNat 64)) = _
  rw [Int.toNat_natCast, Nat.min_eq_left (by omega)]
  rw [show ((2 : Int) ^ (8 * m)) = ((256 ^ m : Nat) : Int) by rw [← pow_8]; simp]
  rw [Int.fdiv_eq_ediv_of_nonneg _ (Int.natCast_nonneg _)]
  simp

theorem c57 {x n : Nat} (hn : n ≤ 8) {h : Heap} {R : Slc → Heap → Prop}
    (k : ∀ s h', Own 1 bF h' s (fixedL x n) → Fresh h h' s → R s h') :
    Call Go.Proofs.Try.prog 57 [.lf (.int .u64 x), .lf (.int .i64 n)] h [.one .slc] R := by
  refine ok57 (MkC.own (f := bF) (z := (0 : UInt8)) bF_sized rfl (n := n) rfl rfl (by omega) (by omega) fun s h1 o1 hs e1 => ?_)
  refine ⟨fun i h' d => ∃ m : Nat, i = m ∧ m ≤ n ∧ d = n - m ∧ Own 1 bF h' s ((List.range n).map fun i => if i < m then UInt8.ofNat (x / 256 ^ i) else 0) ∧ Ext0 h h', ⟨_, 0, rfl, by omega, rfl, ?_, e1⟩, ?_⟩
  · rw [show ((List.range n).map fun i => if i < 0 then UInt8.ofNat (x / 256 ^ i) else 0) = List.replicate n 0 by simp [List.map_const']]
    exact o1
  rintro _ h5 _ ⟨m, rfl, hm, rfl, o, e⟩
  have hl := o.len
  simp only [List.length_map, List.length_range] at hl
  rw [hl]
  refine Br.dec (fun hi => ?_) fun hi => ?_
  · have hi' : m < n := by omega
    have e8 : IntKind.wrap .i64 ((8 : Int) * (m : Int)) = ((8 * m : Nat) : Int) := by rw [wi64 (by omega) (by omega)]; simp
    rw [e8, shrN (by omega), lo_byte]
    refine ⟨by omega, IxC.set bF_sized o rfl (by simpa using hi') rfl fun h6 hs6 o6 e6 => ⟨_, by omega, m + 1, ?_, by omega, rfl, ?_, e.trans' e6 fun i hi ⟨off, hx⟩ => ?_⟩⟩
    · rw [wi64 (by omega) (by omega)]; rfl
    · have : (((List.range n).map fun i => if i < m then UInt8.ofNat (x / 256 ^ i) else 0).set m (UInt8.ofNat (x / 256 ^ m))) = ((List.range n).map fun i => if i < m + 1 then UInt8.ofNat (x / 256 ^ i) else 0) := by
        apply List.ext_getElem?
        intro j
        rw [List.getElem?_set]
        by_cases hj : j < n
        · simp only [List.getElem?_map, List.getElem?_range hj, Option.map_some, List.length_map, List.length_range]
          split
          · rename_i he; subst he; simp [hj]
          · have : j < m + 1 ↔ j < m := by omega
            simp [this]
        · rw [List.getElem?_eq_none (by simpa using hj), List.getElem?_eq_none (by simpa using hj)]
          rw [if_neg (by omega)]
      rw [← this]; exact o6
    · rw [hs] at hx; simp at hx; omega
  · have hmn : m = n := by omega
    subst hmn
    refine k s h5 ?_ ⟨e, fun b off hb => by rw [hs] at hb; simp at hb; omega⟩
    have : ((List.range m).map fun i => if i < m then UInt8.ofNat (x / 256 ^ i) else 0) = fixedL x m := by
      apply List.map_congr_left
      intro i hi
      rw [if_pos (List.mem_range.1 hi)]
    rwa [this] at o

theorem c33 {x : Nat} {h : Heap} {R : Slc → Heap → Prop} (k : ∀ s h', Own 1 bF h' s (fixedL x 8) → Fresh h h' s → R s h') :
    Call Go.Proofs.Try.prog 33 [.lf (.int .u64 x)] h [.one .slc] R := ok33 (c57 (n := 8) (by decide) k)
theorem c34 {x : Nat} (hx : x ≤ 4294967295) {h : Heap} {R : Slc → Heap → Prop} (k : ∀ s h', Own 1 bF h' s (fixedL x 4) → Fresh h h' s → R s h') :
    Call Go.Proofs.Try.prog 34 [.lf (.int .u32 x)] h [.one .slc] R := by
  refine ok34 ?_
  unfold vc34
  rw [wu64 (by omega) (by omega)]
  exact c57 (n := 4) (by decide) k

/-- Whether so many records can have numbers from one on. -/
def fitsB (seq n : Int) : Bool := decide (seq ≤ 72057594037927935 ∧ (n = 0 ∨ n - 1 ≤ 72057594037927935 - seq))
theorem c32 {seq n : Int} (h0 : 0 ≤ seq) (h1 : 0 ≤ n) (h2 : n ≤ 9223372036854775807) {h : Heap} {R : Bool → Heap → Prop} (k : R (fitsB seq n) h) :
    Call Go.Proofs.Try.prog 32 [.lf (.int .u64 seq), .lf (.int .i64 n)] h [.one .bool] R := by
  refine ok32 (Br.dec (fun hs => Br.eq (fun hn => ?_) fun hn => ?_) fun hs => ?_)
  · have : fitsB seq n = true := by simp [fitsB]; omega
    rwa [this] at k
  · rw [wi64 (by omega) (by omega), wu64 (by omega) (by omega), wu64 (by omega) (by omega)]
    have : fitsB seq n = decide (n - 1 ≤ 72057594037927935 - seq) := by
      unfold fitsB
      rw [Bool.eq_iff_iff]; simp only [decide_eq_true_eq]; omega
    rwa [this] at k
  · have : fitsB seq n = false := by simp [fitsB]; omega
    rwa [this] at k

def encE (seq : Int) (l : List Rec) : Int :=
  if fitsB seq l.length = false then 1 else if l.length > 4096 then 2 else if bad l ≠ 0 then bad l else if 12 + tot l > 4194304 then 2 else 0
def encL (seq : Nat) (l : List Rec) : List UInt8 := fixedL seq 8 ++ fixedL l.length 4 ++ l.flatMap encR

theorem flat_tot : ∀ l : List Rec, ((l.flatMap encR).length : Int) = tot l
  | [] => rfl
  | r :: l => by simp only [List.flatMap_cons, List.length_append, tot]; have := flat_tot l; omega
theorem fixedL_len (x n : Nat) : (fixedL x n).length = n := by simp [fixedL]

theorem c17 {seq : Nat} {s : Slc} {l : List Rec} {h : Heap} (a : Arr 4 Rec.lfs h s l) (hok : ∀ r ∈ l, r.Ok) (hl : l.length ≤ 1099511627776) {R : Slc → Int → Heap → Prop}
    (k0 : encE seq l = 0 → ∀ s' h', Own 1 bF h' s' (encL seq l) → Fresh h h' s' → R s' 0 h')
    (k1 : ∀ e, encE seq l = e → e ≠ 0 → ∀ h', Ext0 h h' → R ⟨none, 0, 0⟩ e h') :
    Call Go.Proofs.Try.prog 17 [.lf (.int .u64 seq), .lf (.slc s)] h [.one .slc, .one (.int .i64)] R := by
  have hlen := a.len
  refine ok17 ?_
  unfold vc17
  rw [hlen]
  refine c32 (by omega) (by omega) (by omega) (Br.not (fun hf => ?_) fun hf => Br.dec (fun hg => ?_) fun hg => ?_)
  · exact k1 1 (by simp [encE, hf]) (by decide) _ (Ext.refl _ _)
  · exact k1 2 (by simp [encE, hf]; omega) (by decide) _ (Ext.refl _ _)
  rw [wu32 (by omega) (by omega)]
  refine c33 fun s2 h3 o2 f2 => c34 (by omega) fun s4 h5 o4 f4 => AppC.grow bF_sized (by decide) rfl (o2.ext0 f4.ext) (o4.arr bF_sized) (by rw [fixedL_len, fixedL_len]; omega) fun s6 h7 o6 g6 => ?_
  have fr6 : Fresh h h7 s6 := (f2.ext0 f4.ext).grow g6
  have hgl : l.length ≤ 4096 := by omega
  have hE : encE seq l = if bad l ≠ 0 then bad l else if 12 + tot l > 4194304 then 2 else 0 := by
    unfold encE; rw [if_neg (by simp [hf]), if_neg (by omega)]
  rw [hE] at k0 k1
  refine ⟨fun s' i h' d => ∃ (m : Nat) (B : List UInt8), i = m ∧ m ≤ l.length ∧ d = l.length - m ∧ bad (l.take m) = 0 ∧ Own 1 bF h' s' B ∧ Fresh h h' s' ∧ (12 + tot (l.take m) ≤ 4194304 → B = fixedL seq 8 ++ fixedL l.length 4 ++ (l.take m).flatMap encR) ∧ (12 + tot (l.take m) > 4194304 → 4194304 < B.length ∧ B.length ≤ 4294304), ⟨_, 0, _, rfl, by omega, rfl, rfl, o6, fr6, fun _ => by simp, fun hx => by simp [tot] at hx⟩, ?_⟩
  rintro s10 _ h12 _ ⟨m, B, rfl, hm, rfl, hbad, o, fr, hB1, hB2⟩
  have hBlen : (B.length : Int) = 12 + tot (l.take m) ∧ 12 + tot (l.take m) ≤ 4194304 ∨ 4194304 < B.length ∧ B.length ≤ 4294304 ∧ 12 + tot (l.take m) > 4194304 := by
    by_cases hh : 12 + tot (l.take m) ≤ 4194304
    · left
      rw [hB1 hh]
      have := flat_tot (l.take m)
      simp only [List.length_append, fixedL_len]; omega
    · have := hB2 (by omega)
      right; omega
  have hol := o.len
  refine Br.dec (fun hi => ?_) fun hi => ?_
  · have hi' : m < l.length := by omega
    have hx : l[m]? = some l[m] := List.getElem?_eq_getElem hi'
    have hmem := hok _ (List.getElem_mem hi')
    have ht : tot (l.take (m + 1)) = tot (l.take m) + (encR l[m]).length := by
      rw [take_succ' hi', tot_append]; simp [tot]
    refine ⟨fun s' h' => ∃ B', checkE l[m] = 0 ∧ Own 1 bF h' s' B' ∧ Fresh h h' s' ∧ (B.length ≤ 4194304 → B' = B ++ encR l[m]) ∧ (B.length > 4194304 → B' = B), ?_, ?_⟩
    · refine (a.ext0 fr.ext).ix rfl hx fun b off hc => ⟨_, _, _, _, hc, New.mk fun b1 h8 hb1 hs8 e8 _ => Set.mk fun h9 hs9 e9 _ => ?_⟩
      have e9' : Ext0 h12 h9 := Ext.tmp e8 e9 (by omega)
      refine c19 fun h10 e10 => ⟨e10.keep (by omega), Br.ne (fun hne => ?_) fun heq => ?_⟩
      · refine k1 _ ?_ hne _ ((fr.ext.trans e9').trans e10)
        rw [bad_at hi' hbad hne, if_pos hne]
      · obtain ⟨hk1, hk2⟩ := check_size heq
        have he := enc_le hmem heq
        have fr10 := (fr.ext0 e9').ext0 e10
        have hb1s : ∀ off, s10.a ≠ some (b1, off) := fun off hx => by have := (o.lt _ _ hx).1; omega
        refine Br.dec (fun hle => ?_) fun hgt => ?_
        · refine c30 hmem (by omega) (fun hh => by have := hk2 hh; omega) fun s11 h11 o11 f11 => ⟨f11.ext.keep (by have := e10.size; omega), ?_⟩
          refine AppC.grow bF_sized (by decide) rfl ((o.ext0 (e9'.trans e10)).ext0 f11.ext) (o11.arr bF_sized) (by omega) fun s12 h13 o12 g12 => ?_
          refine ⟨g12.keep (by have := e10.size; have := f11.ext.size; omega) hb1s, B ++ encR l[m], heq, o12, (fr10.ext0 f11.ext).grow g12, fun _ => rfl, fun hx => by omega⟩
        · exact ⟨B, heq, o.ext0 (e9'.trans e10), fr10, fun hx => by omega, fun _ => rfl⟩
    · rintro s' h' ⟨B', heq, o', fr', h1, h2⟩
      have he := enc_le hmem heq
      refine ⟨_, ?_, m + 1, B', ?_, by omega, rfl, bad_step hi' hbad heq, o', fr', ?_, ?_⟩
      · show l.length - (m + 1) < l.length - m; omega
      · rw [wi64 (by omega) (by omega)]; rfl
      · intro hh
        rw [ht] at hh
        rw [h1 (by omega), hB1 (by omega), take_succ' hi']; simp only [List.flatMap_append, List.flatMap_singleton, List.append_assoc]
      · intro hh
        rw [ht] at hh
        rcases hBlen with ⟨h3, h4⟩ | ⟨h3, h4, h5⟩
        · rw [h1 (by omega)]; simp only [List.length_append]; omega
        · rw [h2 (by omega)]; omega
  · have hml : m = l.length := by omega
    subst hml
    rw [List.take_length] at *
    simp only [hbad, ne_eq, not_true, if_false] at k0 k1
    refine Br.dec (fun hg' => ?_) fun hg' => ?_
    · exact k1 2 (if_pos (by omega)) (by decide) _ fr.ext
    · have hh : 12 + tot l ≤ 4194304 := by omega
      have := hB1 hh
      subst this
      exact k0 (if_neg (by omega)) _ _ o fr

theorem lives_rec : (⟨0, 1, ByteArray.mk #[97], ByteArray.mk #[98]⟩ : Rec).Ok := ⟨by decide, by decide, by decide, by decide⟩

/-- Something is put into a batch. -/
theorem c14 {h : Heap} {R : Bool → Heap → Prop} (k : ∀ h', Ext0 h h' → R true h') : Call Go.Proofs.Try.prog 14 [] h [.one .bool] R := by
  have hv1 : varint 1 = [1] := by rw [varint_small (by decide)]; rfl
  have hv0 : varint 0 = [0] := by rw [varint_small (by decide)]; rfl
  have henc : encR ⟨0, 1, ByteArray.mk #[97], ByteArray.mk #[98]⟩ = [1, 0, 1, 97, 1, 98] := by
    have : encR ⟨0, 1, ByteArray.mk #[97], ByteArray.mk #[98]⟩ = 1 :: (varint 0 ++ (varint 1 ++ [97]) ++ (varint 1 ++ [98])) := rfl
    rw [this, hv0, hv1]; rfl
  have htot : tot [⟨0, 1, ByteArray.mk #[97], ByteArray.mk #[98]⟩] = 6 := by simp only [tot, henc]; rfl
  have hall : allB ⟨[], 0, []⟩ [⟨0, 1, ByteArray.mk #[97], ByteArray.mk #[98]⟩] = (0, ⟨[⟨0, 1, ByteArray.mk #[97], ByteArray.mk #[98]⟩], 18, []⟩) := by
    unfold allB
    rw [htot]
    rfl
  have hok0 : (⟨[], 0, []⟩ : Bt).Ok := ⟨by simp, by simp, .inl ⟨rfl, rfl⟩, by simp, by simp⟩
  refine ok14 (New.mk fun b0 h1 hb0 hs1 e1 k1 => ?_)
  refine c29 (Bat.new k1) hok0 (by decide) (by decide) fun h3 F3 B3 e3 s3 => ?_
  have hok3 := allB_ok hok0 (l := [⟨0, 1, ByteArray.mk #[97], ByteArray.mk #[98]⟩]) (by simpa using lives_rec)
  rw [hall] at B3 hok3 ⊢
  have e13 : Ext0 h h3 := Ext.tmp e1 e3 (by omega)
  refine c9 B3 hok3 fun s4 h5 o4 f4 => ?_
  have hE : encE (5 : Nat) [⟨0, 1, ByteArray.mk #[97], ByteArray.mk #[98]⟩] = 0 := by
    unfold encE
    rw [htot]
    rfl
  refine c17 (seq := 5) (o4.arr lfs_sized) (by simpa using lives_rec) (by simp) (fun _ s6 h8 o6 f6 => ?_) fun e he hne => absurd (he.symm.trans hE) hne
  refine Br.t rfl (Br.t rfl (c10 ((B3.ext0 f4.ext).ext0 f6.ext) hok3 (Br.t ?_ ⟨_, (o6.arr bF_sized).bytes fun _ => rfl, ?_⟩)))
  · simp only [htot]; rfl
  · have hL : encL 5 [⟨0, 1, ByteArray.mk #[97], ByteArray.mk #[98]⟩] = [5, 0, 0, 0, 0, 0, 0, 0, 1, 0, 0, 0, 1, 0, 1, 97, 1, 98] := by
      unfold encL
      rw [List.flatMap_singleton, henc]
      rfl
    rw [hL]
    have := k h8 ((e13.trans f4.ext).trans f6.ext)
    rwa [show strEq ⟨#[5, 0, 0, 0, 0, 0, 0, 0, 1, 0, 0, 0, 1, 0, 1, 97, 1, 98]⟩ (ByteArray.mk #[5, 0, 0, 0, 0, 0, 0, 0, 1, 0, 0, 0, 1, 0, 1, 97, 1, 98]) = true from beq_refl _]

end Go.V.Ytclffphegfhocaa
