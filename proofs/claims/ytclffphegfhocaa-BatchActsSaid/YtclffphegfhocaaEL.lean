/- This text proves a part of the laws of seat Ytclffphegfhocaa, under no condition: B3v. -/
import Derived.Test.YtclffphegfhocaaEK2
set_option linter.unusedVariables false
set_option linter.unusedSimpArgs false
/-! The document's Encode; BatchEncodes, BatchDecodes. -/
namespace Go.V.Ytclffphegfhocaa
open Go Go.V

/-- What is read of an input's record. -/
structure RecB (r : Rec) : Prop where
  ok : r.Ok
  ks : r.key.size ≤ 9223372036854775807
  vs : r.val.size ≤ 9223372036854775807

section
variable {h : Heap}

theorem cCheckRef {fam kind : Int} {key val : ByteArray} (hks : key.size ≤ 9223372036854775807) (hvs : val.size ≤ 9223372036854775807) {R : Int → Heap → Prop} (k : ∀ h', Ext0 h h' → R (checkE ⟨fam, kind, key, val⟩) h') :
    Call Go.Proofs.Try.prog 20 [.agg [.int .u32 fam, .int .i64 kind, .str key, .str val]] h [.one (.int .i64)] R := by
  refine ok20 (New.mk fun b0 h1 hb0 hs1 e1 _ => ?_)
  refine ⟨fun c hh => c = decide (kind < 0 ∨ kind > 2) ∧ h1 = hh, Br.dec (fun c => ⟨(decide_eq_true (.inl c)).symm, rfl⟩) fun c => ⟨?_, rfl⟩, ?_⟩
  · rw [Bool.eq_iff_iff]; simp only [decide_eq_true_eq]; omega
  rintro _ _ ⟨rfl, rfl⟩
  have kk : R (if kind = 0 then (if key.size > 1024 then 2 else 0) else if kind = 1 then (if key.size > 1024 then 2 else if val.size > 16384 then 2 else 0) else if kind = 2 then (if key.size > 1024 then 2 else if val.size > 1024 then 2 else 0) else 1) h1 := k h1 e1
  clear k
  refine Br.dec (fun c => ?_) fun c => Br.dec (fun c2 => ?_) fun c2 => c38 ⟨(Ext.refl none' h1).keep (by omega), ?_⟩
  · rw [if_neg (by omega), if_neg (by omega), if_neg (by omega)] at kk
    exact kk
  · have : kind = 0 ∨ kind = 1 ∨ kind = 2 := by omega
    rcases this with e | e | e
    · rw [if_pos e, if_pos (by omega)] at kk; exact kk
    · rw [if_neg (by omega), if_pos e, if_pos (by omega)] at kk; exact kk
    · rw [if_neg (by omega), if_neg (by omega), if_pos e, if_pos (by omega)] at kk; exact kk
  · have : kind = 0 ∨ kind = 1 ∨ kind = 2 := by omega
    rcases this with e | e | e
    · rw [if_neg (by omega), if_neg (by omega)]
      rw [if_pos e, if_neg (by omega)] at kk
      exact Br.f (decide_eq_false (by omega)) kk
    · rw [if_pos e]
      rw [if_neg (by omega), if_pos e, if_neg (by omega)] at kk
      refine Br.dec (fun c3 => ?_) fun c3 => ?_
      · rw [if_pos (by omega)] at kk; exact kk
      · rw [if_neg (by omega)] at kk; exact kk
    · rw [if_neg (by omega), if_pos e]
      rw [if_neg (by omega), if_neg (by omega), if_pos e, if_neg (by omega)] at kk
      refine Br.dec (fun c3 => ?_) fun c3 => ?_
      · rw [if_pos (by omega)] at kk; exact kk
      · rw [if_neg (by omega)] at kk; exact kk

theorem c20 {r : Rec} (hr : RecB r) {R : Int → Heap → Prop} (k : ∀ h', Ext0 h h' → R (checkE r) h') :
    Call Go.Proofs.Try.prog 20 [.agg r.lfs] h [.one (.int .i64)] R :=
  cCheckRef hr.ks hr.vs k

theorem c37 {x n : Nat} (hn : n ≤ 8) {R : Slc → Heap → Prop} (k : ∀ s h', Own 1 bF h' s (fixedL x n) → Fresh h h' s → R s h') :
    Call Go.Proofs.Try.prog 37 [.lf (.int .u64 x), .lf (.int .i64 n)] h [.one .slc] R := by
  refine ok37 (New.mk fun b0 h1 hb0 hs1 e1 k1 => ?_)
  refine ⟨fun s i hh d => ∃ q : Nat, i = q ∧ q ≤ n ∧ Own 1 bF hh s (fixedL x q) ∧ Fresh h hh s ∧ d = n - q, ⟨_, 0, rfl, by omega, Own.new (l := ([] : List UInt8)) bF_sized k1, ⟨e1, fun b off z => by cases z; omega⟩, rfl⟩, ?_⟩
  rintro s _ h6 _ ⟨q, rfl, hq, o, f, rfl⟩
  refine Br.dec (fun c => ?_) fun c => ?_
  · have e8 : IntKind.wrap .u64 (IntKind.wrap .i64 ((8 : Int) * (q : Int))) = ((8 * q : Nat) : Int) := by rw [wi64 (by omega) (by omega), wu64 (by omega) (by omega)]; omega
    rw [e8, shrN (by omega), lo_byte]
    refine ⟨by omega, New.mk fun b8 h9 hb8 hs9 e9 k9 => ?_⟩
    have o9 : Own 1 bF h9 ⟨some (b8, 0), 1, 1⟩ [UInt8.ofNat (x / 256 ^ q)] := Own.new (l := [UInt8.ofNat (x / 256 ^ q)]) bF_sized k9
    have hfl := fixedL_len x q
    refine AppC.grow bF_sized (by omega) rfl (o.ext0 e9) (o9.arr bF_sized) (by rw [hfl]; simp; omega) fun s10 h11 o11 g11 => ⟨n - (q + 1), by omega, q + 1, by rw [wi64 (by omega) (by omega)]; omega, by omega, ?_, (f.ext0 e9).grow g11, rfl⟩
    have : fixedL x (q + 1) = fixedL x q ++ [UInt8.ofNat (x / 256 ^ q)] := by unfold fixedL; rw [List.range_succ, List.map_append]; rfl
    rw [this]; exact o11
  · obtain rfl : q = n := by omega
    exact k s h6 o f

theorem c36 {s : Slc} {l : List Rec} (a : Arr 4 Rec.lfs h s l) (hok : ∀ r ∈ l, RecB r) (hl : l.length ≤ 4096) (hb : bad l = 0) {R : Int → Heap → Prop} (k : ∀ h', Ext0 h h' → R (12 + tot l) h') :
    Call Go.Proofs.Try.prog 36 [.lf (.slc s)] h [.one (.int .i64)] R := by
  have hlen := a.len
  have htot := tot_le (fun r hr => (hok r hr).ok) hb
  refine ok36 ⟨fun r i hh d => ∃ q : Nat, i = q ∧ q ≤ l.length ∧ r = 12 + tot (l.take q) ∧ Ext0 h hh ∧ d = l.length - q, ⟨_, 0, rfl, by omega, rfl, Ext.refl _ _, rfl⟩, ?_⟩
  rintro _ _ h4 _ ⟨q, rfl, hq, rfl, e, rfl⟩
  rw [hlen]
  refine Br.dec (fun c => ?_) fun c => ?_
  · have hql : q < l.length := by omega
    have hmem := List.getElem_mem hql
    have hc : checkE l[q] = 0 := bad_all hb _ hmem
    obtain ⟨hk1, hk2⟩ := check_size hc
    have ht : tot (l.take (q + 1)) = tot (l.take q) + (encR l[q]).length := by
      rw [take_succ' hql, tot_append]; simp [tot]
    have htq : tot (l.take (q + 1)) ≤ tot l := by
      have := tot_append (l.take (q + 1)) (l.drop (q + 1))
      rw [List.take_append_drop] at this
      have := tot_nonneg (l.drop (q + 1))
      omega
    have h0 := tot_nonneg (l.take q)
    refine (a.ext0 e).ix rfl (List.getElem?_eq_getElem hql) fun bb off hb' => ⟨_, _, _, _, hb', c11 (hok _ hmem).ok (by omega) (fun hh => by have := hk2 hh; omega) (hok _ hmem).vs fun h13 e13 => ⟨l.length - (q + 1), by omega, q + 1, by rw [wi64 (by omega) (by omega)]; omega, by omega, ?_, e.trans e13, rfl⟩⟩
    rw [wi64 (by omega) (by omega), ht]; omega
  · obtain rfl : q = l.length := by omega
    rw [List.take_length]
    exact k h4 e

theorem c18 {seq : Nat} {s : Slc} {l : List Rec} (a : Arr 4 Rec.lfs h s l) (hok : ∀ r ∈ l, RecB r) (hl : l.length ≤ 2932031007402) {R : Slc → Int → Heap → Prop}
    (k0 : encE seq l = 0 → ∀ s' h', Own 1 bF h' s' (encL seq l) → Fresh h h' s' → R s' 0 h')
    (k1 : ∀ e, encE seq l = e → e ≠ 0 → ∀ h', Ext0 h h' → R ⟨none, 0, 0⟩ e h') :
    Call Go.Proofs.Try.prog 18 [.lf (.int .u64 seq), .lf (.slc s)] h [.one .slc, .one (.int .i64)] R := by
  have hlen := a.len
  refine ok18 ?_
  unfold vc18
  rw [hlen]
  refine c35 (by omega) (by omega) (by omega) (Br.not (fun hf => ?_) fun hf => Br.dec (fun hg => ?_) fun hg => ?_)
  · exact k1 1 (by simp [encE, hf]) (by decide) _ (Ext.refl _ _)
  · exact k1 2 (by simp [encE, hf]; omega) (by decide) _ (Ext.refl _ _)
  have hgl : l.length ≤ 4096 := by omega
  have hE : encE seq l = if bad l ≠ 0 then bad l else if 12 + tot l > 4194304 then 2 else 0 := by
    unfold encE; rw [if_neg (by simp [hf]), if_neg (by omega)]
  rw [hE] at k0 k1
  refine ⟨fun i hh d => ∃ q : Nat, i = q ∧ q ≤ l.length ∧ bad (l.take q) = 0 ∧ Ext0 h hh ∧ d = l.length - q, ⟨_, 0, rfl, by omega, rfl, Ext.refl _ _, rfl⟩, ?_⟩
  rintro _ h5 _ ⟨q, rfl, hq, hbad, e5, rfl⟩
  refine Br.dec (fun c => ?_) fun c => ?_
  · have hql : q < l.length := by omega
    refine (a.ext0 e5).ix rfl (List.getElem?_eq_getElem hql) fun bb off hb' => ⟨_, _, _, _, hb', c20 (hok _ (List.getElem_mem hql)) fun h14 e14 => Br.ne (fun hne => ?_) fun heq => ⟨l.length - (q + 1), by omega, q + 1, by rw [wi64 (by omega) (by omega)]; omega, by omega, bad_step hql hbad heq, e5.trans e14, rfl⟩⟩
    exact k1 _ (by rw [bad_at hql hbad hne, if_pos hne]) hne _ (e5.trans e14)
  obtain rfl : q = l.length := by omega
  rw [List.take_length] at hbad
  simp only [hbad, ne_eq, not_true, if_false] at k0 k1
  refine c36 (a.ext0 e5) hok hgl hbad fun h17 e17 => Br.dec (fun c2 => k1 2 (if_pos (by omega)) (by decide) _ (e5.trans e17)) fun c2 => ?_
  have htot : 12 + tot l ≤ 4194304 := by omega
  have k0 := k0 (if_neg (by omega))
  have e017 := e5.trans e17
  refine c37 (n := 8) (by omega) fun s18 h19 o18 f18 => ?_
  rw [wu64 (by omega) (by omega)]
  refine c37 (n := 4) (by omega) fun s20 h21 o20 f20 => AppC.grow bF_sized (by omega) rfl (o18.ext0 f20.ext) (o20.arr bF_sized) (by rw [fixedL_len, fixedL_len]; omega) fun s22 h23 o22 g22 => ?_
  have fr22 : Fresh h h23 s22 := ⟨e017.trans (((f18.ext0 f20.ext).grow g22).ext), fun bb off z => Nat.le_trans e017.size (((f18.ext0 f20.ext).grow g22).new bb off z)⟩
  refine ⟨fun s' i hh d => ∃ (q : Nat), i = q ∧ q ≤ l.length ∧ Own 1 bF hh s' (fixedL seq 8 ++ fixedL l.length 4 ++ (l.take q).flatMap encR) ∧ Fresh h hh s' ∧ d = l.length - q, ⟨_, 0, rfl, by omega, by simpa using o22, fr22, rfl⟩, ?_⟩
  rintro s26 _ h28 _ ⟨q, rfl, hq, o, fr, rfl⟩
  refine Br.dec (fun c => ?_) fun c => ?_
  · have hql : q < l.length := by omega
    have hmem := List.getElem_mem hql
    have hc : checkE l[q] = 0 := bad_all hbad _ hmem
    obtain ⟨hk1, hk2⟩ := check_size hc
    have hx : l[q]? = some l[q] := List.getElem?_eq_getElem hql
    have hBl : ((fixedL seq 8 ++ fixedL l.length 4 ++ (l.take q).flatMap encR).length : Int) ≤ 4194304 := by
      have h1 := flat_tot (l.take q)
      have h2 := tot_append (l.take q) (l.drop q)
      rw [List.take_append_drop] at h2
      have h3 := tot_nonneg (l.drop q)
      simp only [List.length_append, fixedL_len]
      omega
    have hok1 := hok _ hmem
    have htk : (l.take (q + 1)).flatMap encR = (l.take q).flatMap encR ++ encR l[q] := by
      rw [take_succ' hql]; simp only [List.flatMap_append, List.flatMap_singleton]
    generalize hBB : fixedL seq 8 ++ fixedL l.length 4 ++ (l.take q).flatMap encR = BB at *
    refine ⟨fun s' hh => Own 1 bF hh s' (BB ++ encR l[q]) ∧ Fresh h hh s', ?_, ?_⟩
    · refine (a.ext0 fr.ext).ix rfl hx fun bb off hb' => ⟨_, _, _, _, hb', ?_⟩
      generalize hr : l[q] = r at *
      have hv9 : r.kind ≠ 0 → r.val.size ≤ 16384 := fun z => by have := hk2 z; omega
      refine New.mk fun b37 h38 hb37 hs38 e38 _ => Set.mk fun h39 hs39 e39 _ => New.mk fun b40 h41 hb40 hs41 e41 k41 => ?_
      have e41' : Ext0 h28 h41 := (Ext.tmp e38 e39 (by omega)).trans e41
      have hkb : IntKind.wrap .u8 r.kind = ((UInt8.ofNat (r.kind % 256).toNat).toNat : Int) := by
        have h1 : IntKind.wrap .u8 r.kind = r.kind % 256 := by simp [IntKind.wrap, IntKind.bits, IntKind.signed]
        rw [h1]
        have h2 : (UInt8.ofNat (r.kind % 256).toNat).toNat = (r.kind % 256).toNat := u8nat (by omega)
        rw [h2]; omega
      rw [hkb] at k41
      have o41 : Own 1 bF h41 ⟨some (b40, 0), 1, 1⟩ [UInt8.ofNat (r.kind % 256).toNat] := Own.new (l := [UInt8.ofNat (r.kind % 256).toNat]) bF_sized k41
      have nb : ∀ {s' : Slc} {hh : Heap}, Fresh h28 hh s' ∨ True → True := fun _ => trivial
      have hs26 : ∀ off, s26.a ≠ some (b37, off) := fun off z => by have := (o.lt _ _ z).1; omega
      have o26 := o.ext0 e41'
      refine AppC.grow bF_sized (by omega) rfl o26 (o41.arr bF_sized) (by simp; omega) fun s42 h43 o42 g43 => ?_
      have s43 := g43.ext.size
      have hs41' := e41'.size
      have fr43 := (fr.ext0 e41').grow g43
      have nm : ∀ {sx sy : Slc} {hx hy : Heap}, (∀ off, sx.a ≠ some (b37, off)) → b37 < hx.size → Grow sx hx sy hy → (∀ off, sy.a ≠ some (b37, off)) := fun n1 n2 g off z => by
        rcases g.new with w | ⟨b', w, hw⟩
        · rw [w] at z; exact n1 off z
        · rw [w] at z; cases z; omega
      have n42 := nm hs26 (by omega) g43
      refine ⟨g43.keep (by omega) hs26, ?_⟩
      rw [wu64 hok1.ok.f0 (by have := hok1.ok.f1; omega)]
      obtain ⟨f, hf⟩ := Int.eq_ofNat_of_zero_le hok1.ok.f0
      have hf1 := hok1.ok.f1
      rw [hf] at hf1 ⊢
      have hvf := varint_len10 (n := f) (by omega)
      refine c28 (by omega) fun s44 h45 o44 f45 => ⟨f45.ext.keep (by omega), ?_⟩
      have s45 := f45.ext.size
      refine AppC.grow bF_sized (by omega) rfl (o42.ext0 f45.ext) (o44.arr bF_sized) (by simp; omega) fun s46 h47 o46 g47 => ⟨g47.keep (by omega) n42, ?_⟩
      have s47 := g47.ext.size
      have n46 := nm n42 (by omega) g47
      have fr47 := (fr43.ext0 f45.ext).grow g47
      rw [wu64 (by omega) (by omega)]
      have hvk := varint_len10 (n := r.key.size) (by omega)
      refine c28 (by omega) fun s48 h49 o48 f49 => ⟨f49.ext.keep (by omega), ?_⟩
      have s49 := f49.ext.size
      refine AppC.grow bF_sized (by omega) rfl (o46.ext0 f49.ext) (o48.arr bF_sized) (by simp; omega) fun s50 h51 o50 g51 => ⟨g51.keep (by omega) n46, ?_⟩
      have s51 := g51.ext.size
      have n50 := nm n46 (by omega) g51
      have fr51 := (fr47.ext0 f49.ext).grow g51
      refine AppV.grow bF_sized (by omega) rfl o50 (m := r.key.data.toList) (by rw [bsize]; simp; omega) (bsize r.key).symm (strnews r.key) fun s52 h53 o52 g53 => ⟨g53.keep (by omega) n50, ?_⟩
      have s53 := g53.ext.size
      have n52 := nm n50 (by omega) g53
      have fr53 := fr51.grow g53
      refine Br.ne (fun ck => ?_) fun ck => ⟨?_, fr53⟩
      · have hvz := hv9 ck
        rw [wu64 (by omega) (by omega)]
        have hvv := varint_len10 (n := r.val.size) (by omega)
        refine c28 (by omega) fun s54 h55 o54 f55 => ⟨f55.ext.keep (by omega), ?_⟩
        have s55 := f55.ext.size
        have hkl := bsize r.key
        refine AppC.grow bF_sized (by omega) rfl (o52.ext0 f55.ext) (o54.arr bF_sized) (by simp only [List.length_append, hkl]; simp; omega) fun s56 h57 o56 g57 => ⟨g57.keep (by omega) n52, ?_⟩
        have s57 := g57.ext.size
        have n56 := nm n52 (by omega) g57
        refine AppV.grow bF_sized (by omega) rfl o56 (m := r.val.data.toList) (by rw [bsize]; simp only [List.length_append, hkl]; simp; omega) (bsize r.val).symm (strnews r.val) fun s58 h59 o58 g59 => ⟨g59.keep (by omega) n56, ?_, ((fr53.ext0 f55.ext).grow g57).grow g59⟩
        unfold encR
        rw [if_neg ck, hf]
        simpa using o58
      · unfold encR
        rw [if_pos ck, hf]
        simpa using o52
    · rintro s60 h61 ⟨o61, f61⟩
      refine ⟨l.length - (q + 1), by omega, q + 1, by rw [wi64 (by omega) (by omega)]; omega, by omega, ?_, f61, rfl⟩
      rw [htk, ← List.append_assoc, hBB]
      exact o61
  · obtain rfl : q = l.length := by omega
    rw [List.take_length] at o
    exact k0 s26 h28 o fr

theorem c43 {r : Rec} {R : Int → Int → ByteArray → ByteArray → Heap → Prop} (k : ∀ h', Ext0 h h' → R (plainR r).fam (plainR r).kind (plainR r).key (plainR r).val h') :
    Call Go.Proofs.Try.prog 43 [.agg r.lfs] h [.agg [.int .u32, .int .i64, .str, .str]] R := by
  obtain ⟨fam, kind, key, val⟩ := r
  refine ok43 (New.mk fun b0 h1 hb0 hs1 e1 _ => New.mk fun b2 h3 hb2 hs3 e3 _ => Br.eq (fun c => Set.mk fun h4 hs4 e4 _ => Set.mk fun h5 hs5 e5 _ => ?_) fun c => Set.mk fun h6 hs6 e6 _ => ?_)
  · have := k h5 (((e1.trans e3).trans' e4 fun i hi z => by have z : i = b0 := z; omega).trans' e5 fun i hi z => by have z : i = b2 := z; omega)
    unfold plainR at this
    rw [if_pos c] at this
    exact this
  · have := k h6 ((e1.trans e3).trans' e6 fun i hi z => by have z : i = b2 := z; omega)
    unfold plainR at this
    rw [if_neg c] at this
    exact this

theorem c22 {s : Slc} {l : List Rec} (a : Arr 4 Rec.lfs h s l) (hl : l.length ≤ 2932031007402) {R : Slc → Heap → Prop} (k : ∀ s' h', Own 4 Rec.lfs h' s' (l.map plainR) → Ext0 h h' → R s' h') :
    Call Go.Proofs.Try.prog 22 [.lf (.slc s)] h [.one .slc] R := by
  have hlen := a.len
  refine ok22 (New.mk fun b0 h1 hb0 hs1 e1 k1 => ?_)
  refine ⟨fun s' i hh d => ∃ q : Nat, i = q ∧ q ≤ l.length ∧ Own 4 Rec.lfs hh s' ((l.take q).map plainR) ∧ Fresh h hh s' ∧ d = l.length - q, ⟨_, 0, rfl, by omega, Own.new (l := ([] : List Rec)) lfs_sized k1, ⟨e1, fun b off z => by cases z; omega⟩, rfl⟩, ?_⟩
  rintro s4 _ h6 _ ⟨q, rfl, hq, o, f, rfl⟩
  rw [hlen]
  refine Br.dec (fun c => ?_) fun c => ?_
  · have hql : q < l.length := by omega
    refine (a.ext0 f.ext).ix rfl (List.getElem?_eq_getElem hql) fun bb off hb' => ⟨_, _, _, _, hb', c43 fun h18 e18 => New.mk fun b19 h20 hb19 hs20 e20 k20 => ?_⟩
    have ox : Own 4 Rec.lfs h20 ⟨some (b19, 0), 1, 1⟩ [plainR l[q]] := Own.new (l := [plainR l[q]]) lfs_sized (by simpa [Rec.lfs] using k20)
    refine AppC.grow lfs_sized (by omega) rfl ((o.ext0 e18).ext0 e20) (ox.arr lfs_sized) (by simp; omega) fun s21 h22 o22 g22 => ⟨l.length - (q + 1), by omega, q + 1, by rw [wi64 (by omega) (by omega)]; omega, by omega, ?_, ((f.ext0 e18).ext0 e20).grow g22, rfl⟩
    rw [take_succ' hql, List.map_append]
    exact o22
  · obtain rfl : q = l.length := by omega
    rw [List.take_length] at o
    exact k s4 h6 o f.ext
end

/-! ### Both round trips -/

theorem encL_len (seq : Nat) (l : List Rec) : ((encL seq l).length : Int) = 12 + tot l := by
  unfold encL
  have := flat_tot l
  simp only [List.length_append, fixedL_len]
  omega

theorem encE_zero {seq : Nat} {l : List Rec} (h : encE seq l = 0) : fitsB seq l.length = true ∧ l.length ≤ 4096 ∧ bad l = 0 ∧ 12 + tot l ≤ 4194304 := by
  unfold encE at h
  split at h
  · cases h
  split at h
  · cases h
  split at h
  · rename_i hb; exact absurd h hb
  split at h
  · cases h
  rename_i h1 h2 h3 h4
  refine ⟨?_, by omega, by simpa using h3, by omega⟩
  cases hf : fitsB seq l.length with
  | true => rfl
  | false => exact absurd hf h1

theorem dec_enc {seq : Nat} {l : List Rec} (hok : ∀ r ∈ l, r.Ok) (h : encE seq l = 0) : decD (encL seq l) = .ok (seq, l.map plainR) := by
  obtain ⟨h1, h2, h3, h4⟩ := encE_zero h
  have hlen := encL_len seq l
  have ht := tot_nonneg l
  have hseq : (seq : Int) ≤ 72057594037927935 := by
    unfold fitsB at h1; simp only [decide_eq_true_eq] at h1; exact h1.1
  have e1 : (encL seq l).take 8 = fixedL seq 8 := by
    unfold encL
    rw [List.append_assoc, List.take_append_of_le_length (Nat.le_of_eq (by rw [fixedL_len])), List.take_of_length_le (Nat.le_of_eq (by rw [fixedL_len]))]
  have e2 : (encL seq l).drop 8 = fixedL l.length 4 ++ l.flatMap encR := by
    unfold encL
    rw [List.append_assoc, List.drop_append_of_le_length (Nat.le_of_eq (by rw [fixedL_len])), List.drop_of_length_le (Nat.le_of_eq (by rw [fixedL_len]))]
    rfl
  have e3 : ((encL seq l).drop 8).take 4 = fixedL l.length 4 := by
    rw [e2, List.take_append_of_le_length (Nat.le_of_eq (by rw [fixedL_len])), List.take_of_length_le (Nat.le_of_eq (by rw [fixedL_len]))]
  have e4 : (encL seq l).drop 12 = l.flatMap encR := by
    rw [show 12 = 8 + 4 from rfl, ← List.drop_drop, e2, List.drop_append_of_le_length (Nat.le_of_eq (by rw [fixedL_len])), List.drop_of_length_le (Nat.le_of_eq (by rw [fixedL_len]))]
    rfl
  have l1 : Go.V.le (fixedL seq 8) = seq := Go.V.le_fixed 8 (by have : 256 ^ 8 = 18446744073709551616 := rfl; omega)
  have l2 : Go.V.le (fixedL l.length 4) = l.length := Go.V.le_fixed 4 (by have : 256 ^ 4 = 4294967296 := rfl; omega)
  have hr := recsD_enc (l := l) [] fun x hx => ⟨hok x hx, bad_all h3 x hx⟩
  rw [List.append_nil] at hr
  unfold decD
  rw [if_neg (by omega), if_neg (by omega), e1, l1, if_neg (by omega), if_neg (by omega), e3, l2, if_neg (by rw [h1]; simp; omega), e4, hr]
  rfl

theorem vrGo_err : ∀ {b : List UInt8} {i n : Nat}, (vrGo b i n).2.2 = 0 ∨ (vrGo b i n).2.2 = 3 ∨ (vrGo b i n).2.2 = 4
  | [], _, _ => .inr (.inr rfl)
  | c :: r, i, n => by
    rw [vrGo]
    split
    · exact .inr (.inl rfl)
    split
    · exact .inl rfl
    · exact vrGo_err

theorem numD_err {b : List UInt8} {m : Nat} {e : Int} (h : numD b m = .error e) : e ≠ 0 := by
  unfold numD at h
  split at h
  · rename_i h0; cases h; exact h0
  split at h
  · cases h; decide
  · cases h

theorem textD_err {b : List UInt8} {m : Nat} {e : Int} (h : textD b m = .error e) : e ≠ 0 := by
  unfold textD at h
  split at h
  · rename_i h0; cases h; exact numD_err h0
  split at h
  · cases h; decide
  · cases h

theorem recD_err {b : List UInt8} {e : Int} (h : recD b = .error e) : e ≠ 0 := by
  unfold recD at h
  split at h
  · cases h; decide
  split at h
  · cases h; decide
  split at h
  · rename_i h0; cases h; exact numD_err h0
  split at h
  · rename_i h0; cases h; exact textD_err h0
  split at h
  · cases h
  split at h
  · rename_i h0; cases h; exact textD_err h0
  · cases h

theorem recsD_err : ∀ {n : Nat} {b : List UInt8} {e : Int}, recsD n b = .error e → e ≠ 0
  | 0, _, _, h => by cases h
  | n + 1, b, e, h => by
    rw [recsD] at h
    split at h
    · rename_i h0; cases h; exact recD_err h0
    split at h
    · rename_i h0; cases h; exact recsD_err h0
    · cases h

theorem decD_err {b : List UInt8} {e : Int} (h : decD b = .error e) : e ≠ 0 := by
  unfold decD at h
  split at h
  · cases h; decide
  split at h
  · cases h; decide
  split at h
  · cases h; decide
  split at h
  · cases h; decide
  split at h
  · cases h; decide
  split at h
  · rename_i h0; cases h; exact recsD_err h0
  split at h
  · cases h
  · cases h; decide

theorem enc_dec {b : List UInt8} {seq : Nat} {l : List Rec} (h : decD b = .ok (seq, l)) : encE seq l = 0 ∧ encL seq l = b ∧ (∀ r ∈ l, r.Ok) ∧ l.length ≤ 4096 := by
  unfold decD at h
  split at h
  · cases h
  split at h
  · cases h
  split at h
  · cases h
  split at h
  · cases h
  split at h
  · cases h
  rename_i h1 h2 h3 h4 h5
  split at h
  · cases h
  rename_i l' r hr
  split at h
  · rename_i hnil
    subst hnil
    simp only [Except.ok.injEq, Prod.mk.injEq] at h
    obtain ⟨rfl, rfl⟩ := h
    obtain ⟨g1, g2, g3⟩ := recsD_ok hr
    rw [List.append_nil] at g1
    have hl8 : (b.take 8).length = 8 := by simp; omega
    have hl4 : ((b.drop 8).take 4).length = 4 := by simp; omega
    have hL : encL (Go.V.le (b.take 8)) l' = b := by
      unfold encL
      rw [← g1, g2]
      have f1 := Go.V.fixed_le (b.take 8)
      have f2 := Go.V.fixed_le ((b.drop 8).take 4)
      rw [hl8] at f1
      rw [hl4] at f2
      rw [f1, f2]
      have : b.drop 12 = (b.drop 8).drop 4 := by rw [List.drop_drop]
      rw [this, List.append_assoc, List.take_append_drop, List.take_append_drop]
    have hlen := encL_len (Go.V.le (b.take 8)) l'
    rw [hL] at hlen
    refine ⟨?_, hL, fun r hr => (g3 r hr).1, by omega⟩
    unfold encE
    have hf : fitsB (Go.V.le (b.take 8)) l'.length = true := by
      rw [g2]
      cases hf : fitsB (Go.V.le (b.take 8)) (Go.V.le ((b.drop 8).take 4)) with
      | true => rfl
      | false => exact absurd (.inr hf) h5
    rw [hf, if_neg (by simp), if_neg (by omega), bad_zero fun x hx => (g3 x hx).2.1, if_neg (by simp), if_neg (by omega)]
  · cases h

/-! ### The laws -/

theorem c6 {h : Heap} {s : Slc} {b : List UInt8} (a : Byt h s b) (hb : b.length ≤ 140737488355328) (hs : ∀ blk off, s.a = some (blk, off) → blk < h.size) {R : Bool → Heap → Prop} (k : ∀ h', Ext0 h h' → R true h') :
    Call Go.Proofs.Try.prog 6 [.lf (.slc s)] h [.one .bool] R := by
  refine ok6 (New.mk fun b0 h1 hb0 hs1 e1 k1 => ?_)
  refine AppC.grow bF_sized (by omega) rfl (Own.new (l := ([] : List UInt8)) bF_sized k1) (a.ext0 e1).arr (by simp; omega) fun s2 h3 o3 g3 => ?_
  have o3 : Own 1 bF h3 s2 b := o3
  have e3 : Ext0 h h3 := e1.trans' g3.ext fun i hi ⟨off, z⟩ => by cases z; omega
  refine c21 (Byt.own o3) (fun bb off z => (o3.lt bb off z).1) (fun e h7 hd e7 => ?_) fun seq l s5 h7 hd o7 f7 => ?_
  · have e07 := e3.trans e7
    have hne : e ≠ 0 := by
      rintro rfl
      have := decD_err hd
      exact this rfl
    refine c23 (a.ext0 e07) (fun bb off z => Nat.lt_of_lt_of_le (hs bb off z) e07.size) (fun e' h11 hd' e11 => ?_) fun seq' l' s9 h11 hd' _ _ => by rw [hd] at hd'; cases hd'
    rw [hd] at hd'
    cases hd'
    refine ⟨fun c hh => c = false ∧ Ext0 h hh, Br.ne (fun z => absurd rfl z) fun _ => Br.ne (fun z => absurd rfl z) fun _ => ?_, ?_⟩
    · exact c13 (Arr.nil 4 Rec.lfs _ _) (Arr.nil 4 Rec.lfs _ _) (by simp) ⟨rfl, e07.trans e11⟩
    · rintro _ h16 ⟨rfl, e16⟩
      exact Br.f rfl (Br.ne (fun _ => c14 fun h18 e18 => k h18 (e16.trans e18)) fun z => absurd z hne)
  · have e07 := e3.trans f7.ext
    obtain ⟨g1, g2, g3', g4⟩ := enc_dec hd
    refine c23 (a.ext0 e07) (fun bb off z => Nat.lt_of_lt_of_le (hs bb off z) e07.size) (fun e' h11 hd' e11 => by rw [hd] at hd'; cases hd') fun seq' l' s9 h11 hd' o11 f11 => ?_
    rw [hd] at hd'
    cases hd'
    have e011 := e07.trans f11.ext
    refine ⟨fun c hh => c = false ∧ h11 = hh, Br.ne (fun z => absurd rfl z) fun _ => Br.ne (fun z => absurd rfl z) fun _ => ?_, ?_⟩
    · exact c13 ((o7.ext0 f11.ext).arr lfs_sized) (o11.arr lfs_sized) (by omega) ⟨rfl, rfl⟩
    · rintro _ _ ⟨rfl, rfl⟩
      refine Br.f rfl (Br.ne (fun z => absurd rfl z) fun _ => ?_)
      refine c17 ((o7.ext0 f11.ext).arr lfs_sized) g3' (by omega) (fun _ s19 h21 o21 f21 => ?_) fun e he hne _ _ => absurd (he.symm.trans g1) hne
      rw [g2] at o21
      refine Br.t rfl ⟨_, (o21.arr bF_sized).bytes (fun _ => rfl), _, ((a.ext0 e011).ext0 f21.ext).arr.bytes (fun _ => rfl), ?_⟩
      rw [strEq_eq, decide_eq_true rfl]
      exact Br.t rfl (c14 fun h18 e18 => k h18 ((e011.trans f21.ext).trans e18))

theorem c5 {h : Heap} {seq : Nat} (hseq : seq < 18446744073709551616) {s : Slc} {l : List Rec} (a : Arr 4 Rec.lfs h s l) (hok : ∀ r ∈ l, RecB r) (hl : l.length ≤ 2932031007402) {R : Bool → Heap → Prop} (k : ∀ h', Ext0 h h' → R true h') :
    Call Go.Proofs.Try.prog 5 [.lf (.int .u64 seq), .lf (.slc s)] h [.one .bool] R := by
  have hlen := a.len
  refine ok5 (New.mk fun b0 h1 hb0 hs1 e1 k1 => ?_)
  refine AppC.grow lfs_sized (by omega) rfl (Own.new (l := ([] : List Rec)) lfs_sized k1) (a.ext0 e1) (by simp; omega) fun s2 h3 o3 g3 => ?_
  have o3 : Own 4 Rec.lfs h3 s2 l := o3
  have e3 : Ext0 h h3 := e1.trans' g3.ext fun i hi ⟨off, z⟩ => by cases z; omega
  -- the checks of all records
  have checks : ∀ (h14 : Heap) (K : Heap → Prop), Ext0 h h14 → (∀ h18, Ext0 h14 h18 → K h18) → ∃ I15 : Int → Heap → Nat → Prop, (∃ b16, I15 0 h14 b16) ∧ ∀ (i17 : Int) (h18 : Heap) (b19 : Nat), I15 i17 h18 b19 → Br (decide (i17 < (s.len : Int)))
      (IxC s i17 4 fun b20 b21 => ∃ i22 i23 : Int, ∃ t24 t25 : ByteArray, cellsAt h18 b20 b21 [.int .u32 i22, .int .i64 i23, .str t24, .str t25] ∧ IxC s i17 4 fun b26 b27 => ∃ i28 i29 : Int, ∃ t30 t31 : ByteArray, cellsAt h18 b26 b27 [.int .u32 i28, .int .i64 i29, .str t30, .str t31] ∧
        Call Go.Proofs.Try.prog 19 [.agg [.int .u32 i22, .int .i64 i23, .str t24, .str t25]] h18 [.one (.int .i64)] fun (i32 : Int) h33 => cellsAt h33 b26 b27 [.int .u32 i28, .int .i64 i29, .str t30, .str t31] ∧
        Call Go.Proofs.Try.prog 20 [.agg [.int .u32 i28, .int .i64 i29, .str t30, .str t31]] h33 [.one (.int .i64)] fun (i34 : Int) h35 => Br (i32 != i34) (R false h35) (∃ b36, b36 < b19 ∧ I15 (IntKind.wrap .i64 (i17 + 1)) h35 b36)) (K h18) := by
    intro h14 K e14 hK
    refine ⟨fun i hh d => ∃ q : Nat, i = q ∧ q ≤ l.length ∧ Ext0 h14 hh ∧ d = l.length - q, ⟨_, 0, rfl, by omega, Ext.refl _ _, rfl⟩, ?_⟩
    rintro _ h18 _ ⟨q, rfl, hq, e18, rfl⟩
    rw [hlen]
    refine Br.dec (fun c => ?_) fun c => hK h18 e18
    have hql : q < l.length := by omega
    have a18 := (a.ext0 e14).ext0 e18
    refine a18.ix rfl (List.getElem?_eq_getElem hql) fun b20 b21 hb20 => ⟨_, _, _, _, hb20, a18.ix rfl (List.getElem?_eq_getElem hql) fun b26 b27 hb26 => ⟨_, _, _, _, hb26, c19 fun h33 e33 => ⟨cellsAt.ext e33 id hb26, c20 (hok _ (List.getElem_mem hql)) fun h35 e35 => Br.ne (fun z => absurd rfl z) fun _ => ?_⟩⟩⟩
    exact ⟨l.length - (q + 1), by omega, q + 1, by rw [wi64 (by omega) (by omega)]; omega, by omega, (e18.trans e33).trans e35, rfl⟩
  have hok' : ∀ r ∈ l, r.Ok := fun r hr => (hok r hr).ok
  refine c17 (o3.arr lfs_sized) hok' hl (fun he s4 h6 o6 f6 => ?_) fun e he hne h6 e6 => ?_
  · have e06 := e3.trans f6.ext
    refine c18 (a.ext0 e06) hok hl (fun _ s7 h9 o9 f9 => ?_) fun e he' hne _ _ => absurd (he'.symm.trans he) hne
    have e09 := e06.trans f9.ext
    have o69 := o6.ext0 f9.ext
    refine ⟨fun c hh => c = false ∧ h9 = hh, Br.ne (fun z => absurd rfl z) fun _ => ⟨_, (o69.arr bF_sized).bytes (fun _ => rfl), _, (o9.arr bF_sized).bytes (fun _ => rfl), ?_, rfl⟩, ?_⟩
    · rw [strEq_eq, decide_eq_true rfl]; rfl
    rintro _ _ ⟨rfl, rfl⟩
    refine Br.f rfl (checks h9 _ e09 fun h18 e18 => Br.ne (fun z => absurd rfl z) fun _ => ?_)
    have o618 := o69.ext0 e18
    have hd := dec_enc hok' he
    refine c21 (Byt.own o618) (fun bb off z => (o618.lt bb off z).1) (fun e h' hd' _ => by rw [hd] at hd'; cases hd') fun seq' l' s40 h42 hd' o42 f42 => ?_
    rw [hd] at hd'
    cases hd'
    have e042 := (e09.trans e18).trans f42.ext
    refine Br.t (by simp) (Br.t rfl (c22 (a.ext0 e042) hl fun s43 h44 o44 e44 => c13 ((o42.ext0 e44).arr lfs_sized) (o44.arr lfs_sized) (by simpa using hl) (Br.t rfl (c14 fun h48 e48 => k h48 ((e042.trans e44).trans e48)))))
  · have e06 := e3.trans e6
    refine c18 (a.ext0 e06) hok hl (fun he' s7 h9 o9 f9 => absurd (he.symm.trans he') hne) fun e' he' hne' h9 e9 => ?_
    have hee : e' = e := he'.symm.trans he
    subst hee
    have e09 := e06.trans e9
    refine ⟨fun c hh => c = false ∧ h9 = hh, Br.ne (fun z => absurd rfl z) fun _ => ⟨⟨([] : List UInt8).toArray⟩, ((Arr.nil 1 bF h9 0).bytes (fun _ => rfl)), ⟨([] : List UInt8).toArray⟩, ((Arr.nil 1 bF h9 0).bytes (fun _ => rfl)), ?_, rfl⟩, ?_⟩
    · rw [strEq_eq, decide_eq_true rfl]; rfl
    rintro _ _ ⟨rfl, rfl⟩
    exact Br.f rfl (checks h9 _ e09 fun h18 e18 => Br.ne (fun _ => c14 fun h38 e38 => k h38 ((e09.trans e18).trans e38)) fun z => absurd z hne)

end Go.V.Ytclffphegfhocaa
