/- This text proves a part of the laws of seat Yteojmnnobmpdiaa, under no condition: C11r C11s. -/
import Derived.Test.YteojmnnobmpdiaaCD
set_option linter.unusedVariables false
set_option linter.unusedSimpArgs false
/-! The cache: the calls, told in short. -/
namespace Go.V.Yteojmnnobmpdiaa
open Go Go.V

/-- A cache in memory, behind at most m calls; F: its blocks. -/
def CW (F : Nat → Prop) (h : Heap) (m c : Nat) (σ : CS) : Prop := ∃ lab row pm bs, CR h lab c row pm bs σ ∧ Inv m σ ∧ ∀ y, lab y ≠ none ↔ F y

/-- A call that may have written to the cache, and made new memory. -/
structure Stp (F : Nat → Prop) (h : Heap) (F' : Nat → Prop) (h' : Heap) : Prop where
  ext : Ext F h h'
  sub : Sub F F' h

theorem Stp.refl (F : Nat → Prop) (h : Heap) : Stp F h F h := ⟨Ext.refl _ _, Sub.refl _ _⟩
theorem Stp.trans {F F' F'' : Nat → Prop} {h h' h'' : Heap} (a : Stp F h F' h') (b : Stp F' h' F'' h'') : Stp F h F'' h'' := ⟨a.ext.sub b.ext a.sub, a.sub.trans b.sub a.ext.size⟩
theorem Stp.of0 {F : Nat → Prop} {h h' : Heap} (e : Ext0 h h') : Stp F h F h' := ⟨e.of0, Sub.refl _ _⟩
/-- What was ahead of the cache stays. -/
theorem Stp.to0 {F F' : Nat → Prop} {a h h' : Heap} (s : Stp F h F' h') (e : Ext0 a h) (hF : ∀ y, F y → a.size ≤ y) : Ext0 a h' ∧ ∀ y, F' y → a.size ≤ y :=
  ⟨e.to0 s.ext hF, s.sub.new hF e.size⟩

theorem CW.inv {F : Nat → Prop} {h : Heap} {m c : Nat} {σ : CS} (w : CW F h m c σ) : Inv m σ := let ⟨_, _, _, _, _, I, _⟩ := w; I
theorem CW.n {F : Nat → Prop} {h : Heap} {m c : Nat} {σ : CS} (w : CW F h m c σ) : 1 ≤ σ.sh.length ∧ σ.sh.length ≤ 64 ∧ 0 ≤ σ.room ∧ σ.room ≤ big := let ⟨_, _, _, _, C, _, _⟩ := w; ⟨C.n0, C.n1, C.r0, C.r1⟩
theorem CW.ext {F S : Nat → Prop} {h h' : Heap} {m c : Nat} {σ : CS} (w : CW F h m c σ) (e : Ext S h h') (hs : ∀ y, F y → ¬ S y) : CW F h' m c σ := by
  obtain ⟨lab, row, pm, bs, C, I, hF⟩ := w
  exact ⟨lab, row, pm, bs, C.ext e fun x l hl => hs x ((hF x).1 (by rw [hl]; simp)), I, hF⟩
theorem CW.ext0 {F : Nat → Prop} {h h' : Heap} {m c : Nat} {σ : CS} (w : CW F h m c σ) (e : Ext0 h h') : CW F h' m c σ := w.ext e fun _ _ k => k
theorem CW.mono {F : Nat → Prop} {h : Heap} {m m' c : Nat} {σ : CS} (w : CW F h m c σ) (hm : m ≤ m') : CW F h m' c σ := by
  obtain ⟨lab, row, pm, bs, C, I, hF⟩ := w
  exact ⟨lab, row, pm, bs, C, I.mono hm, hF⟩
theorem CW.lt {F : Nat → Prop} {h : Heap} {m c : Nat} {σ : CS} (w : CW F h m c σ) : ∀ y, F y → y < h.size := by
  obtain ⟨lab, row, pm, bs, C, I, hF⟩ := w
  exact fun y hy => C.lt y ((hF y).2 hy)
theorem CW.sh {F : Nat → Prop} {h : Heap} {m c : Nat} {σ : CS} (w : CW F h m c σ) (key : ByteArray) : ∃ s, σ.sh[shardOf σ.sh.length key]? = some s := ⟨_, List.getElem?_eq_getElem (shardOf_lt w.n.1 key)⟩

theorem lab_ne {lab : Nat → Option Lab} {F : Nat → Prop} (hF : ∀ y, lab y ≠ none ↔ F y) {h h' : Heap} (e : Ext (fun y => lab y ≠ none) h h') : Ext F h h' := e.mono fun y hy => (hF y).1 hy

/-- Where the new entry goes. -/
def putA (σ : CS) (key : ByteArray) (v ch : Int) (p : Nat) : CS := addS (takeS (putM σ key ch) (shardOf σ.sh.length key) key) (shardOf σ.sh.length key) key v ch p
def putFull (σ : CS) (key : ByteArray) (ch : Int) : Prop := σ.strict = true ∧ plusS (usedS (putM σ key ch).it ((putM σ key ch).shAt (shardOf σ.sh.length key))) ch > share σ

theorem w12 {h : Heap} {n room : Int} {strict : Bool} (r0 : 0 ≤ room) (r1 : room ≤ big) (hn0 : -9223372036854775808 ≤ n) (hn1 : n ≤ 9223372036854775807) {R : Option (Nat × Nat) → Int → Heap → Prop}
    (k0 : n < 1 ∨ n > 64 → R none 1 h)
    (k1 : 1 ≤ n → n ≤ 64 → ∀ F h' c, CW F h' 0 c (newS n.toNat room strict) → Ext0 h h' → (∀ y, F y → h.size ≤ y) → R (some (c, 0)) 0 h') :
    Call Go.Proofs.Try.prog 12 [.lf (.int .i64 n), .lf (.int .u64 room), .lf (.bool strict)] h [.one .ptr, .one (.int .i64)] R :=
  c12 r0 r1 hn0 hn1 k0 fun h1 h2 h' lab c row pm bs C e hl => k1 h1 h2 (fun y => lab y ≠ none) h' c ⟨lab, row, pm, bs, C, Inv.new .., fun _ => Iff.rfl⟩ e hl

theorem putM_inv {m : Nat} {σ : CS} (I : Inv m σ) (key : ByteArray) (ch : Int) : Inv m (putM σ key ch) := Inv.makes _ _ _ _ I
theorem putM_same (σ : CS) (key : ByteArray) (ch : Int) : Same σ (putM σ key ch) := makesS_same ..

theorem w14 {F : Nat → Prop} {h : Heap} {m c : Nat} {σ : CS} (w : CW F h m c σ) (hm : m ≤ 4398046511104) {key : ByteArray} {v ch : Int} (hv0 : 0 ≤ v) (hv1 : v ≤ big) (hc0 : 0 ≤ ch) (hc1 : ch ≤ big) (hk : key.size ≤ 9223372036854775807)
    {R : Int → Int → Heap → Prop}
    (k0 : key.size > 1024 → R 0 2 h)
    (k1 : key.size ≤ 1024 → putFull σ key ch → ∀ h', CW F h' m c (putM σ key ch) → Stp F h F h' → R 0 110 h')
    (k2 : key.size ≤ 1024 → ¬ putFull σ key ch → ∀ F' h' p, σ.it p = none → CW F' h' (m + 1) c (putA σ key v ch p) → Stp F h F' h' → R (σ.last + 1) 0 h') :
    Call Go.Proofs.Try.prog 14 [.lf (.ptr (some (c, 0))), .lf (.str key), .lf (.int .u64 v), .lf (.int .u64 ch)] h [.one (.int .i64), .one (.int .i64)] R := by
  have hsh := w.sh key
  obtain ⟨lab, row, pm, bs, C, I, hF⟩ := w
  have hl1 := I.l1
  refine c14 C hv0 hv1 hc0 hc1 hk (I.has hm) I.l0 (by omega) k0 (fun h1 h2 h3 h' C' e => k1 h1 ⟨h2, h3⟩ h' ⟨lab, row, pm, bs, C', putM_inv I .., hF⟩ ⟨lab_ne hF e, Sub.refl _ _⟩) fun h1 h2 h' p lab' hp hlp C' g e => ?_
  have hnone : σ.it p = none := by
    cases hh : σ.it p with
    | none => rfl
    | some X =>
      have := C.lt p (by rw [(C.its p X hh).2.1]; simp)
      omega
  have IM := putM_inv I key ch
  have same := putM_same σ key ch
  obtain ⟨s, hs⟩ : ∃ s, (putM σ key ch).sh[shardOf σ.sh.length key]? = some s := ⟨_, List.getElem?_eq_getElem (by rw [same.len]; exact shardOf_lt C.n0 key)⟩
  rw [putT_eq IM hs] at C'
  have IT := IM.take (key := key) hs
  have sameT := takeS_same (putM σ key ch) (shardOf σ.sh.length key) key
  obtain ⟨t, ht⟩ : ∃ t, (takeS (putM σ key ch) (shardOf σ.sh.length key) key).sh[shardOf σ.sh.length key]? = some t := ⟨_, List.getElem?_eq_getElem (by rw [sameT.len, same.len]; exact shardOf_lt C.n0 key)⟩
  have hins := takeS_ins (key := key) IM hs
  rw [shAt_of ht] at hins
  have IA := IT.add (v := v) (ch := ch) (p := p) ht (takeS_none IM hs (makesS_none _ _ _ _ _ hnone)) hins (by rw [sameT.len, same.len]) h1 hv0 hv1 hc0 hc1
  refine k2 h1 h2 (fun y => lab' y ≠ none) h' p hnone ⟨lab', row, pm, bs, C', IA, fun _ => Iff.rfl⟩ ⟨lab_ne hF e, fun y hy => ?_⟩
  exact (g.new y hy).imp (hF y).1 id

theorem w16 {F : Nat → Prop} {h : Heap} {m c : Nat} {σ : CS} (w : CW F h m c σ) (hm : m < 4398046511104) {n : Int} {R : Int → Heap → Prop}
    (k0 : (∀ y ∈ σ.pins, y.1 ≠ n) → R 111 h)
    (k1 : ∀ x X, (n, x) ∈ σ.pins → σ.it x = some X → ∀ F' h', CW F' h' m c (freeT σ n x X) → Stp F h F' h' → R 0 h') :
    Call Go.Proofs.Try.prog 16 [.lf (.ptr (some (c, 0))), .lf (.int .i64 n)] h [.one (.int .i64)] R := by
  obtain ⟨lab, row, pm, bs, C, I, hF⟩ := w
  refine c16 C (fun i s hs => ⟨I.has (by omega) i s hs, ?_⟩) (fun p X hX => by have := I.keys p X hX; omega) (fun p X hX => by have := I.pins (by omega) hX; omega) (fun x hx => ?_) k0 fun x X hn hX h' lab' C' g e => ?_
  · have := (I.sh i s hs).wlen
    have := I.len i s hs
    omega
  · obtain ⟨_, _, X, hX, _⟩ := I.pin _ hx; exact ⟨X, hX⟩
  · exact k1 x X hn hX (fun y => lab' y ≠ none) h' ⟨lab', row, pm, bs, C', I.free hn hX, fun _ => Iff.rfl⟩ ⟨lab_ne hF e, fun y hy => (g.new y hy).imp (hF y).1 id⟩

theorem w20 {F : Nat → Prop} {h : Heap} {m c : Nat} {σ : CS} (w : CW F h m c σ) (hm : m ≤ 4398046511104) {key : ByteArray} (hk : key.size ≤ 9223372036854775807) {R : Int → Int → Bool → Heap → Prop}
    (k0 : lookK key (σ.shAt (shardOf σ.sh.length key)).ins = none → ∀ h', CW F h' m c σ → Stp F h F h' → R 0 0 false h')
    (k1 : ∀ q X, lookK key (σ.shAt (shardOf σ.sh.length key)).ins = some q → σ.it q = some X → ∀ h', CW F h' (m + 1) c (repin σ (shardOf σ.sh.length key) (σ.shAt (shardOf σ.sh.length key)) q X) → Stp F h F h' → R (σ.last + 1) X.v true h') :
    Call Go.Proofs.Try.prog 20 [.lf (.ptr (some (c, 0))), .lf (.str key)] h [.one (.int .i64), .one (.int .u64), .one .bool] R := by
  obtain ⟨s, hs⟩ := w.sh key
  obtain ⟨lab, row, pm, bs, C, I, hF⟩ := w
  have hl1 := I.l1
  refine c20 C hk (I.has hm) I.l0 (by omega) (fun p X hX => by have := I.pins hm hX; omega) fun h' C' e => ?_
  unfold getS at C' ⊢
  simp only at C' ⊢
  cases hl : lookK key (σ.shAt (shardOf σ.sh.length key)).ins with
  | none =>
    rw [hl] at C'
    exact k0 hl h' ⟨lab, row, pm, bs, C', I, hF⟩ ⟨lab_ne hF e, Sub.refl _ _⟩
  | some q =>
    rw [hl] at C'
    rw [shAt_of hs] at hl
    obtain ⟨_, X, hX, _⟩ := (I.sh _ s hs).ins _ (lookK_some hl)
    have hX' : σ.it q = some X := hX
    simp only [hX'] at C' ⊢
    rw [I.repin_eq] at C'
    refine k1 q X (by rw [shAt_of hs]; exact hl) hX' h' ⟨lab, row, pm, bs, C', ?_, hF⟩ ⟨lab_ne hF e, Sub.refl _ _⟩
    rw [shAt_of hs]
    exact I.get hs (lookK_some hl) hX'

theorem w21 {F : Nat → Prop} {h : Heap} {m c : Nat} {σ : CS} (w : CW F h m c σ) (hm : m ≤ 4398046511104) {key : ByteArray} (hk : key.size ≤ 9223372036854775807) {R : Bool → Heap → Prop}
    (k : ∀ h', CW F h' m c (dropS σ key).2 → Stp F h F h' → R (dropS σ key).1 h') :
    Call Go.Proofs.Try.prog 21 [.lf (.ptr (some (c, 0))), .lf (.str key)] h [.one .bool] R := by
  obtain ⟨lab, row, pm, bs, C, I, hF⟩ := w
  exact c21 C hk (I.has hm) fun h' C' e => k h' ⟨lab, row, pm, bs, C', I.drop C.n0 key, hF⟩ ⟨lab_ne hF e, Sub.refl _ _⟩

theorem w22 {F : Nat → Prop} {h : Heap} {m c : Nat} {σ : CS} (w : CW F h m c σ) (hm : m ≤ 4398046511104) {r : Int} (r0 : 0 ≤ r) (r1 : r ≤ big) {R : Heap → Prop}
    (k : ∀ h', CW F h' m c (roomS σ r) → Stp F h F h' → R h') :
    Call Go.Proofs.Try.prog 22 [.lf (.ptr (some (c, 0))), .lf (.int .u64 r)] h [] R := by
  obtain ⟨lab, row, pm, bs, C, I, hF⟩ := w
  exact c22 C (I.has hm) r0 r1 fun h' C' e => k h' ⟨lab, row, pm, bs, C', I.room r, hF⟩ ⟨lab_ne hF e, Sub.refl _ _⟩

theorem w23 {F : Nat → Prop} {h : Heap} {m c : Nat} {σ : CS} (w : CW F h m c σ) {n : Int} {R : Int → Int → Heap → Prop}
    (k0 : (∀ y ∈ σ.pins, y.1 ≠ n) → R 0 111 h) (k1 : ∀ x X, (n, x) ∈ σ.pins → σ.it x = some X → R X.v 0 h) :
    Call Go.Proofs.Try.prog 23 [.lf (.ptr (some (c, 0))), .lf (.int .i64 n)] h [.one (.int .u64), .one (.int .i64)] R := by
  obtain ⟨lab, row, pm, bs, C, I, hF⟩ := w
  refine c23 C k0 fun x hx => ?_
  obtain ⟨_, _, X, hX, _⟩ := I.pin _ hx
  exact ⟨X, hX, k1 x X hx hX⟩

theorem w15 {F : Nat → Prop} {h : Heap} {m c : Nat} {σ : CS} (w : CW F h m c σ) (hm : m ≤ 4398046511104) {R : Int → Heap → Prop} (k : ∀ h', Ext0 h h' → R (chargeS σ) h') :
    Call Go.Proofs.Try.prog 15 [.lf (.ptr (some (c, 0)))] h [.one (.int .u64)] R := by
  obtain ⟨lab, row, pm, bs, C, I, hF⟩ := w
  exact c15 C (I.has hm) k
theorem w17 {F : Nat → Prop} {h : Heap} {m c : Nat} {σ : CS} (w : CW F h m c σ) (hm : m ≤ 4398046511104) {R : Int → Heap → Prop} (k : ∀ h', Ext0 h h' → R (pinnedS σ) h') :
    Call Go.Proofs.Try.prog 17 [.lf (.ptr (some (c, 0)))] h [.one (.int .u64)] R := by
  obtain ⟨lab, row, pm, bs, C, I, hF⟩ := w
  exact c17 C (I.has hm) k
theorem w18 {F : Nat → Prop} {h : Heap} {m c : Nat} {σ : CS} (w : CW F h m c σ) {key : ByteArray} (hk : key.size ≤ 9223372036854775807) {R : Int → Heap → Prop}
    (k : ∀ h', Ext0 h h' → R (shardOf σ.sh.length key : Nat) h') : Call Go.Proofs.Try.prog 18 [.lf (.ptr (some (c, 0))), .lf (.str key)] h [.one (.int .i64)] R := by
  obtain ⟨lab, row, pm, bs, C, I, hF⟩ := w
  exact c18 C hk k

end Go.V.Yteojmnnobmpdiaa
set_option linter.unusedVariables false
set_option linter.unusedSimpArgs false
/-! The cache: Keys, Len. -/
namespace Go.V.Yteojmnnobmpdiaa
open Go Go.V

def keyOf (it : Nat → Option It) (p : Nat) : ByteArray := match it p with | some x => x.key | none => ⟨#[]⟩
/-- The keys of a part of the cache that wait. -/
def keysS (σ : CS) (i : Int) : List ByteArray := if 0 ≤ i ∧ i < σ.sh.length then (σ.shAt i.toNat).waits.map (keyOf σ.it) else []

/-- Keys. -/
theorem c19 {h : Heap} {lab : Nat → Option Lab} {c : Nat} {row : Slc} {pm : Nat} {bs : List Nat} {σ : CS} (C : CR h lab c row pm bs σ) (H : AllHas σ) {i : Int} {R : Slc → Heap → Prop}
    (k : ∀ s h', Arr 1 sF h' s (keysS σ i) → Ext0 h h' → (∀ b o, s.a = some (b, o) → h.size ≤ b) → R s h') : Call Go.Proofs.Try.prog 19 [.lf (.ptr (some (c, 0))), .lf (.int .i64 i)] h [.one .slc] R := by
  have hrl := C.rowo.len
  have hcl := C.len
  have hn1 := C.n1
  refine ok19 ⟨fun cc h' => h = h' ∧ (cc = true ↔ ¬ (0 ≤ i ∧ i < σ.sh.length)), Br.dec (fun hh => ⟨rfl, by simp; omega⟩) fun hh => NilC.mk rfl ⟨row, C.blk.cell rfl, rfl, by simp; omega⟩, ?_⟩
  rintro cc _ ⟨rfl, hcc⟩
  refine Br.mk (fun ht => ?_) fun hf => ?_
  · have hno := hcc.1 ht
    refine k _ _ ?_ (Ext.refl _ _) (fun b o e => by cases e)
    unfold keysS
    rw [if_neg hno]
    exact Arr.nil _ _ _ _
  · have hyes : 0 ≤ i ∧ i < σ.sh.length := Classical.byContradiction fun hh => by rw [hcc.2 hh] at hf; cases hf
    obtain ⟨m, rfl⟩ := Int.eq_ofNat_of_zero_le hyes.1
    have hi' : m < σ.sh.length := by omega
    have hbs : bs[m]? = some (bs[m]'(by omega)) := List.getElem?_eq_getElem _
    have hs : σ.sh[m]? = some σ.sh[m] := List.getElem?_eq_getElem hi'
    generalize hss : σ.sh[m] = s at *
    have hkeys : keysS σ (m : Int) = s.waits.map (keyOf σ.it) := by
      unfold keysS
      rw [if_pos hyes]
      simp [shAt_of hs]
    rw [hkeys] at k
    have Hs := H m s hs
    refine NilC.mk rfl ⟨row, C.blk.cell rfl, (C.rowo.arr pF_sized).ix rfl hbs fun b o hc => ⟨_, hc, ?_⟩⟩
    obtain ⟨im, am, ws, S⟩ := C.shs m s _ hs hbs
    have hwl := S.waits.len
    have hwb := Hs.len
    refine NilC.mk rfl ⟨ws, S.blk.cell rfl, fun sl j h' d => ∃ n : Nat, j = n ∧ n ≤ s.waits.length ∧ d = s.waits.length - n ∧ Own 1 sF h' sl ((s.waits.take n).map (keyOf σ.it)) ∧ Fresh h h' sl, ⟨_, 0, rfl, by omega, rfl, Own.nil _ _ _, Fresh.nil _⟩, ?_⟩
    rintro sl _ h19 _ ⟨n, rfl, hn, rfl, osl, fr⟩
    have C19 := C.ext0 fr.ext
    refine Br.dec (fun hj => ?_) fun hj => ?_
    · have hj' : n < s.waits.length := by omega
      obtain ⟨X, hX⟩ := Hs.waits _ (List.getElem_mem hj')
      have hko : keyOf σ.it s.waits[n] = X.key := by simp only [keyOf, hX]
      refine ((S.waits.arr pF_sized).ext0 fr.ext).ix rfl (List.getElem?_eq_getElem hj') fun b1 o1 hc1 => ⟨_, hc1, NilC.mk rfl ⟨X.key, (C19.its _ X hX).1.cell rfl, New.mk fun b27 h28 hb27 hs28 e28 k28 => ?_⟩⟩
      refine AppC.grow sF_sized (by decide) rfl (osl.ext0 e28) ((Own.new (l := [X.key]) sF_sized k28).arr sF_sized) (by simp; omega) fun s29 h30 o30 g30 => ?_
      refine ⟨_, ?_, n + 1, ?_, by omega, rfl, ?_, (fr.ext0 e28).grow g30⟩
      · show s.waits.length - (n + 1) < s.waits.length - n; omega
      · rw [wi64 (by omega) (by omega)]; rfl
      · rw [List.take_succ_eq_append_getElem hj', List.map_append]
        simpa [hko] using o30
    · have : n = s.waits.length := by omega
      subst this
      rw [List.take_length] at osl
      exact k sl h19 (osl.arr sF_sized) fr.ext fr.new

theorem w19 {F : Nat → Prop} {h : Heap} {m c : Nat} {σ : CS} (w : CW F h m c σ) (hm : m ≤ 4398046511104) {i : Int} {R : Slc → Heap → Prop}
    (k : ∀ s h', Arr 1 sF h' s (keysS σ i) → Ext0 h h' → (∀ b o, s.a = some (b, o) → h.size ≤ b) → R s h') : Call Go.Proofs.Try.prog 19 [.lf (.ptr (some (c, 0))), .lf (.int .i64 i)] h [.one .slc] R := by
  obtain ⟨lab, row, pm, bs, C, I, hF⟩ := w
  exact c19 C (I.has hm) k

theorem SInv.ilen {n : Nat} {it : Nat → Option It} {i : Nat} {s : Sh} (S : SInv n it i s) : s.ins.length ≤ s.all.length := by
  have h1 : (s.ins.map (·.2)).Nodup := by
    have key : ∀ l : List (ByteArray × Nat), (l.map (·.1)).Nodup → (∀ e ∈ l, ∃ X, it e.2 = some X ∧ X.key = e.1) → (l.map (·.2)).Nodup := by
      intro l
      induction l with
      | nil => intro _ _; simp
      | cons e l ih =>
        intro hn hk
        simp only [List.map_cons, List.nodup_cons] at hn ⊢
        refine ⟨fun hm => ?_, ih hn.2 fun x hx => hk x (List.mem_cons_of_mem _ hx)⟩
        obtain ⟨f, hf, hfe⟩ := List.mem_map.1 hm
        obtain ⟨X, hX, hXk⟩ := hk e (List.mem_cons_self ..)
        obtain ⟨Y, hY, hYk⟩ := hk f (List.mem_cons_of_mem _ hf)
        rw [hfe, hX] at hY
        cases hY
        exact hn.1 (List.mem_map.2 ⟨f, hf, by rw [← hYk, hXk]⟩)
    exact key _ S.insN fun e he => by obtain ⟨_, X, hX, hk, _⟩ := S.ins e he; exact ⟨X, hX, hk⟩
  have := len_of_sub h1 (m := s.all) fun p hp => by
    obtain ⟨e, he, rfl⟩ := List.mem_map.1 hp
    exact (S.ins e he).1
  simpa using this

theorem w83 {F : Nat → Prop} {h : Heap} {m c : Nat} {σ : CS} (w : CW F h m c σ) (hm : m ≤ 4398046511104) {R : Int → Heap → Prop} (k : R (lenS σ) h) :
    Call Go.Proofs.Try.prog 83 [.lf (.ptr (some (c, 0)))] h [.one (.int .i64)] R := by
  obtain ⟨lab, row, pm, bs, C, I, hF⟩ := w
  refine c83 C (fun s hs => ?_) k
  obtain ⟨i, hi⟩ := List.mem_iff_getElem?.1 hs
  have := (I.sh i s hi).ilen
  have := I.len i s hi
  omega

end Go.V.Yteojmnnobmpdiaa
