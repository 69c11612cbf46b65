/- This text proves a part of the laws of seat Yteojmnnobmpdiaa, under no condition: D11j D11k. -/
import Derived.Test.YteojmnnobmpdiaaDA
import Derived.Test.YteojmnnobmpdiaaDD
import Derived.Test.YteojmnnobmpdiaaCL
set_option linter.unusedVariables false
set_option linter.unusedSimpArgs false
/-! CacheActs is true. -/
namespace Go.V.Yteojmnnobmpdiaa
open Go Go.V

/-- The program's cache and the document's, apart in memory, and alike. -/
structure Pair (base h : Heap) (m c d : Nat) (F F' : Nat → Prop) (σ σ' : CS) (f : Nat → Nat) : Prop where
  w : CW F h m c σ
  w' : DW F' h m d σ'
  dis : ∀ y, F y → ¬ F' y
  fr : ∀ y, F y → base.size ≤ y
  fr' : ∀ y, F' y → base.size ≤ y
  ext : Ext0 base h
  r : RA f σ σ'

theorem Pair.ext0 {base h h' : Heap} {m c d : Nat} {F F' : Nat → Prop} {σ σ' : CS} {f : Nat → Nat} (t : Pair base h m c d F F' σ σ' f) (e : Ext0 h h') : Pair base h' m c d F F' σ σ' f := { t with w := t.w.ext0 e, w' := t.w'.ext0 e, ext := t.ext.trans e }
theorem Pair.mono {base h : Heap} {m m' c d : Nat} {F F' : Nat → Prop} {σ σ' : CS} {f : Nat → Nat} (t : Pair base h m c d F F' σ σ' f) (hm : m ≤ m') : Pair base h m' c d F F' σ σ' f := { t with w := t.w.mono hm, w' := t.w'.mono hm }

/-- The program's half of a call is done. -/
structure Half (base h0 h : Heap) (m m' c d : Nat) (F F' : Nat → Prop) (σ σ' τ : CS) : Prop where
  w : CW F h m' c τ
  w' : DW F' h m d σ'
  dis : ∀ y, F y → ¬ F' y
  fr : ∀ y, F y → base.size ≤ y
  fr' : ∀ y, F' y → base.size ≤ y
  ext : Ext0 base h

theorem Pair.left {base h h' : Heap} {m m' c d : Nat} {F F' F2 : Nat → Prop} {σ σ' τ : CS} {f : Nat → Nat} (t : Pair base h m c d F F' σ σ' f) (w2 : CW F2 h' m' c τ) (st : Stp F h F2 h') : Half base h h' m m' c d F2 F' σ σ' τ :=
  ⟨w2, t.w'.ext st.ext fun y hy hF => t.dis y hF hy, fun y hy hF => (st.sub y hy).elim (fun h => t.dis y h hF) fun h => by have := t.w'.lt y hF; omega, (st.to0 t.ext t.fr).2, t.fr', (st.to0 t.ext t.fr).1⟩
theorem Half.right {base h0 h h' : Heap} {m m' c d : Nat} {F F' F2 : Nat → Prop} {σ σ' τ τ' : CS} {f : Nat → Nat} (t : Half base h0 h m m' c d F F' σ σ' τ) (w2 : DW F2 h' m' d τ') (st : Stp F' h F2 h') (r : RA f τ τ') : Pair base h' m' c d F F2 τ τ' f :=
  ⟨t.w.ext st.ext fun y hy hF => t.dis y hy hF, w2, fun y hy hF => (st.sub y hF).elim (t.dis y hy) fun h => by have := t.w.lt y hy; omega, t.fr, (st.to0 t.ext t.fr').2, (st.to0 t.ext t.fr').1, r⟩

/-- Some call behind which all is alike. -/
def Alike (base h : Heap) (m c d : Nat) : Prop := ∃ F F' σ σ' f, Pair base h m c d F F' σ σ' f

theorem eqb {a : Int} : (a == a) = true := by simp

/-- does. -/
theorem c25 {base h : Heap} {m c d : Nat} {F F' : Nat → Prop} {σ σ' : CS} {f : Nat → Nat} (t : Pair base h m c d F F' σ σ' f) (hm : m ≤ 4398046511100) {a : Act} (ok : a.Ok) {R : Bool → Heap → Prop} (k : ∀ h', Alike base h' (m + 1) c d → R true h') :
    Call Go.Proofs.Try.prog 25 [.lf (.ptr (some (c, 0))), .lf (.ptr (some (d, 0))), .agg [.int .i64 a.kind, .int .i64 a.pin, .str a.key, .int .u64 a.v, .int .u64 a.n]] h [.one .bool] R := by
  obtain ⟨dlab, dV, dD, dI, dF⟩ := id t.w'
  have hpl := dD.po.len
  refine ok25 (New.mk fun b0 h1 hb0 hs1 e1 k1 => NilC.mk rfl ⟨dV.sp, (dD.ext0 e1).blk.cell rfl, ?_⟩)
  have t1 := t.ext0 e1
  have I := t1.w.inv
  have I' := t1.w'.inv
  have hn := t1.w.n
  have hn' := t1.w'.n
  have hb1 : b0 < h1.size := by omega
  have hbF : ∀ y, F y → y ≠ b0 := fun y hy e => by have := t.w.lt y hy; omega
  have hbF' : ∀ y, F' y → y ≠ b0 := fun y hy e => by have := t.w'.lt y hy; omega
  have kp : ∀ {F2 h2}, Stp F h1 F2 h2 → keepB h1 h2 [b0] := fun st => st.ext.keep hb1 fun hy => hbF _ hy rfl
  have kp' : ∀ {F2 h2 F3 h3}, Stp F h1 F2 h2 → Stp F' h2 F3 h3 → keepB h2 h3 [b0] := fun st st' => st'.ext.keep (Nat.lt_of_lt_of_le hb1 st.ext.size) fun hy => hbF' _ hy rfl
  have wr0 : ∀ n : Int, -9223372036854775808 ≤ IntKind.wrap .i64 n ∧ IntKind.wrap .i64 n ≤ 9223372036854775807 := fun n => by
    rw [IntKind.wrap_i64]; omega
  generalize hpin : IntKind.wrap .i64 ((dV.sp.len : Nat) - a.pin) = n
  have hnr := wr0 ((dV.sp.len : Nat) - a.pin)
  rw [hpin] at hnr
  refine Br.eq (fun _ => ?_) fun _ => Br.eq (fun _ => ?_) fun _ => Br.eq (fun _ => ?_) fun _ => Br.eq (fun _ => ?_) fun _ => Br.eq (fun _ => ?_) fun _ => Br.eq (fun _ => ?_) fun _ => k h1 ⟨F, F', σ, σ', f, t1.mono (by omega)⟩
  · -- Put
    refine w14 t1.w (by omega) ok.v0 ok.v1 ok.n0 ok.n1 ok.key (fun hbig => ⟨⟨rfl, trivial⟩, ?_⟩) (fun hks hfull h7 w7 st7 => ⟨kp st7, ?_⟩) fun hks hno F7 h7 p hp w7 st7 => ⟨kp st7, ?_⟩
    · refine d76 t1.w' (by omega) ok.v0 ok.v1 ok.n0 ok.n1 ok.key (fun _ => ⟨⟨rfl, trivial⟩, Br.t rfl (k h1 ⟨F, F', σ, σ', f, t1.mono (by omega)⟩)⟩) (fun hks => absurd hks (by omega)) fun hks => absurd hks (by omega)
    · have H := t1.left w7 st7
      have hf' := (t1.r.full I I' hn.1 a.key a.n).2 hfull
      refine d76 H.w' (by omega) ok.v0 ok.v1 ok.n0 ok.n1 ok.key (fun hbig => absurd hbig (by omega)) (fun _ _ F8 h8 w8 st8 => ⟨kp' st7 st8, Br.t rfl (k h8 ⟨F, F8, _, _, f, (H.right w8 st8 (t1.r.putM I I' hn.1 a.key a.n)).mono (by omega)⟩)⟩) fun _ hno => absurd hf' hno
    · have H := t1.left w7 st7
      have hf' : ¬ putFull σ' a.key a.n := fun hh => hno ((t1.r.full I I' hn.1 a.key a.n).1 hh)
      refine d76 H.w' (by omega) ok.v0 ok.v1 ok.n0 ok.n1 ok.key (fun hbig => absurd hbig (by omega)) (fun _ hh => absurd hh hf') fun _ _ F8 h8 p' hp' w8 st8 => ⟨kp' st7 st8, ?_⟩
      rw [t1.r.last]
      exact Br.t eqb (k h8 ⟨F7, F8, _, _, _, H.right w8 st8 (t1.r.put I I' hn.1 hp hp')⟩)
  · -- Get
    have hlook := t1.r.look hn.1 a.key
    refine w20 t1.w (by omega) ok.key (fun hno h14 w14 st14 => ⟨kp st14, ?_⟩) fun q X hq hX h14 w14 st14 => ⟨kp st14, ?_⟩
    · have H := t1.left w14 st14
      refine d77 H.w' (by omega) ok.key (fun _ => ⟨⟨rfl, trivial⟩, Br.t rfl (Br.t rfl (k h14 ⟨F, F', σ, σ', f, ⟨H.w.mono (by omega), H.w'.mono (by omega), H.dis, H.fr, H.fr', H.ext, t1.r⟩⟩))⟩) fun q' Q' hq' => ?_
      rw [hlook, hno] at hq'; cases hq'
    · have H := t1.left w14 st14
      obtain ⟨hX', rg⟩ := t1.r.get I I' hn.1 hq hX
      refine d77 H.w' (by omega) ok.key (fun hno' => ?_) fun q' Q' hq' hQ' F18 h18 w18 st18 => ⟨kp' st14 st18, ?_⟩
      · rw [hlook, hq] at hno'; cases hno'
      · rw [hlook, hq] at hq'
        simp only [Option.map_some, Option.some.injEq] at hq'
        subst hq'
        rw [hX'] at hQ'
        cases hQ'
        rw [t1.r.last]
        exact Br.t eqb (Br.t eqb (k h18 ⟨F, F18, _, _, f, H.right w18 st18 rg⟩))
  · -- Free
    refine w16 t1.w (by omega) (fun hno => ⟨⟨rfl, trivial⟩, ?_⟩) fun x X hx hX F20 h20 w20 st20 => ⟨kp st20, ?_⟩
    · refine d78 t1.w' (by omega) hnr.1 hnr.2 (fun _ => ⟨⟨rfl, trivial⟩, k h1 ⟨F, F', σ, σ', f, t1.mono (by omega)⟩⟩) fun x' X' hx' => ?_
      rw [t1.r.pins] at hx'
      obtain ⟨e, he, hee⟩ := List.mem_map.1 hx'
      exact absurd (congrArg Prod.fst hee) (hno e he)
    · have H := t1.left w20 st20
      obtain ⟨hx', hX'⟩ := t1.r.pin I I' hx
      refine d78 H.w' (by omega) hnr.1 hnr.2 (fun hno => absurd rfl (hno _ hx')) fun y Y hy hY F22 h22 w22 st22 => ⟨kp' st20 st22, ?_⟩
      have hyx : y = f x := congrArg Prod.snd (pin_uniq I'.pinN hy hx' rfl)
      subst hyx
      rw [hX' X hX] at hY
      cases hY
      exact k h22 ⟨F20, F22, _, _, f, (H.right w22 st22 (t1.r.free I I' hx hX)).mono (by omega)⟩
  · -- Value
    refine w23 t1.w (fun hno => ⟨⟨rfl, trivial⟩, ?_⟩) fun x X hx hX => ⟨⟨rfl, trivial⟩, ?_⟩
    · refine d79 t1.w' hnr.1 hnr.2 (fun _ => Br.t rfl (k h1 ⟨F, F', σ, σ', f, t1.mono (by omega)⟩)) fun x' X' hx' => ?_
      rw [t1.r.pins] at hx'
      obtain ⟨e, he, hee⟩ := List.mem_map.1 hx'
      exact absurd (congrArg Prod.fst hee) (hno e he)
    · obtain ⟨hx', hX'⟩ := t1.r.pin I I' hx
      refine d79 t1.w' hnr.1 hnr.2 (fun hno => absurd rfl (hno _ hx')) fun y Y hy hY => ?_
      have hyx : y = f x := congrArg Prod.snd (pin_uniq I'.pinN hy hx' rfl)
      subst hyx
      rw [hX' X hX] at hY
      cases hY
      exact Br.t eqb (k h1 ⟨F, F', σ, σ', f, t1.mono (by omega)⟩)
  · -- Drop
    obtain ⟨hd, rd⟩ := t1.r.drop I I' hn.1 a.key
    refine w21 t1.w (by omega) ok.key fun h30 w30 st30 => ⟨kp st30, ?_⟩
    have H := t1.left w30 st30
    refine d80 H.w' (by omega) ok.key fun F32 h32 w32 st32 => ⟨kp' st30 st32, ?_⟩
    rw [hd]
    have : ((dropS σ a.key).1 == (dropS σ a.key).1) = true := by simp
    rw [this]
    exact k h32 ⟨F, F32, _, _, f, (H.right w32 st32 rd).mono (by omega)⟩
  · -- Room
    refine w22 t1.w (by omega) ok.n0 ok.n1 fun h33 w33 st33 => ⟨kp st33, ?_⟩
    have H := t1.left w33 st33
    exact d81 H.w' (by omega) ok.n0 ok.n1 fun F34 h34 w34 st34 => ⟨kp' st33 st34, k h34 ⟨F, F34, _, _, f, (H.right w34 st34 (t1.r.room I I' a.n)).mono (by omega)⟩⟩

end Go.V.Yteojmnnobmpdiaa
set_option linter.unusedVariables false
set_option linter.unusedSimpArgs false
/-! CacheActs is true. -/
namespace Go.V.Yteojmnnobmpdiaa
open Go Go.V

theorem neb {a : Int} : (a != a) = false := by simp

/-- tells. -/
theorem c27 {base h : Heap} {m c d : Nat} {F F' : Nat → Prop} {σ σ' : CS} {f : Nat → Nat} (t : Pair base h m c d F F' σ σ' f) (hm : m ≤ 4398046511100) {R : Bool → Heap → Prop} (k : ∀ h', Ext0 h h' → R true h') :
    Call Go.Proofs.Try.prog 27 [.lf (.ptr (some (c, 0))), .lf (.ptr (some (d, 0)))] h [.one .bool] R := by
  have I := t.w.inv
  have I' := t.w'.inv
  have hn := t.w.n
  have hlen := t.r.x.len
  obtain ⟨e1, e2, e3⟩ := t.r.sums
  refine ok27 (d82 t.w' (by omega) ?_)
  rw [e1, e2, e3]
  have keysN : ∀ i : Int, ¬ (0 ≤ i ∧ i < σ.sh.length) → keysS σ i = [] := fun i hi => by unfold keysS; rw [if_neg hi]
  refine ⟨fun cc h' => cc = false ∧ Ext0 h h', ?_, ?_⟩
  · refine w15 t.w (by omega) fun h6 x6 => ?_
    rw [charge_all I]
    refine Br.f neb (w17 (t.w.ext0 x6) (by omega) fun h8 x8 => ?_)
    rw [pinned_all σ]
    have t8 := (t.ext0 x6).ext0 x8
    refine Br.f neb (w83 t8.w (by omega) ?_)
    rw [len_all I]
    refine Br.f neb (w19 t8.w (by omega) fun s11 h12 a11 x12 _ => ?_)
    rw [keysN (-1) (by omega)] at a11
    have hl11 := a11.len
    have t12 := t8.ext0 x12
    obtain ⟨dlab, dV, dD, dI, dF⟩ := id t12.w'
    refine Br.f (by simp [hl11]) (NilC.mk rfl ⟨_, dD.blk.cell rfl, w19 t12.w (by omega) fun s16 h17 a16 x17 _ => ?_⟩)
    rw [keysN _ (by rw [hlen]; omega)] at a16
    have hl16 := a16.len
    exact ⟨by simp [hl16], ((x6.trans x8).trans x12).trans x17⟩
  rintro _ h19 ⟨rfl, x19⟩
  refine Br.f rfl ⟨fun i h' b => ∃ q : Nat, i = q ∧ q ≤ σ.sh.length ∧ b = σ.sh.length - q ∧ Ext0 h h', ⟨_, 0, rfl, by omega, rfl, x19⟩, ?_⟩
  rintro _ h23 _ ⟨q, rfl, hq, rfl, x23⟩
  have t23 := t.ext0 x23
  obtain ⟨dlab, dV, dD, dI, dF⟩ := id t23.w'
  refine NilC.mk rfl ⟨_, dD.blk.cell rfl, ?_⟩
  rw [hlen]
  refine Br.dec (fun hi => ?_) fun hi => k h23 x23
  have hi' : q < σ.sh.length := by omega
  obtain ⟨s, s', hs, hs', S⟩ := t.r.x.at hi' trivial
  have hkeys : keysS σ (q : Int) = s.waits.map (keyOf σ.it) := by
    unfold keysS
    rw [if_pos ⟨by omega, by omega⟩, Int.toNat_natCast, shAt_of hs]
  have SI := I.sh q s hs
  have hwl := SI.wlen
  have hal := I.len q s hs
  refine w19 t23.w (by omega) fun s28 h29 a28 x29 _ => ?_
  rw [hkeys] at a28
  have hl28 := a28.len
  rw [List.length_map] at hl28
  have dD29 := dD.ext0 x29
  obtain ⟨rl, rw', hrl, hrw, al, rol, aw, row⟩ := dD29.row hs'
  have hlw := aw.len
  rw [S.waits, List.length_map] at hlw
  refine NilC.mk rfl ⟨dV.sw, dD29.blk.cell rfl, (dD29.wo.arr slF_sized).ix (k := q) rfl hrw fun b33 b34 hc => ⟨rw', hc, Br.f (by rw [hl28, hlw]; simp) ?_⟩⟩
  refine ⟨fun i h' b => ∃ j : Nat, i = j ∧ j ≤ s.waits.length ∧ b = s.waits.length - j ∧ h29 = h', ⟨_, 0, rfl, by omega, rfl, rfl⟩, ?_⟩
  rintro _ _ _ ⟨j, rfl, hj, rfl, rfl⟩
  refine Br.dec (fun hj2 => ?_) fun hj2 => ⟨σ.sh.length - (q + 1), by omega, q + 1, by rw [wi64 (by omega) (by omega)]; rfl, by omega, rfl, x23.trans x29⟩
  have hj' : j < s.waits.length := by omega
  have hpm := List.getElem_mem hj'
  have hget := List.getElem?_eq_getElem hj'
  generalize s.waits[j] = p at *
  obtain ⟨hpa, X, hX, _⟩ := (SI.w p).1 hpm
  have hX' : σ'.it (f p) = some X := by rw [S.it p hpa]; exact hX
  refine a28.ix (k := j) rfl (by rw [List.getElem?_map, hget]; rfl) fun b41 b42 hc1 => ⟨_, hc1, NilC.mk rfl ⟨dV.sw, dD29.blk.cell rfl, (dD29.wo.arr slF_sized).ix (k := q) rfl hrw fun b47 b48 hc2 => ⟨rw', hc2, aw.ix (k := j) rfl (by rw [S.waits, List.getElem?_map, hget]; rfl) fun b50 b51 hc3 => ⟨_, hc3, NilC.mk rfl ⟨X.key, (dD29.its _ X hX').1.cell rfl, ?_⟩⟩⟩⟩⟩
  have hk : keyOf σ.it p = X.key := by simp only [keyOf, hX]
  have hse : strEq (keyOf σ.it p) X.key = true := by rw [hk]; exact (MapKept.bytes_beq _ _).2 rfl
  rw [hse]
  refine Br.f rfl ⟨s.waits.length - (j + 1), by omega, j + 1, ?_, by omega, rfl, rfl⟩
  rw [wi64 (by omega) (by omega)]; rfl

theorem c6 {h : Heap} {n room : Int} {strict : Bool} {s : Slc} {l : List Act} (a : Arr 5 Act.lfs h s l) (r0 : 0 ≤ room) (r1 : room ≤ big) (hn0 : -9223372036854775808 ≤ n) (hn1 : n ≤ 9223372036854775807)
    (hl : l.length < 4398046511100) (ok : ∀ x ∈ l, x.Ok) {R : Bool → Heap → Prop} (k : ∀ h', Ext0 h h' → R true h') :
    Call Go.Proofs.Try.prog 6 [.agg [.int .i64 n, .int .u64 room, .bool strict], .lf (.slc s)] h [.one .bool] R := by
  have hlen := a.len
  refine ok6 (New.mk fun b0 h1 hb0 hs1 e1 k1 => w12 r0 r1 hn0 hn1 (fun hbad => ⟨⟨rfl, trivial⟩, ?_⟩) fun hn1' hn64 F h4 c w e4 hF => ⟨⟨e4.same _ (by omega) id, trivial⟩, ?_⟩)
  · refine d24 r0 r1 hn0 hn1 (fun _ => ⟨⟨rfl, trivial⟩, fun cc h' => cc = false ∧ h1 = h', Br.f rfl ⟨rfl, rfl⟩, ?_⟩) fun _ _ => by omega
    rintro _ _ ⟨rfl, rfl⟩
    exact Br.f rfl (Br.t rfl (c13 fun h12 e12 => k h12 (e1.trans e12)))
  · refine d24 r0 r1 hn0 hn1 (fun hbad => by omega) fun _ _ F' h7 d w' e7 hF' => ⟨⟨e7.same _ (by have := e4.size; omega) id, trivial⟩, fun cc h' => cc = false ∧ h7 = h', Br.f rfl ⟨rfl, rfl⟩, ?_⟩
    rintro _ _ ⟨rfl, rfl⟩
    refine Br.f rfl (Br.f rfl ?_)
    have P0 : Pair h h7 0 c d F F' (newS n.toNat room strict) (newS n.toNat room strict) id :=
      ⟨w.ext0 e7, w', fun y hy hy' => by have := w.lt y hy; have := hF' y hy'; omega, fun y hy => by have := hF y hy; omega, fun y hy => by have := hF' y hy; have := e4.size; omega, (e1.trans e4).trans e7, RA.new ..⟩
    refine ⟨fun i h' b => ∃ q : Nat, i = q ∧ q ≤ l.length ∧ b = l.length - q ∧ Alike h h' q c d, ⟨_, 0, rfl, by omega, rfl, F, F', _, _, _, P0⟩, ?_⟩
    rintro _ h16 _ ⟨q, rfl, hq, rfl, F, F', σ, σ', f, P⟩
    refine Br.dec (fun hi => ?_) fun hi => c27 P (by omega) fun h42 e42 => Br.t rfl (c13 fun h44 e44 => k h44 ((P.ext.trans e42).trans e44))
    have hi' : q < l.length := by omega
    have ox := ok _ (List.getElem_mem hi')
    have hgx : l[q]? = some l[q] := List.getElem?_eq_getElem hi'
    generalize l[q] = x at ox hgx
    refine (a.ext0 P.ext).ix rfl hgx fun b18 b19 hc => ⟨_, _, _, _, _, hc, c25 P (by omega) ox fun h26 hal => ?_⟩
    obtain ⟨G, G', τ, τ', g, Q⟩ := hal
    have a26 := a.ext0 Q.ext
    have next : ∀ {h'}, Ext0 h26 h' → ∃ b39, b39 < l.length - q ∧ ∃ q' : Nat, IntKind.wrap .i64 ((q : Int) + 1) = (q' : Int) ∧ q' ≤ l.length ∧ b39 = l.length - q' ∧ Alike h h' q' c d := fun e =>
      ⟨l.length - (q + 1), by omega, q + 1, by rw [wi64 (by omega) (by omega)]; rfl, by omega, rfl, G, G', τ, τ', g, Q.ext0 e⟩
    have cell : ∀ {b o : Nat} {h' : Heap}, cellsAt h' b o (Act.lfs x) → cellsAt h' b (o + 2) [.str x.key] := fun hc => ⟨hc.2.2.1, trivial⟩
    refine Br.f rfl (a26.ix rfl hgx fun b27 b28 hc1 => ⟨_, cell hc1, a26.ix rfl hgx fun b30 b31 hc2 => ⟨_, cell hc2, w18 Q.w ox.key fun h34 e34 => ⟨cellsAt.ext e34 (fun k => k) (cell hc2), ?_⟩⟩⟩)
    have Q34 := Q.ext0 e34
    obtain ⟨dlab, dV, dD, dI, dF⟩ := id Q34.w'
    refine c26 dD ox.key ?_
    rw [Q.r.x.len]
    refine Br.f neb ⟨by decide, Br.mk (fun _ => c27 Q34 (by omega) fun h38 e38 => Br.f rfl (next (e34.trans e38))) fun _ => next e34⟩

end Go.V.Yteojmnnobmpdiaa
