/- This text proves a part of the laws of seat Ytclffphegfhocaa, under no condition: B3h. -/
import Derived.Test.YtclffphegfhocaaEG
set_option linter.unusedVariables false
set_option linter.unusedSimpArgs false
/-! BatchBack and BatchParts: what they compute is true. -/
namespace Go.V.Ytclffphegfhocaa
open Go Go.V

def zeroB : Bt := ⟨[], 0, []⟩
theorem zeroB_ok : zeroB.Ok := ⟨by simp [zeroB], by simp [zeroB], .inl ⟨rfl, rfl⟩, by simp [zeroB], by simp [zeroB]⟩

theorem c4 {s t : Slc} {l m : List Rec} {h : Heap} (a : Arr 4 Rec.lfs h s l) (b : Arr 4 Rec.lfs h t m) (hl : l.length ≤ 9223372036854775807) (hm : m.length ≤ 9223372036854775807) (ol : ∀ r ∈ l, r.Ok) (om : ∀ r ∈ m, r.Ok)
    {R : Bool → Heap → Prop} (k : ∀ h', Ext0 h h' → R true h') : Call Go.Proofs.Try.prog 4 [.lf (.slc s), .lf (.slc t)] h [.one .bool] R := by
  have hla := a.len
  have hlb := b.len
  refine ok4 (New.mk fun b0 h1 hb0 hs1 e1 k1 => ?_)
  refine ⟨fun i h' d => ∃ (n : Nat) (F : Nat → Prop) (x : Bt), i = n ∧ n ≤ l.length ∧ d = l.length - n ∧ x.Ok ∧ x.marks = [] ∧ Bat h' b0 F x ∧ Ext0 h h' ∧ (∀ i, F i → h.size ≤ i), ⟨_, 0, _, zeroB, rfl, by omega, rfl, zeroB_ok, rfl, Bat.new k1, e1, fun i hi => by rw [hi]; omega⟩, ?_⟩
  rintro _ h5 _ ⟨n, F, x, rfl, hn, rfl, okx, hxm, B, e, hF⟩
  refine Br.dec (fun hi => ?_) fun hi => ?_
  · have hi' : n < l.length := by omega
    refine (a.ext0 e).ix rfl (List.getElem?_eq_getElem hi') fun b1 o1 hc => ⟨_, _, _, _, hc, ?_⟩
    have hr := ol _ (List.getElem_mem hi')
    refine c8 B okx hr fun h6 F6 B6 e6 s6 => ?_
    refine ⟨_, ?_, n + 1, F6, _, ?_, by omega, rfl, allB_ok okx (by simpa using hr), ?_, B6, Ext.to0 e e6 hF, s6.new hF e.size⟩
    · show l.length - (n + 1) < l.length - n; omega
    · rw [wi64 (by omega) (by omega)]; rfl
    · obtain ⟨_, _, h2⟩ := allB_pre x [l[n]]; rw [h2, hxm]
  refine c9 B okx fun s16 h17 o17 f17 => c10 (B.ext0 f17.ext) okx ?_
  have B17 := B.ext0 f17.ext
  have hnot : ¬ s16.inS F := fun ⟨b, off, hb, hx⟩ => by have := f17.new b off hb; have := B.lt b hx; omega
  refine c15 B17 (by rw [hxm]; decide) fun h20 F20 B20 e20 s20 => ?_
  have eh17 := e.trans f17.ext
  refine ⟨fun i h' d => ∃ (n : Nat) (F : Nat → Prop) (y : Bt), i = n ∧ n ≤ m.length ∧ d = m.length - n ∧ y.Ok ∧ y.marks = [(x.recs.length : Int)] ∧ (∃ q, y.recs = x.recs ++ q) ∧ Bat h' b0 F y ∧ Ext0 h h' ∧ (∀ i, F i → h.size ≤ i) ∧ Own 4 Rec.lfs h' s16 x.recs ∧ ¬ s16.inS F,
    ⟨_, 0, F20, ⟨x.recs, x.size, x.marks ++ [(x.recs.length : Int)]⟩, rfl, by omega, rfl, ⟨okx.len, okx.recs, okx.size, ?_, ?_⟩, by rw [hxm]; rfl, ⟨[], by simp⟩, B20, Ext.to0 eh17 e20 hF, s20.new hF eh17.size, o17.ext e20 hnot, Sub.not o17 s20 hnot⟩, ?_⟩
  · rw [hxm]; simp
  · rw [hxm]; simp
  rintro _ h24 _ ⟨n, F', y, rfl, hn', rfl, oky, hym, ⟨q, hq⟩, B', e', hF', o', hnot'⟩
  refine Br.dec (fun hi => ?_) fun hi => ?_
  · have hi' : n < m.length := by omega
    refine (b.ext0 e').ix rfl (List.getElem?_eq_getElem hi') fun b1 o1 hc => ⟨_, _, _, _, hc, ?_⟩
    have hr := om _ (List.getElem_mem hi')
    refine c8 B' oky hr fun h6 F6 B6 e6 s6 => ?_
    obtain ⟨q', h2, h3⟩ := allB_pre y [m[n]]
    refine ⟨_, ?_, n + 1, F6, _, ?_, by omega, rfl, allB_ok oky (by simpa using hr), by rw [h3, hym], ⟨q ++ q', by rw [h2, hq, List.append_assoc]⟩, B6, Ext.to0 e' e6 hF', s6.new hF' e'.size, o'.ext e6 hnot', Sub.not o' s6 hnot'⟩
    · show m.length - (n + 1) < m.length - n; omega
    · rw [wi64 (by omega) (by omega)]; rfl
  refine c16 B' oky (by rw [hym]; simp) fun h36 F36 B36 e36 s36 => ?_
  have ok36 := backB_ok oky
  have hback : backB y = (0, ⟨x.recs, y.size - tot (y.recs.drop x.recs.length), []⟩) := by
    simp only [backB, hym, List.getLast?_singleton, Int.toNat_natCast, hq, List.take_left, List.dropLast_singleton]
  rw [hback] at B36 ok36 ⊢
  have eh36 := Ext.to0 e' e36 hF'
  refine Br.t rfl (c9 B36 ok36 fun s37 h38 o38 f38 => ?_)
  have B38 := B36.ext0 f38.ext
  have := okx.len
  refine c13 (o38.arr lfs_sized) (((o'.ext e36 hnot').ext0 f38.ext).arr lfs_sized) (by show x.recs.length ≤ _; omega) (Br.t rfl (c10 B38 ok36 (Br.t (by simp) ?_)))
  refine c16 B38 ok36 (by simp) fun h44 F44 B44 e44 s44 => ?_
  have hback2 : ∀ n, backB ⟨x.recs, n, []⟩ = (6, ⟨x.recs, n, []⟩) := fun n => rfl
  rw [hback2]
  refine Br.t rfl (c14 fun h46 e46 => k h46 ?_)
  exact (Ext.to0 (eh36.trans f38.ext) e44 (s36.new hF' e'.size)).trans e46

/-- Three batches side by side. -/
structure Three (h0 h : Heap) (gx gy ga : Nat) (Fx Fy Fa : Nat → Prop) (X Y A : Bt) : Prop where
  bx : Bat h gx Fx X
  by_ : Bat h gy Fy Y
  ba : Bat h ga Fa A
  xy : ∀ b, Fx b → ¬ Fy b
  xa : ∀ b, Fx b → ¬ Fa b
  ya : ∀ b, Fy b → ¬ Fa b
  e : Ext0 h0 h
  nx : ∀ b, Fx b → h0.size ≤ b
  ny : ∀ b, Fy b → h0.size ≤ b
  na : ∀ b, Fa b → h0.size ≤ b
  ox : X.Ok
  oy : Y.Ok
  oa : A.Ok

theorem Three.ext0 {h0 h h' : Heap} {gx gy ga : Nat} {Fx Fy Fa : Nat → Prop} {X Y A : Bt} (T : Three h0 h gx gy ga Fx Fy Fa X Y A) (k : Ext0 h h') : Three h0 h' gx gy ga Fx Fy Fa X Y A :=
  { T with bx := T.bx.ext0 k, by_ := T.by_.ext0 k, ba := T.ba.ext0 k, e := T.e.trans k }
theorem Three.x {h0 h h' : Heap} {gx gy ga : Nat} {Fx Fy Fa Fx' : Nat → Prop} {X Y A X' : Bt} (T : Three h0 h gx gy ga Fx Fy Fa X Y A) (B : Bat h' gx Fx' X') (k : Ext Fx h h') (s : Sub Fx Fx' h) (o : X'.Ok) : Three h0 h' gx gy ga Fx' Fy Fa X' Y A :=
  ⟨B, T.by_.ext k fun b hb hx => T.xy b hx hb, T.ba.ext k fun b hb hx => T.xa b hx hb, fun b hb hy => (s b hb).elim (fun hx => T.xy b hx hy) fun hn => by have := T.by_.lt b hy; omega, fun b hb hy => (s b hb).elim (fun hx => T.xa b hx hy) fun hn => by have := T.ba.lt b hy; omega, T.ya, Ext.to0 T.e k T.nx, s.new T.nx T.e.size, T.ny, T.na, o, T.oy, T.oa⟩
theorem Three.y {h0 h h' : Heap} {gx gy ga : Nat} {Fx Fy Fa Fy' : Nat → Prop} {X Y A Y' : Bt} (T : Three h0 h gx gy ga Fx Fy Fa X Y A) (B : Bat h' gy Fy' Y') (k : Ext Fy h h') (s : Sub Fy Fy' h) (o : Y'.Ok) : Three h0 h' gx gy ga Fx Fy' Fa X Y' A :=
  ⟨T.bx.ext k fun b hb hx => T.xy b hb hx, B, T.ba.ext k fun b hb hx => T.ya b hx hb, fun b hx hb => (s b hb).elim (fun hy => T.xy b hx hy) fun hn => by have := T.bx.lt b hx; omega, T.xa, fun b hb hy => (s b hb).elim (fun hx => T.ya b hx hy) fun hn => by have := T.ba.lt b hy; omega, Ext.to0 T.e k T.ny, T.nx, s.new T.ny T.e.size, T.na, T.ox, o, T.oa⟩
theorem Three.a {h0 h h' : Heap} {gx gy ga : Nat} {Fx Fy Fa Fa' : Nat → Prop} {X Y A A' : Bt} (T : Three h0 h gx gy ga Fx Fy Fa X Y A) (B : Bat h' ga Fa' A') (k : Ext Fa h h') (s : Sub Fa Fa' h) (o : A'.Ok) : Three h0 h' gx gy ga Fx Fy Fa' X Y A' :=
  ⟨T.bx.ext k fun b hb hx => T.xa b hb hx, T.by_.ext k fun b hb hx => T.ya b hb hx, B, T.xy, fun b hx hb => (s b hb).elim (fun hy => T.xa b hx hy) fun hn => by have := T.bx.lt b hx; omega, fun b hy hb => (s b hb).elim (fun ha => T.ya b hy ha) fun hn => by have := T.by_.lt b hy; omega, Ext.to0 T.e k T.na, T.nx, T.ny, s.new T.na T.e.size, T.ox, T.oy, o⟩

theorem map_plain : ∀ {l : List Rec}, (∀ r ∈ l, plainR r = r) → l.map plainR = l
  | [], _ => rfl
  | r :: l, h => by rw [List.map_cons, h r (List.mem_cons_self ..), map_plain fun x hx => h x (List.mem_cons_of_mem _ hx)]

theorem add_cases {x : Bt} (ok : x.Ok) (r : Rec) : ((allB x [r]).1 = 0 ∧ (allB x [r]).2.recs = x.recs ++ [plainR r] ∧ checkE r = 0) ∨
    ((allB x [r]).1 ≠ 0 ∧ (allB x [r]).2 = x ∧ (checkE r = 0 → (x.recs.length : Int) + 1 > 4096 ∨ 12 + tot x.recs + (encR r).length > 4194304)) := by
  have hb : bad [r] = checkE r := by simp only [bad]; split <;> simp_all
  unfold allB
  rw [hb, ok.m12]
  by_cases hc : checkE r = 0
  · simp only [hc, ne_eq, not_true, if_false]
    split
    · rename_i h
      right
      refine ⟨show (2 : Int) ≠ 0 by decide, rfl, fun _ => ?_⟩
      simp only [List.length_singleton, tot] at h; omega
    · left; exact ⟨rfl, by simp, trivial⟩
  · right
    rw [if_pos hc]
    exact ⟨hc, rfl, fun h => absurd h hc⟩

theorem c3 {s t : Slc} {l m : List Rec} {h : Heap} (a : Arr 4 Rec.lfs h s l) (b : Arr 4 Rec.lfs h t m) (hl : l.length ≤ 9223372036854775807) (hm : m.length ≤ 9223372036854775807) (ol : ∀ r ∈ l, r.Ok) (om : ∀ r ∈ m, r.Ok) (osz : ∀ r ∈ m, r.val.size ≤ 9223372036854775807)
    {R : Bool → Heap → Prop} (k : ∀ h', Ext0 h h' → R true h') : Call Go.Proofs.Try.prog 3 [.lf (.slc s), .lf (.slc t)] h [.one .bool] R := by
  have hla := a.len
  have hlb := b.len
  refine ok3 (New.mk fun b0 h1 hb0 hs1 e1 k1 => New.mk fun b2 h3 hb2 hs3 e3 k3 => New.mk fun b4 h5 hb4 hs5 e5 k5 => ?_)
  have T0 : Three h h5 b0 b2 b4 (fun x => x = b0) (fun x => x = b2) (fun x => x = b4) zeroB zeroB zeroB :=
    ⟨((Bat.new k1).ext0 e3).ext0 e5, (Bat.new k3).ext0 e5, Bat.new k5, fun b h1 h2 => by omega, fun b h1 h2 => by omega, fun b h1 h2 => by omega, (e1.trans e3).trans e5, fun b hb => by omega, fun b hb => by omega, fun b hb => by omega, zeroB_ok, zeroB_ok, zeroB_ok⟩
  refine ⟨fun i h' d => ∃ (n : Nat) (Fx Fy Fa : Nat → Prop) (X : Bt), i = n ∧ n ≤ l.length ∧ d = l.length - n ∧ Three h h' b0 b2 b4 Fx Fy Fa X zeroB X, ⟨_, 0, _, _, _, _, rfl, by omega, rfl, T0⟩, ?_⟩
  rintro _ h9 _ ⟨n, Fx, Fy, Fa, X, rfl, hn, rfl, T⟩
  refine Br.dec (fun hi => ?_) fun hi => ?_
  · have hi' : n < l.length := by omega
    have hr := ol _ (List.getElem_mem hi')
    have hr' : ∀ r ∈ [l[n]], r.Ok := by simpa using hr
    refine a.ix rfl (List.getElem?_eq_getElem hi') fun b1 o1 hc => ⟨_, _, _, _, hc.ext T.e id, a.ix rfl (List.getElem?_eq_getElem hi') fun b1 o1 hc' => ⟨_, _, _, _, hc'.ext T.e id, ?_⟩⟩
    refine c8 T.bx T.ox hr fun h6 F6 B6 e6 s6 => ?_
    have T6 := T.x B6 e6 s6 (allB_ok T.ox hr')
    refine ⟨hc'.ext T6.e id, ?_⟩
    refine c8 T6.ba T6.oa hr fun h7 F7 B7 e7 s7 => ?_
    have T7 := T6.a B7 e7 s7 (allB_ok T.oa hr')
    refine Br.ne (fun hne => absurd rfl hne) fun _ => ⟨_, ?_, n + 1, _, _, _, _, ?_, by omega, rfl, T7⟩
    · show l.length - (n + 1) < l.length - n; omega
    · rw [wi64 (by omega) (by omega)]; rfl
  refine ⟨fun i h' d => ∃ (n : Nat) (Fx Fy Fa : Nat → Prop) (Y A : Bt), i = n ∧ n ≤ m.length ∧ d = m.length - n ∧ Three h h' b0 b2 b4 Fx Fy Fa X Y A ∧ A.recs = X.recs ++ Y.recs, ⟨_, 0, _, _, _, _, _, rfl, by omega, rfl, T, by simp [zeroB]⟩, ?_⟩
  rintro _ h31 _ ⟨n, Fx, Fy, Fa, Y, A, rfl, hn, rfl, T, hA⟩
  refine Br.dec (fun hi => ?_) fun hi => ?_
  · have hi' : n < m.length := by omega
    have hr := om _ (List.getElem_mem hi')
    have hsz := osz _ (List.getElem_mem hi')
    have hr' : ∀ r ∈ [m[n]], r.Ok := by simpa using hr
    refine b.ix rfl (List.getElem?_eq_getElem hi') fun b1 o1 hc => ⟨_, _, _, _, hc.ext T.e id, ?_⟩
    refine c8 T.by_ T.oy hr fun h6 F6 B6 e6 s6 => ?_
    have T6 := T.y B6 e6 s6 (allB_ok T.oy hr')
    refine ⟨fun c h' => ∃ (Fx Fy Fa : Nat → Prop) (Y A : Bt), Three h h' b0 b2 b4 Fx Fy Fa X Y A ∧ (c = false → A.recs = X.recs ++ Y.recs) ∧ (c = true → checkE m[n] = 0 ∧ ((A.recs.length : Int) + 1 > 4096 ∨ 12 + tot A.recs + (encR m[n]).length > 4194304)), ?_, ?_⟩
    · rcases add_cases T.oy m[n] with ⟨h1, h2, h3⟩ | ⟨h1, h2, h3⟩
      · refine Br.t (by simp [h1]) ?_
        refine b.ix rfl (List.getElem?_eq_getElem hi') fun b1 o1 hc => ⟨_, _, _, _, hc.ext T6.e id, ?_⟩
        refine c8 T6.ba T6.oa hr fun h7 F7 B7 e7 s7 => ?_
        have T7 := T6.a B7 e7 s7 (allB_ok T.oa hr')
        refine ⟨_, _, _, _, _, T7, ?_⟩
        rcases add_cases T.oa m[n] with ⟨h4, h5, h6⟩ | ⟨h4, h5, h6⟩
        · refine ⟨fun _ => by rw [h5, h2, hA, List.append_assoc], fun hc => absurd hc (by simp [h4])⟩
        · refine ⟨fun hc => absurd hc (by simp [h4]), fun _ => ⟨h3, ?_⟩⟩
          rw [h5]; exact h6 h3
      · refine Br.f (by simp [h1]) ⟨_, _, _, _, _, T6, fun _ => by rw [h2]; exact hA, fun hc => by cases hc⟩
    · rintro c h51 ⟨Fx, Fy, Fa, Y, A, T, hf, ht⟩
      refine Br.mk (fun hc => ?_) fun hc => ?_
      · obtain ⟨hck, hbig⟩ := ht hc
        have hAl := T.oa.len
        refine c9 T.ba T.oa fun s52 h53 o53 f53 => ?_
        have T53 := T.ext0 f53.ext
        rw [o53.len, wi64 (by omega) (by omega)]
        refine Br.dec (fun _ => k _ T53.e) fun hnb => ?_
        obtain ⟨hk1, hk2⟩ := check_size hck
        refine b.ix rfl (List.getElem?_eq_getElem hi') fun b1 o1 hc => ⟨_, _, _, _, hc.ext T53.e id, ?_⟩
        refine c10 T53.ba T53.oa ⟨hc.ext T53.e id, ?_⟩
        refine c11 hr (by omega) (fun hh => by have := hk2 hh; omega) hsz fun h63 e63 => ?_
        have := tot_nonneg A.recs
        have := tot_bound T.oa.recs
        have := enc_le hr hck
        rw [wi64 (by omega) (by omega)]
        rw [decide_eq_true (by omega)]
        exact k _ (T53.e.trans e63)
      · refine ⟨_, ?_, n + 1, Fx, Fy, Fa, Y, A, ?_, by omega, rfl, T, hf hc⟩
        · show m.length - (n + 1) < m.length - n; omega
        · rw [wi64 (by omega) (by omega)]; rfl
  refine c12 T.bx T.ox T.by_ T.oy fun h66 F66 B66 e66 s66 => ?_
  have hYp : Y.recs.map plainR = Y.recs := map_plain fun r hr => (T.oy.recs r hr).2.2
  have hall : (allB X Y.recs).1 = 0 ∧ (allB X Y.recs).2.recs = A.recs := by
    have hb : bad Y.recs = 0 := bad_zero fun r hr => (T.oy.recs r hr).2.1
    have h1 := T.oa.len
    have h2 : 12 + tot A.recs ≤ 4194304 := by
      rcases T.oa.size with ⟨_, h⟩ | h
      · rw [h]; simp [tot]
      · omega
    rw [hA] at h1 h2
    rw [tot_append] at h2
    rw [List.length_append] at h1
    unfold allB
    rw [if_neg (by simp [hb]), T.ox.m12, if_neg (by omega)]
    exact ⟨rfl, by rw [hYp, hA]⟩
  have T66 := T.x B66 e66 s66 (allB_ok T.ox fun r hr => (T.oy.recs r hr).1)
  refine Br.t (by simp [hall.1]) ?_
  have := T.oa.len
  refine c9 T66.bx T66.ox fun s67 h68 o68 f68 => ?_
  have T68 := T66.ext0 f68.ext
  refine c9 T68.ba T68.oa fun s69 h70 o70 f70 => ?_
  have T70 := T68.ext0 f70.ext
  have o68' := o68.ext0 f70.ext
  rw [hall.2] at o68'
  refine c13 (o68'.arr lfs_sized) (o70.arr lfs_sized) (by omega) (Br.t rfl (c10 T70.bx T70.ox (c10 T70.ba T70.oa (Br.t (by simp [hall.2]) ?_))))
  exact c14 fun h78 e78 => k h78 (T70.e.trans e78)

end Go.V.Ytclffphegfhocaa
