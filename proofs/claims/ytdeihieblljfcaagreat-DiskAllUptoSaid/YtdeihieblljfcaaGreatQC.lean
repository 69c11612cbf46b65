/- This text proves a part of the laws of seat YtdeihieblljfcaaGreat, under no condition: F4b F4c F4d. -/
import Derived.Test.YtdeihieblljfcaaGreatPT
import Derived.Test.YtdeihieblljfcaaGreatPL
import Derived.Test.YtdeihieblljfcaaGreatQB
set_option linter.unusedVariables false
set_option linter.unusedSimpArgs false
/-! What calls come to, told of small disks. -/
namespace Go.V.YtdeihieblljfcaaGreat
open Go Go.V

theorem syncDirR_eq {σ : Dk} {l : Tx} {b : Nat} {d : Dr} (ho : okName l = true) (hl : look l σ.dirs = some b) (hd : σ.dr b = some d) :
    syncDirR σ l = if σ.change.1 ≠ 0 then (σ.change.1, σ.change.2.2) else (0, { σ.change.2.2 with dr := upd σ.dr b ⟨d.now, []⟩ }) := by
  unfold syncDirR findE; rw [if_pos ho]; simp only [hl, hd]
structure Sm (σ : Dk) (dirs : List (Tx × Nat)) (ds : List (Nat × Dr)) (ms : List (Nat × List (Tx × Nat))) (fs : List (Nat × Fl)) : Prop where
  dirs : σ.dirs = dirs
  ds : ∀ p ∈ ds, σ.dr p.1 = some p.2
  ms : ∀ p ∈ ms, σ.mp p.1 = some p.2
  fs : ∀ p ∈ fs, σ.fl p.1 = some p.2
theorem Sm.change {σ : Dk} {dirs ds ms fs} (S : Sm σ dirs ds ms fs) : Sm σ.change.2.2 dirs ds ms fs := ⟨S.dirs, S.ds, S.ms, S.fs⟩

end Go.V.YtdeihieblljfcaaGreat
/-! The first example. -/
namespace Go.V.YtdeihieblljfcaaGreat
open Go Go.V

end Go.V.YtdeihieblljfcaaGreat
/-! Image. -/
namespace Go.V.YtdeihieblljfcaaGreat
open Go Go.V

abbrev NdS := Tx × Slc × Int × Tx
abbrev Nd := Tx × Tx × Int × Tx
def nF : NdS → List Lf := fun o => [.str (tx o.1), .slc o.2.1, .int .i64 o.2.2.1, .str (tx o.2.2.2)]
theorem nF_sized : Sized 4 nF := fun _ => rfl
def firstOf (w : List (Tx × Nat)) (x : Nat) : Tx := ((w.find? fun e => decide (e.2 = x)).map (·.1)).getD []
def ndOf (σ : Dk) (w : List (Tx × Nat)) (e : Tx × Nat) : Nd := (e.1, ((σ.fl e.2).map (·.now)).getD [], ((σ.fl e.2).map fun c => unsW c.opn).getD 0, firstOf w e.2)
def imageL (σ : Dk) : List Nd := (walkL σ).map (ndOf σ (walkL σ))

theorem firstOf_new {pre : List (Tx × Nat)} {path : Tx} {x : Nat} {rest : List (Tx × Nat)} (h : x ∉ pre.map (·.2)) : firstOf (pre ++ (path, x) :: rest) x = path := by
  unfold firstOf
  rw [List.find?_append, List.find?_eq_none.2 fun e he => by simpa using fun z => h (List.mem_map.2 ⟨e, he, z⟩)]
  simp

def FirstM (h : Heap) (b : Nat) (xs : List Nat) (fo : Nat → Tx) : Prop := ∃ L : List Nat, (∀ x, x ∈ L ↔ x ∈ xs) ∧ MapR h b .ptr (.one .str) sF (L.map fun p => ((some (p, 0), fo p) : Option (Nat × Nat) × Tx))
theorem FirstM.ext {S : Nat → Prop} {h h' : Heap} {b : Nat} {xs : List Nat} {fo : Nat → Tx} (M : FirstM h b xs fo) (e : Ext S h h') (hs : ¬ S b) : FirstM h' b xs fo := let ⟨L, hL, M⟩ := M; ⟨L, hL, MapR.ext M e hs⟩
theorem FirstM.lt {h : Heap} {b : Nat} {xs : List Nat} {fo : Nat → Tx} (M : FirstM h b xs fo) : b < h.size := let ⟨_, _, M⟩ := M; MapR.lt M
theorem FirstM.mono {h : Heap} {b : Nat} {xs ys : List Nat} {fo : Nat → Tx} (M : FirstM h b xs fo) (e : ∀ x, x ∈ xs ↔ x ∈ ys) : FirstM h b ys fo := let ⟨L, hL, M⟩ := M; ⟨L, fun x => (hL x).trans (e x), M⟩
theorem FirstM.look {h : Heap} {b : Nat} {xs : List Nat} {fo : Nat → Tx} (M : FirstM h b xs fo) {x : Nat} (hm : x ∈ xs) (hp : ∀ y ∈ xs, plainAt h y) : LookR h .ptr (.one .str) [.str (ByteArray.mk #[])] (some b) (some (x, 0)) [.str (tx (fo x))] true := by
  obtain ⟨L, hL, M⟩ := M
  exact MapR.hit M trivial (k := some (x, 0)) (v := fo x) (List.mem_map.2 ⟨x, (hL x).2 hm, rfl⟩) (fun e he => by
    obtain ⟨p, hpL, rfl⟩ := List.mem_map.1 he
    exact .inr ⟨hp x hm, hp p ((hL p).1 hpL)⟩) _ rfl
theorem FirstM.put {h : Heap} {b : Nat} {xs : List Nat} {fo : Nat → Tx} (M : FirstM h b xs fo) {x : Nat} (hn : x ∉ xs) (hx : plainAt h x) (hp : ∀ y ∈ xs, plainAt h y) {K : Heap → Prop} (k : ∀ h', h'.size = h.size → FirstM h' b (xs ++ [x]) fo → Ext (fun i => i = b) h h' → K h') :
    UpdC .ptr (.one .str) h (some b) (some (x, 0)) [.str (tx (fo x))] K := by
  obtain ⟨L, hL, M⟩ := M
  have ko : KeysOk h .ptr (some (x, 0)) (L.map fun p => ((some (p, 0), fo p) : Option (Nat × Nat) × Tx)) := fun e he => by
    obtain ⟨p, hpL, rfl⟩ := List.mem_map.1 he
    exact .inr ⟨hx, hp p ((hL p).1 hpL)⟩
  refine MapR.put M trivial ko (v := fo x) rfl fun h' hs M' e => k h' hs ⟨L ++ [x], fun y => by rw [List.mem_append, List.mem_append, hL], ?_⟩ e
  rw [aput_new (kt := .ptr) trivial] at M'
  · simpa using M'
  · intro y hy
    obtain ⟨p, hpL, rfl⟩ := List.mem_map.1 hy
    intro z; simp at z; subst z; exact hn ((hL p).1 hpL)

structure Im (h : Heap) (B : Nat) (s : Slc) (os : List NdS) (L : List Nd) : Prop where
  len : os.length = L.length
  at_ : ∀ (k : Nat) o n, os[k]? = some o → L[k]? = some n → o.1 = n.1 ∧ Own 1 dF h o.2.1 n.2.1 ∧ o.2.2 = n.2.2
  ge : ∀ o ∈ os, ∀ b off, o.2.1.a = some (b, off) → B ≤ b ∧ b < h.size
  dj : ∀ (k k' : Nat) o o' b off off', os[k]? = some o → os[k']? = some o' → o.2.1.a = some (b, off) → o'.2.1.a = some (b, off') → k = k'
  sd : ∀ o ∈ os, ∀ b off off', s.a = some (b, off) → o.2.1.a = some (b, off') → False
theorem Im.ext {S : Nat → Prop} {h h' : Heap} {B : Nat} {s : Slc} {os : List NdS} {L : List Nd} (I : Im h B s os L) (e : Ext S h h') (hs : ∀ o ∈ os, ∀ b off, o.2.1.a = some (b, off) → ¬ S b) : Im h' B s os L :=
  ⟨I.len, fun k o n ho hn => let ⟨h1, h2, h3⟩ := I.at_ k o n ho hn; ⟨h1, h2.ext e fun ⟨b, off, hb, hx⟩ => hs o (List.mem_of_getElem? ho) b off hb hx, h3⟩, fun o ho b off hb => ⟨(I.ge o ho b off hb).1, Nat.lt_of_lt_of_le (I.ge o ho b off hb).2 e.size⟩, I.dj, I.sd⟩
structure ImgR (h0 h : Heap) (s : Slc) (L : List Nd) : Prop where
  ex : ∃ os, Own 4 nF h s os ∧ Im h h0.size s os L
  ge : ∀ b off, s.a = some (b, off) → h0.size ≤ b
  ext : Ext0 h0 h

theorem c12 {h : Heap} {lab : Labs} {f D : Nat} {σ : Dk} (X : DW h lab f D σ) {n : Nat} (G : FF σ n) (hn : n ≤ 4398046511104) {R : Slc → Heap → Prop}
    (k : ∀ s h', ImgR h h' s (imageL σ) → R s h') : Call Go.Proofs.Tryz.prog 12 [.lf (.ptr (some (f, 0)))] h [.one .slc] R := by
  refine ok12 (New.mk fun b0 h1 hb0 hs1 e1 k1 => NewM.mk fun b2 h3 hb2 hs3 e3 k3 => New.mk fun b4 h5 hb4 hs5 e5 k5 => StC.one k5 (by simp) fun h6 hs6 k6 e6 => ?_)
  have e06 : Ext0 h h6 := ((e1.trans e3).trans e5).tmp e6 (by omega)
  have X6 := X.ext0 e06
  have nl : ∀ i, h.size ≤ i → lab i = none := fun i hi => X.R.free hi
  have k6' : Blk h6 b4 96 [.map (some b2)] := by simpa using k6
  have k0 : Blk h6 b0 29 [.slc ⟨none, 0, 0⟩] := ((k1.ext e3).ext e5).ext e6 (by omega)
  have M6 : FirstM h6 b2 [] (firstOf (walkL σ)) := ⟨[], fun x => Iff.rfl, ((MapR.new k3).ext e5).ext e6 (by omega)⟩
  have wl := walkL_len X.W
  let W := walkL σ
  let GG : Slc → List NdS → Nat → Prop := fun s os i => i = b0 ∨ i = b2 ∨ i = b4 ∨ (∃ off, s.a = some (i, off)) ∨ ∃ o ∈ os, ∃ off, o.2.1.a = some (i, off)
  refine c45 X6 (J := fun pre hh Gs => ∃ s os, Ext (fun i => i = b0 ∨ i = b2) h6 hh ∧ Blk hh b0 29 [.slc s] ∧ FirstM hh b2 (pre.map (·.2)) (firstOf W) ∧ Blk hh b4 96 [.map (some b2)] ∧ Own 4 nF hh s os ∧ Im hh h6.size s os (pre.map (ndOf σ W)) ∧ (∀ b off, s.a = some (b, off) → h6.size ≤ b) ∧ Gs = GG s os)
    (G0 := fun i => i = b0 ∨ i = b2 ∨ i = b4) ?_ ?_ ?_ ?_ ?_ ?_
  · have z6 : h6.size = h.size + 3 := by omega
    rintro i (rfl | rfl | rfl)
    · exact ⟨by omega, by rw [nl _ (by omega)]; simp, by rw [nl _ (by omega)]; simp, by rw [nl _ (by omega)]; simp, by rw [nl _ (by omega)]; simp⟩
    · exact ⟨by omega, by rw [nl _ (by omega)]; simp, by rw [nl _ (by omega)]; simp, by rw [nl _ (by omega)]; simp, by rw [nl _ (by omega)]; simp⟩
    · exact ⟨by omega, by rw [nl _ (by omega)]; simp, by rw [nl _ (by omega)]; simp, by rw [nl _ (by omega)]; simp, by rw [nl _ (by omega)]; simp⟩
  · refine ⟨⟨none, 0, 0⟩, [], Ext.refl _ _, k0, M6, k6', Own.nil _ _ _, ⟨rfl, fun k o n h => by simp at h, fun o h => by (cases h), fun k k' o o' b off off' h => by simp at h, fun o h => by (cases h)⟩, fun b off x => (by cases x), ?_⟩
    funext i
    apply propext
    constructor
    · rintro (h | h | h)
      · exact .inl h
      · exact .inr (.inl h)
      · exact .inr (.inr (.inl h))
    · rintro (h | h | h | ⟨_, h⟩ | ⟨o, ho, _⟩)
      · exact .inl h
      · exact .inr (.inl h)
      · exact .inr (.inr h)
      · cases h
      · cases ho
  · rintro pre ha hb Gs S ⟨s, os, E, kb, M, kf, o, I, hge, rfl⟩ es hS
    refine ⟨s, os, E.trans' es fun i hi hs => by have := (hS i hs).2; omega, kb.ext es (fun x => (hS _ x).1 (.inl rfl)), M.ext es (fun x => (hS _ x).1 (.inr (.inl rfl))), kf.ext es (fun x => (hS _ x).1 (.inr (.inr (.inl rfl)))), o.ext es fun ⟨b, off, hb', hx⟩ => (hS _ hx).1 (.inr (.inr (.inr (.inl ⟨off, hb'⟩)))),
      I.ext es fun o ho b off hb' hx => (hS _ hx).1 (.inr (.inr (.inr (.inr ⟨o, ho, off, hb'⟩)))), hge, rfl⟩
  · rintro pre ha Gs ⟨s, os, E, _⟩ x c hc
    exact filePlain (X6.R.ext E fun b hb => by rcases hb with rfl | rfl <;> exact nl _ (by omega)) hc
  · rintro pre path x rest ha Gs hw ⟨c, hc⟩ ⟨s, os, E, kb, M, kf, o, I, hge, rfl⟩ _ K kk
    have Ra : DR ha lab f D σ := X6.R.ext E fun b hb => by rcases hb with rfl | rfl <;> exact nl _ (by omega)
    have za := E.size
    have hpre : pre.length < 65536 := by
      have := wl
      rw [hw, List.length_append, List.length_cons] at this; omega
    have hol : os.length = pre.length := by rw [I.len, List.length_map]
    have plain : ∀ {hh : Heap}, Ext (fun i => i = b0 ∨ i = b2) h6 hh → ∀ y ∈ pre.map (·.2) ++ [x], plainAt hh y := fun {hh} e y hy => by
      have Rh : DR hh lab f D σ := X6.R.ext e fun b hb => by rcases hb with rfl | rfl <;> exact nl _ (by omega)
      have : ∃ p, (p, y) ∈ walkL σ := by
        rcases List.mem_append.1 hy with hy | hy
        · obtain ⟨q, hq, rfl⟩ := List.mem_map.1 hy
          exact ⟨q.1, by rw [hw]; exact List.mem_append_left _ hq⟩
        · rw [List.mem_singleton.1 hy]; exact ⟨path, by rw [hw]; simp⟩
      obtain ⟨q, hq⟩ := this
      obtain ⟨c', hc'⟩ : ∃ c, σ.fl y = some c := by
        unfold walkL at hq
        obtain ⟨d', hd', hq⟩ := List.mem_flatMap.1 hq
        unfold walkD at hq
        split at hq
        · rename_i dd m hm
          obtain ⟨nm, hnm, he⟩ := List.mem_map.1 hq
          obtain ⟨z, hz⟩ := look_isSome (keysOf_mem.1 hnm)
          rw [hz] at he
          cases he
          obtain ⟨bb, hbb, hat⟩ := Option.bind_eq_some_iff.1 hm
          exact X.W.files _ _ (Dk.at_some.1 hat).2 (nm, _) (look_mem hz)
        · cases hq
      exact filePlain Rh hc'
    have hfo : firstOf W x = if x ∈ pre.map (·.2) then firstOf W x else path := by
      split
      · rfl
      · rename_i hx
        show firstOf (walkL σ) x = path
        rw [hw]; exact firstOf_new hx
    refine .inl ⟨46, [], [.lf (.ptr (some (b4, 0))), .lf (.ptr (some (b0, 0)))], _, _, rfl, Go.Proofs.Tryz.func46, rfl, ok46 ?_⟩
    refine ⟨fun hh => FirstM hh b2 (pre.map (·.2) ++ [x]) (firstOf W) ∧ Ext (fun i => i = b2) ha hh ∧ hh.size = ha.size, ?_, ?_⟩
    · refine Br.mk (fun hf => ⟨_, kf.cell rfl, ?_⟩) fun hf => ⟨M.mono fun y => ?_, Ext.refl _ _, rfl⟩
      · have hni : x ∉ pre.map (·.2) := by simpa using hf
        rw [if_neg hni] at hfo
        have := M.put (x := x) hni (plain E x (by simp)) (fun y hy => plain E y (List.mem_append_left _ hy)) (K := fun h2 => FirstM h2 b2 (pre.map (·.2) ++ [x]) (firstOf W) ∧ Ext (fun i => i = b2) ha h2 ∧ h2.size = ha.size) fun h2 hs2 M2 e2 => ⟨M2, e2, hs2⟩
        rw [hfo] at this
        exact this
      · have hi : x ∈ pre.map (·.2) := by simpa using hf
        rw [List.mem_append, List.mem_singleton]
        exact ⟨.inl, fun z => z.elim id fun e => by rw [e]; exact hi⟩
    rintro h3' ⟨M3, e3', z3⟩
    have E3 : Ext (fun i => i = b0 ∨ i = b2) h6 h3' := E.trans (e3'.mono fun i hi => .inr hi)
    have R3 : DR h3' lab f D σ := X6.R.ext E3 fun b hb => by rcases hb with rfl | rfl <;> exact nl _ (by omega)
    have kb3 := kb.ext e3' (by omega)
    have kf3 := kf.ext e3' (by omega)
    have o3 : Own 4 nF h3' s os := o.ext e3' fun ⟨b, off, hb', hx⟩ => by have := hge _ _ hb'; have : b = b2 := hx; omega
    have I3 : Im h3' h6.size s os (pre.map (ndOf σ W)) := I.ext e3' fun o' ho b off hb' hx => by have := (I.ge o' ho b off hb').1; have : b = b2 := hx; omega
    obtain ⟨sn, kn, yn⟩ := (R3.fls x c hc).1.now
    have hno := (G.Z x c hc).len
    have L3 := M3.look (x := x) (by simp) (plain E3)
    refine ⟨s, kb3.cell rfl, NilC.mk rfl ⟨sn, kn, _, kf3.cell rfl, _, _, L3, ?_⟩⟩
    refine c47 yn.arr (by omega) fun s11 h12 o12 f12 => ?_
    have z12 := f12.ext.size
    have E12 := E3.then0 f12.ext
    refine ⟨(M3.ext f12.ext id).look (x := x) (by simp) (plain E12), (kf3.ext f12.ext).cell rfl, (kb3.ext f12.ext).cell rfl, ?_⟩
    refine c48 (R3.ext0 f12.ext) hc (by have := G.F.opn _ _ hc; omega) fun h14 e14 => ?_
    have E14 := E12.then0 e14
    have M14 := (M3.ext f12.ext id).ext e14 id
    have kb14 := (kb3.ext f12.ext).ext e14
    have kf14 := (kf3.ext f12.ext).ext e14
    have z14 := e14.size
    refine ⟨M14.look (x := x) (by simp) (plain E14), kf14.cell rfl, kb14.cell rfl, New.mk fun b15 h16 hb15 hs16 e16 k16 => ⟨(kb14.ext e16).cell rfl, ?_⟩⟩
    have e316 : Ext0 h3' h16 := (f12.ext.trans e14).trans e16
    refine AppC.grow nF_sized (by decide) rfl (o3.ext0 e316) ((Own.new nF_sized (l := [(path, s11, unsW c.opn, firstOf W x)]) k16).arr nF_sized) (by simp; omega) fun s17 h18 o18 g18 => ?_
    have sge : ∀ b off, s.a = some (b, off) → h6.size ≤ b ∧ b < h3'.size := fun b off hb' => ⟨hge _ _ hb', (o3.lt _ _ hb').1⟩
    have kb18 : Blk h18 b0 29 [.slc s] := (kb14.ext e16).ext g18.ext fun ⟨off, x⟩ => by have := (sge _ _ x).1; omega
    have z18 := g18.ext.size
    refine StC.one kb18 (by simp) fun h19 hs19 k19 e19 => ?_
    have s17ge : ∀ b off, s17.a = some (b, off) → h6.size ≤ b ∧ (b < h3'.size → s.a = s17.a) ∧ (b < h3'.size ∨ h16.size ≤ b) := fun b off hb' => by
      rcases g18.new with y | ⟨b', y, w⟩
      · rw [y] at hb'; exact ⟨(sge _ _ hb').1, fun _ => y.symm, .inl (sge _ _ hb').2⟩
      · rw [y] at hb'; cases hb'; exact ⟨by omega, fun z => by omega, .inr w⟩
    have s11g : ∀ b off, s11.a = some (b, off) → h3'.size ≤ b ∧ b < h12.size := fun b off hb' => ⟨f12.new _ _ hb', (o12.lt _ _ hb').1⟩
    have E19 : Ext (fun i => i = b0 ∨ i = b2) h6 h19 := (((E14.then0 e16).trans' g18.ext fun i hi ⟨off, y⟩ => by have := (sge _ _ y).1; omega)).trans (e19.mono fun i hi => .inl hi)
    have o11 : Own 1 dF h19 s11 c.now := (((o12.ext0 e14).ext0 e16).ext g18.ext fun ⟨b, off, hb', off', y⟩ => by have := s11g _ _ hb'; have := sge _ _ y; omega).ext e19 fun ⟨b, off, hb', y⟩ => by have := s11g _ _ hb'; have : b = b0 := y; omega
    have I19 : Im h19 h6.size s os (pre.map (ndOf σ W)) := ((I3.ext e316 fun _ _ _ _ _ => id).ext g18.ext fun o' ho b off hb' ⟨off', y⟩ => I.sd o' ho b off' off y hb').ext e19 fun o' ho b off hb' hx => by have := (I.ge o' ho b off hb').1; have : b = b0 := hx; omega
    have M19 : FirstM h19 b2 ((pre ++ [(path, x)]).map (·.2)) (firstOf W) := by
      rw [List.map_append, List.map_singleton]
      exact ((M14.ext e16 id).ext g18.ext fun ⟨off, y⟩ => by have := (sge _ _ y).1; omega).ext e19 (by omega)
    have Inew : Im h19 h6.size s17 (os ++ [(path, s11, unsW c.opn, firstOf W x)]) ((pre ++ [(path, x)]).map (ndOf σ W)) := by
      have hnd : ndOf σ W (path, x) = (path, c.now, unsW c.opn, firstOf W x) := by unfold ndOf; rw [hc]; rfl
      have oslt : ∀ o' ∈ os, ∀ b off, o'.2.1.a = some (b, off) → b < ha.size := fun o' ho b off hb' => (I.ge o' ho b off hb').2
      have get : ∀ (j : Nat) o', (os ++ [((path, s11, unsW c.opn, firstOf W x) : NdS)])[j]? = some o' → (j < os.length ∧ os[j]? = some o') ∨ (j = os.length ∧ o' = (path, s11, unsW c.opn, firstOf W x)) := fun j o' hj => by
        by_cases hjl : j < os.length
        · rw [List.getElem?_append_left hjl] at hj; exact .inl ⟨hjl, hj⟩
        · rw [List.getElem?_append_right (by omega)] at hj
          cases hz : j - os.length with
          | zero => rw [hz] at hj; exact .inr ⟨by omega, by simpa using hj.symm⟩
          | succ z => rw [hz] at hj; simp at hj
      refine ⟨by rw [List.length_append, I.len]; simp, fun j o' nn hj hn' => ?_, fun o' ho b off hb' => ?_, fun j j' o' o'' b off off' hj hj' h1 h2 => ?_, fun o' ho b off off' h1 h2 => ?_⟩
      · rw [List.map_append, List.map_singleton, hnd] at hn'
        rcases get j o' hj with ⟨hjl, hj⟩ | ⟨rfl, rfl⟩
        · rw [List.getElem?_append_left (by rw [← I.len]; exact hjl)] at hn'
          exact I19.at_ j o' nn hj hn'
        · rw [List.getElem?_append_right (by rw [I.len]; omega), I.len, Nat.sub_self] at hn'
          have : nn = (path, c.now, unsW c.opn, firstOf W x) := by simpa using hn'.symm
          subst this
          exact ⟨rfl, o11, rfl⟩
      · rcases List.mem_append.1 ho with ho | ho
        · exact I19.ge o' ho b off hb'
        · rw [List.mem_singleton.1 ho] at hb'
          have := s11g _ _ hb'
          exact ⟨by omega, by omega⟩
      · rcases get j o' hj with ⟨hjl, hj⟩ | ⟨rfl, rfl⟩
        · rcases get j' o'' hj' with ⟨hjl', hj'⟩ | ⟨rfl, rfl⟩
          · exact I.dj j j' o' o'' b off off' hj hj' h1 h2
          · have := oslt o' (List.mem_of_getElem? hj) _ _ h1; have := s11g _ _ h2; omega
        · rcases get j' o'' hj' with ⟨hjl', hj'⟩ | ⟨rfl, rfl⟩
          · have := oslt o'' (List.mem_of_getElem? hj') _ _ h2; have := s11g _ _ h1; omega
          · rfl
      · rcases List.mem_append.1 ho with ho | ho
        · obtain ⟨g1, g2, g3⟩ := s17ge _ _ h1
          have := oslt o' ho _ _ h2
          exact I.sd o' ho b off off' (by rw [g2 (by omega)]; exact h1) h2
        · rw [List.mem_singleton.1 ho] at h2
          have := s11g _ _ h2
          obtain ⟨g1, g2, g3⟩ := s17ge _ _ h1
          rcases g3 with g3 | g3 <;> omega
    refine kk h19 _ ⟨s17, _, E19, by simpa using k19, M19, ((kf14.ext e16).ext g18.ext fun ⟨off, y⟩ => by have := (sge _ _ y).1; omega).ext e19 (by omega), o18.ext e19 fun ⟨b, off, hb', y⟩ => by have := (s17ge _ _ hb').1; have : b = b0 := y; omega, Inew, fun b off hb' => (s17ge _ _ hb').1, rfl⟩ ?_ fun i hi => ?_
    · refine ((e3'.mono fun i hi => .inr (.inl hi)).trans' (((f12.ext.trans e14).trans e16).of0.trans g18.ext) fun i hi ⟨off, y⟩ => .inr (.inr (.inr (.inl ⟨off, y⟩)))).trans (e19.mono fun i hi => .inl hi)
    · have hz : h16.size ≤ h19.size := by omega
      rcases hi with hi | hi | hi | ⟨off, hi⟩ | ⟨o', ho, off, hi⟩
      · exact ⟨.inl (.inl hi), by omega⟩
      · exact ⟨.inl (.inr (.inl hi)), by omega⟩
      · exact ⟨.inl (.inr (.inr (.inl hi))), by omega⟩
      · refine ⟨?_, by have := (o18.lt _ _ hi).1; omega⟩
        obtain ⟨g1, g2, g3⟩ := s17ge _ _ hi
        rcases g3 with g3 | g3
        · exact .inl (.inr (.inr (.inr (.inl ⟨off, by rw [g2 g3]; exact hi⟩))))
        · exact .inr (by omega)
      · rcases List.mem_append.1 ho with ho | ho
        · exact ⟨.inl (.inr (.inr (.inr (.inr ⟨o', ho, off, hi⟩)))), (I19.ge o' ho _ _ hi).2⟩
        · rw [List.mem_singleton.1 ho] at hi
          have := s11g _ _ hi
          exact ⟨.inr (by omega), by omega⟩
  · rintro h7 Gs ⟨s, os, E, kb, M, kf, o, I, hge, rfl⟩ _
    have z6 : h.size ≤ h6.size := e06.size
    refine ⟨s, kb.cell rfl, k s h7 ⟨⟨os, o, I.len, I.at_, fun o' ho b off hb' => ⟨by have := (I.ge o' ho b off hb').1; omega, (I.ge o' ho b off hb').2⟩, I.dj, I.sd⟩, fun b off hb' => by have := hge _ _ hb'; omega, e06.trans' E fun i hi hx => by rcases hx with hx | hx <;> omega⟩⟩

end Go.V.YtdeihieblljfcaaGreat
