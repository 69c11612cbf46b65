/- This text proves a part of the laws of seat Ytclffphegfhocaa, under no condition: B4q. -/
import Derived.Test.YtclffphegfhocaaFP
set_option linter.unusedVariables false
set_option linter.unusedSimpArgs false
/-! A batch by the program and by the document: add. -/
namespace Go.V.Ytclffphegfhocaa
open Go Go.V

/-- A batch by the program and by the document; N: blocks that are neither's. -/
structure Pr (h0 h : Heap) (N : Nat → Prop) (gp gd : Nat) (Fp Fd : Nat → Prop) (x : Bt) (l : List Rec) (m : List Int) : Prop where
  bp : Bat h gp Fp x
  bd : Doc h gd Fd l m
  dis : ∀ b, Fp b → ¬ Fd b
  np : ∀ b, Fp b → h0.size ≤ b
  nd : ∀ b, Fd b → h0.size ≤ b
  ext : Ext0 h0 h
  av : ∀ b, N b → b < h.size ∧ ¬ Fp b ∧ ¬ Fd b

/-- Blocks that stand. -/
def Kp (N : Nat → Prop) (h h' : Heap) : Prop := ∀ b, N b → h'[b]? = h[b]?
theorem Kp.refl (N : Nat → Prop) (h : Heap) : Kp N h h := fun _ _ => rfl
theorem Kp.trans {N : Nat → Prop} {h h' h'' : Heap} (a : Kp N h h') (b : Kp N h' h'') : Kp N h h'' := fun i hi => (b i hi).trans (a i hi)
theorem Kp.mono {N N' : Nat → Prop} {h h' : Heap} (a : Kp N' h h') (s : ∀ b, N b → N' b) : Kp N h h' := fun i hi => a i (s i hi)
theorem Kp.one {N : Nat → Prop} {h h' : Heap} (a : Kp N h h') {b : Nat} (hb : N b) : keepB h h' [b] := ⟨a b hb, trivial⟩
theorem Kp.two {N : Nat → Prop} {h h' : Heap} (a : Kp N h h') {b c : Nat} (hb : N b) (hc : N c) : keepB h h' [b, c] := ⟨a b hb, a c hc, trivial⟩

section
variable {h0 h : Heap} {N : Nat → Prop} {gp gd : Nat} {Fp Fd : Nat → Prop} {x : Bt} {l : List Rec} {m : List Int}

theorem Pr.ext0 (P : Pr h0 h N gp gd Fp Fd x l m) {h' : Heap} (e : Ext0 h h') : Pr h0 h' N gp gd Fp Fd x l m :=
  ⟨P.bp.ext0 e, P.bd.ext0 e, P.dis, P.np, P.nd, P.ext.trans e, fun b hb => ⟨Nat.lt_of_lt_of_le (P.av b hb).1 e.size, (P.av b hb).2⟩⟩
theorem Pr.kp0 (P : Pr h0 h N gp gd Fp Fd x l m) {h' : Heap} (e : Ext0 h h') : Kp N h h' := fun b hb => e.same b (P.av b hb).1 id
theorem Pr.stepP (P : Pr h0 h N gp gd Fp Fd x l m) {h' : Heap} {Fp' : Nat → Prop} {x' : Bt} (B : Bat h' gp Fp' x') (e : Ext Fp h h') (s : Sub Fp Fp' h) : Pr h0 h' N gp gd Fp' Fd x' l m :=
  ⟨B, P.bd.ext e fun b hd hp => P.dis b hp hd, fun b hb hd => (s b hb).elim (fun z => P.dis b z hd) fun z => by have := P.bd.lt b hd; omega,
    fun b hb => (s b hb).elim (P.np b) fun z => Nat.le_trans P.ext.size z, P.nd, P.ext.trans' e fun i hi z => by have := P.np i z; omega,
    fun b hb => ⟨Nat.lt_of_lt_of_le (P.av b hb).1 e.size, fun z => (s b z).elim (P.av b hb).2.1 fun w => by have := (P.av b hb).1; omega, (P.av b hb).2.2⟩⟩
theorem Pr.kpP (P : Pr h0 h N gp gd Fp Fd x l m) {h' : Heap} (e : Ext Fp h h') : Kp N h h' := fun b hb => e.same b (P.av b hb).1 (P.av b hb).2.1
theorem Pr.stepD (P : Pr h0 h N gp gd Fp Fd x l m) {h' : Heap} {Fd' : Nat → Prop} {l' : List Rec} {m' : List Int} (B : Doc h' gd Fd' l' m') (e : Ext (fun i => i = gd) h h') (s : Sub Fd Fd' h) : Pr h0 h' N gp gd Fp Fd' x l' m' :=
  ⟨P.bp.ext e fun b hp z => P.dis b hp (by rw [show b = gd from z]; exact P.bd.g), B, fun b hb hd => (s b hd).elim (fun z => P.dis b hb z) fun z => by have := P.bp.lt b hb; omega,
    P.np, fun b hb => (s b hb).elim (P.nd b) fun z => Nat.le_trans P.ext.size z, P.ext.trans' e fun i hi z => by have := P.nd gd P.bd.g; have z : i = gd := z; omega,
    fun b hb => ⟨Nat.lt_of_lt_of_le (P.av b hb).1 e.size, (P.av b hb).2.1, fun z => (s b z).elim (P.av b hb).2.2 fun w => by have := (P.av b hb).1; omega⟩⟩
theorem Pr.kpD (P : Pr h0 h N gp gd Fp Fd x l m) {h' : Heap} (e : Ext (fun i => i = gd) h h') : Kp N h h' :=
  fun b hb => e.same b (P.av b hb).1 fun z => (P.av b hb).2.2 (by rw [show b = gd from z]; exact P.bd.g)
theorem Pr.more (P : Pr h0 h N gp gd Fp Fd x l m) {h' : Heap} (e : Ext0 h h') {b : Nat} (hb : h.size ≤ b) (hb' : b < h'.size) : Pr h0 h' (fun i => N i ∨ i = b) gp gd Fp Fd x l m :=
  ⟨P.bp.ext0 e, P.bd.ext0 e, P.dis, P.np, P.nd, P.ext.trans e, fun i hi => hi.elim (fun z => ⟨Nat.lt_of_lt_of_le (P.av i z).1 e.size, (P.av i z).2⟩) fun z => by
    subst z
    exact ⟨hb', fun z => by have := P.bp.lt _ z; omega, fun z => by have := P.bd.lt _ z; omega⟩⟩
theorem Pr.less {N' : Nat → Prop} (P : Pr h0 h N gp gd Fp Fd x l m) (s : ∀ b, N' b → N b) : Pr h0 h N' gp gd Fp Fd x l m := { P with av := fun b hb => P.av b (s b hb) }

/-- add. -/
theorem c46 (P : Pr h0 h N gp gd Fp Fd x x.recs x.marks) (ok : x.Ok) {r : Rec} (hr : RecB r) {kind : Int} {how : Bool} {sl : Slc} {R : Bool → Heap → Prop}
    (k : ∀ h' Fp' Fd' x', Pr h0 h' N gp gd Fp' Fd' x' x'.recs x'.marks → x'.Ok → x'.marks = x.marks → Kp N h h' → R true h') :
    Call Go.Proofs.Try.prog 46 [.agg [.ptr (some (gp, 0)), .ptr (some (gd, 0))], .agg [.int .i64 kind, .bool how, .int .u32 r.fam, .int .i64 r.kind, .str r.key, .str r.val, .slc sl]] h [.one .bool] R := by
  obtain ⟨d1, d2, d3⟩ := doc_all ok [r]
  have ok' := allB_ok ok (l := [r]) fun y hy => by rw [List.mem_singleton] at hy; subst hy; exact hr.ok
  refine ok46 (New.mk fun b0 h1 hb0 hs1 e1 _ => New.mk fun b2 h3 hb2 hs3 e3 _ => New.mk fun b4 h5 hb4 hs5 e5 k5 => ?_)
  have P1 := P.more e1 (b := b0) (by omega) (by omega)
  have P3 := P1.more e3 (b := b2) (by omega) (by omega)
  have P5 := P3.ext0 e5
  have K5 : Kp N h h5 := P.kp0 ((e1.trans e3).trans e5)
  have o5 : Own 4 Rec.lfs h5 ⟨some (b4, 0), 1, 1⟩ [r] := Own.new (l := [r]) lfs_sized (by simpa [Rec.lfs] using k5)
  refine c47 P5.bd ok.good ok.len (o5.arr lfs_sized) (fun y hy => by rw [List.mem_singleton] at hy; subst hy; exact hr) (by simp) fun h7 Fd7 D7 e7 s7 => ⟨(P5.kpD e7).two (.inl (.inr rfl)) (.inr rfl), ?_⟩
  have P7 := P5.stepD D7 e7 s7
  have K7 := K5.trans ((P5.kpD e7).mono fun b hb => .inl (.inl hb))
  have fin : ∀ {h12 : Heap} {Fp' : Nat → Prop}, Bat h12 gp Fp' (allB x [r]).2 → Ext Fp h7 h12 → Sub Fp Fp' h7 → keepB h7 h12 [b0, b2] ∧ R ((allB x [r]).1 == (docA x.recs [r]).1) h12 := by
    intro h12 Fp' B e s
    refine ⟨(P7.kpP e).two (.inl (.inr rfl)) (.inr rfl), ?_⟩
    rw [d1]
    have P12 := P7.stepP B e s
    rw [d2, ← d3] at P12
    have := k h12 Fp' Fd7 _ (P12.less fun b hb => .inl (.inl hb)) ok' d3 (K7.trans ((P7.kpP e).mono fun b hb => .inl (.inl hb)))
    simpa using this
  refine ⟨fun c hh => c = (how && (r.kind == 1)) ∧ h7 = hh, Br.mk (fun t => ⟨by rw [t]; rfl, rfl⟩) fun t => ⟨by rw [t]; rfl, rfl⟩, ?_⟩
  rintro _ _ ⟨rfl, rfl⟩
  refine Br.mk (fun t => ?_) fun t1 => ?_
  · have hk : r.kind = 1 := by simp at t; exact t.2
    have he : (⟨r.fam, 1, r.key, r.val⟩ : Rec) = r := by obtain ⟨a, b, c, d⟩ := r; have hk : b = 1 := hk; subst hk; rfl
    refine c29 P7.bp ok hr.ok.f0 hr.ok.f1 fun h12 Fp' B e s => ?_
    rw [he] at B ⊢
    exact fin B e s
  refine ⟨fun c hh => c = (how && (r.kind == 0)) ∧ h7 = hh, Br.mk (fun t => ⟨by rw [t]; rfl, rfl⟩) fun t => ⟨by rw [t]; rfl, rfl⟩, ?_⟩
  rintro _ _ ⟨rfl, rfl⟩
  refine Br.mk (fun t => ?_) fun t2 => ?_
  · have hk : r.kind = 0 := by simp at t; exact t.2
    refine c64 P7.bp ok hr.ok.f0 hr.ok.f1 fun h12 Fp' B e s => ?_
    rw [all_del hk] at B ⊢
    exact fin B e s
  refine ⟨fun c hh => c = (how && (r.kind == 2)) ∧ h7 = hh, Br.mk (fun t => ⟨by rw [t]; rfl, rfl⟩) fun t => ⟨by rw [t]; rfl, rfl⟩, ?_⟩
  rintro _ _ ⟨rfl, rfl⟩
  refine Br.mk (fun t => ?_) fun t3 => ?_
  · have hk : r.kind = 2 := by simp at t; exact t.2
    have he : (⟨r.fam, 2, r.key, r.val⟩ : Rec) = r := by obtain ⟨a, b, c, d⟩ := r; have hk : b = 2 := hk; subst hk; rfl
    refine c65 P7.bp ok hr.ok.f0 hr.ok.f1 fun h12 Fp' B e s => ?_
    rw [he] at B ⊢
    exact fin B e s
  · exact c8 (r := r) P7.bp ok hr.ok fun h12 Fp' B e s => fin B e s
end

end Go.V.Ytclffphegfhocaa
