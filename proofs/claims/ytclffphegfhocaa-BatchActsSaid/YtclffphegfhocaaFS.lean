/- This text proves a part of the laws of seat Ytclffphegfhocaa, under no condition: B4s. -/
import Derived.Test.YtclffphegfhocaaFR
set_option linter.unusedVariables false
set_option linter.unusedSimpArgs false
/-! A batch by the program and by the document: tells; BatchActs. -/
namespace Go.V.Ytclffphegfhocaa
open Go Go.V

/-- What is read of an input's act. -/
structure ActV where
  kind : Int
  how : Bool
  r : Rec
  s : Slc
def ActV.lfs (a : ActV) : List Lf := [.int .i64 a.kind, .bool a.how, .int .u32 a.r.fam, .int .i64 a.r.kind, .str a.r.key, .str a.r.val, .slc a.s]
/-- An act is as an input's acts are: its records lie in memory. -/
structure ActOk (h : Heap) (a : ActV) : Prop where
  r : RecB a.r
  cap : a.s.len ≤ a.s.cap
  l : ∃ L, Arr 4 Rec.lfs h a.s L ∧ (∀ r ∈ L, RecB r) ∧ L.length ≤ 9223372036854775807

section
variable {h0 h : Heap} {N : Nat → Prop} {gp gd : Nat} {Fp Fd : Nat → Prop} {x : Bt}

theorem c25 (P : Pr h0 h N gp gd Fp Fd x x.recs x.marks) (ok : x.Ok) {R : Bool → Heap → Prop} (k : ∀ h', Ext0 h h' → R true h') :
    Call Go.Proofs.Try.prog 25 [.agg [.ptr (some (gp, 0)), .ptr (some (gd, 0))]] h [.one .bool] R := by
  have hl := ok.len
  obtain ⟨sl, sm, C⟩ := P.bd
  refine ok25 (New.mk fun b0 h1 hb0 hs1 e1 _ => ?_)
  have hrl := C.recs.len
  refine c9 (P.bp.ext0 e1) ok fun s2 h3 o3 f3 => ⟨f3.ext.keep (by omega), ?_⟩
  have E3 := e1.trans f3.ext
  have C3 := C.ext E3 fun _ _ z => z
  have s3 := f3.ext.size
  refine NilC.mk rfl ⟨sl, C3.blk.cell rfl, c51 (P.bp.ext0 E3) ok fun s7 h8 t o8 ha hm f8 => ⟨f8.ext.keep (by omega), ?_⟩⟩
  have E8 := E3.trans f8.ext
  have C8 := C.ext E8 fun _ _ z => z
  have s8 := f8.ext.size
  refine ⟨C8.blk.cell rfl, c52 (C8.recs.arr lfs_sized) hl fun s9 h10 t' o10 ha' hm' f10 htl => ⟨f10.ext.keep (by omega), ?_⟩⟩
  have htt : t' = t := asc_ext ha' ha fun y => by rw [hm, hm']
  subst htt
  have E10 := E8.trans f10.ext
  have C10 := C.ext E10 fun _ _ z => z
  have B10 := P.bp.ext0 E10
  have s10 := f10.ext.size
  have ol7 := o8.len
  have ol9 := o10.len
  have o3' := o3.ext0 (f8.ext.trans f10.ext)
  refine ⟨fun c hh => c = false ∧ Ext0 h10 hh, ?_, ?_⟩
  · refine NilC.mk rfl ⟨sl, C10.blk.cell rfl, c13 (o3'.arr lfs_sized) (C10.recs.arr lfs_sized) (by omega) ⟨(Kp.refl (fun i => i = b0) _).one rfl, Br.f rfl ?_⟩⟩
    refine NilC.mk rfl ⟨sl, C10.blk.cell rfl, c53 B10 ⟨(Kp.refl (fun i => i = b0) _).one rfl, C10.blk.cell rfl, Br.ne (fun ne => absurd (by rw [hrl]) ne) fun _ => ?_⟩⟩
    refine NilC.mk rfl ⟨sl, C10.blk.cell rfl, c10 B10 ok ⟨(Kp.refl (fun i => i = b0) _).one rfl, C10.blk.cell rfl, c36 (C10.recs.arr lfs_sized) ok.good.recB hl ok.good.bad fun h28 e28 => ⟨e28.keep (by omega), Br.ne (fun ne => absurd rfl ne) fun _ => ⟨?_, e28⟩⟩⟩⟩
    rw [ol7, ol9]; simp
  · rintro _ h30 ⟨rfl, e30⟩
    refine Br.f rfl ⟨fun i hh d => ∃ q : Nat, i = q ∧ q ≤ t'.length ∧ h30 = hh ∧ d = t'.length - q, ⟨_, 0, rfl, by omega, rfl, rfl⟩, ?_⟩
    rintro _ _ _ ⟨q, rfl, hq, rfl, rfl⟩
    rw [ol7]
    refine Br.dec (fun c => ?_) fun c => ?_
    · have hql : q < t'.length := by omega
      refine ((o8.ext0 (f10.ext.trans e30)).arr uF_sized).ix rfl (List.getElem?_eq_getElem hql) fun b36 b37 hb36 => ⟨_, hb36, ((o10.ext0 e30).arr uF_sized).ix rfl (List.getElem?_eq_getElem hql) fun b39 b40 hb39 => ⟨_, hb39, Br.ne (fun ne => absurd rfl ne) fun _ => ⟨t'.length - (q + 1), by omega, q + 1, by rw [wi64 (by omega) (by omega)]; omega, by omega, rfl, rfl⟩⟩⟩
    · refine ⟨fun i hh d => ∃ (q : Nat) (e : List Rec), i = q ∧ q ≤ x.recs.length ∧ e.length = x.recs.length ∧ Own 4 Rec.lfs hh s2 e ∧ Ext0 h hh ∧ d = x.recs.length - q, ⟨_, 0, x.recs, rfl, by omega, rfl, o3'.ext0 e30, E10.trans e30, rfl⟩, ?_⟩
      rintro _ h46 _ ⟨p, e, rfl, hp, hel, oe, E46, rfl⟩
      have oel := oe.len
      rw [oel, hel]
      refine Br.dec (fun c2 => ?_) fun c2 => k h46 E46
      refine IxC.set lfs_sized oe (k := p) (x := ⟨0, 0, ByteArray.mk #[115, 112, 111, 105, 108, 116], empty⟩) rfl (by omega) rfl fun h50 hs50 o50 e50 => ⟨x.recs.length - (p + 1), by omega, p + 1, _, by rw [wi64 (by omega) (by omega)]; omega, by omega, by simpa using hel, o50, E46.trans' e50 fun i hi ⟨off, z⟩ => ?_, rfl⟩
      have := f3.new _ _ z
      omega
end

theorem c7 {h : Heap} {s : Slc} {l : List ActV} (a : Arr 7 ActV.lfs h s l) (hok : ∀ y ∈ l, ActOk h y) (hl : l.length ≤ 2199023255551) {R : Bool → Heap → Prop} (k : ∀ h', Ext0 h h' → R true h') :
    Call Go.Proofs.Try.prog 7 [.lf (.slc s)] h [.one .bool] R := by
  have hlen := a.len
  refine ok7 (New.mk fun b0 h1 hb0 hs1 e1 k1 => New.mk fun b2 h3 hb2 hs3 e3 k3 => New.mk fun b4 h5 hb4 hs5 e5 _ => Set.mk fun h6 hs6 e6 _ => ?_)
  have P5 : Pr h h5 (fun i => i = b4) b0 b2 (fun i => i = b0) (fun i => i = b2) zeroB zeroB.recs zeroB.marks :=
    ⟨(Bat.new k1).ext0 (e3.trans e5), (Doc.new k3).ext0 e5, fun b z w => by have z : b = b0 := z; have w : b = b2 := w; omega, fun b z => by have z : b = b0 := z; omega, fun b z => by have z : b = b2 := z; omega, (e1.trans e3).trans e5,
      fun b hb => by have hb : b = b4 := hb; exact ⟨by omega, fun z => by have z : b = b0 := z; omega, fun z => by have z : b = b2 := z; omega⟩⟩
  have P6 : Pr h h6 (fun i => i = b4) b0 b2 (fun i => i = b0) (fun i => i = b2) zeroB zeroB.recs zeroB.marks :=
    ⟨P5.bp.ext e6 fun b z w => by have z : b = b0 := z; have w : b = b4 := w; omega, P5.bd.ext e6 fun b z w => by have z : b = b2 := z; have w : b = b4 := w; omega, P5.dis, P5.np, P5.nd, P5.ext.trans' e6 fun i hi z => by have z : i = b4 := z; omega, fun b hb => by have := P5.av b hb; exact ⟨by omega, this.2⟩⟩
  refine ⟨fun i hh d => ∃ (q : Nat) (Fp Fd : Nat → Prop) (x : Bt), i = q ∧ q ≤ l.length ∧ Pr h hh (fun i => i = b4) b0 b2 Fp Fd x x.recs x.marks ∧ x.Ok ∧ x.marks.length ≤ q ∧ d = l.length - q, ⟨_, 0, _, _, zeroB, rfl, by omega, P6, zeroB_ok, by simp [zeroB], rfl⟩, ?_⟩
  rintro _ h10 _ ⟨q, Fp, Fd, x, rfl, hq, P, ok, hm, rfl⟩
  rw [hlen]
  refine Br.dec (fun c => ?_) fun c => ?_
  · have hql : q < l.length := by omega
    obtain ⟨ar, acap, L, aL, hL, hLn⟩ := hok _ (List.getElem_mem hql)
    refine (a.ext0 P.ext).ix rfl (List.getElem?_eq_getElem hql) fun b12 b13 hb => ⟨_, _, _, _, _, _, _, hb, ?_⟩
    refine c24 P ok (by omega) ar (aL.ext0 P.ext) acap hL hLn fun h22 Fp' Fd' x' P' ok' hm' K' => ⟨K'.one rfl, Br.f rfl ⟨by decide, ?_⟩⟩
    have nx : ∀ {hh : Heap}, Ext0 h22 hh → ∃ b25, b25 < l.length - q ∧ ∃ (q' : Nat) (Fp Fd : Nat → Prop) (x : Bt), IntKind.wrap .i64 ((q : Int) + 1) = q' ∧ q' ≤ l.length ∧ Pr h hh (fun i => i = b4) b0 b2 Fp Fd x x.recs x.marks ∧ x.Ok ∧ x.marks.length ≤ q' ∧ b25 = l.length - q' :=
      fun e => ⟨l.length - (q + 1), by omega, q + 1, Fp', Fd', x', by rw [wi64 (by omega) (by omega)]; omega, by omega, P'.ext0 e, ok', by omega, rfl⟩
    refine Br.mk (fun _ => ?_) fun _ => nx (Ext.refl _ _)
    exact c25 P' ok' fun h24 e24 => ⟨(P'.kp0 e24).one rfl, Br.f rfl (nx e24)⟩
  · refine c25 P ok fun h28 e28 => ⟨(P.kp0 e28).one rfl, Br.t rfl ?_⟩
    have P28 := P.ext0 e28
    refine c25 P28 ok fun h30 e30 => ⟨(P28.kp0 e30).one rfl, Br.t rfl ?_⟩
    have P30 := P28.ext0 e30
    exact c14 fun h32 e32 => ⟨(P30.kp0 e32).one rfl, k h32 (P30.ext.trans e32)⟩

end Go.V.Ytclffphegfhocaa
