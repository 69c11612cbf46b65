/- This text proves a part of the laws of seat Ytclffphegfhocaa, under no condition: B4r. -/
import Derived.Test.YtclffphegfhocaaFQ
import Derived.Test.YtclffphegfhocaaEG2
set_option linter.unusedVariables false
set_option linter.unusedSimpArgs false
/-! A batch by the program and by the document: does. -/
namespace Go.V.Ytclffphegfhocaa
open Go Go.V

theorem one_at {L : List Rec} {q : Nat} (hq : q < L.length) : (L.take (q + 1)).drop q = [L[q]] := by
  rw [take_succ' hq, List.drop_append_of_le_length (by simp; omega), List.drop_of_length_le (by simp; omega)]
  rfl

theorem mod_i {b : Nat} {g : Nat} : (fun i => i = g) b ↔ b = g := Iff.rfl

section
variable {h0 h : Heap} {N : Nat → Prop} {gp gd : Nat} {Fp Fd : Nat → Prop} {x : Bt}

theorem c24 (P : Pr h0 h N gp gd Fp Fd x x.recs x.marks) (ok : x.Ok) (hm : x.marks.length ≤ 2199023255552) {r : Rec} (hr : RecB r) {kind : Int} {how : Bool} {sl : Slc} {L : List Rec} (aL : Arr 4 Rec.lfs h sl L) (hcap : sl.len ≤ sl.cap) (hL : ∀ r ∈ L, RecB r) (hLn : L.length ≤ 9223372036854775807) {R : Bool → Heap → Prop}
    (k : ∀ h' Fp' Fd' x', Pr h0 h' N gp gd Fp' Fd' x' x'.recs x'.marks → x'.Ok → x'.marks.length ≤ x.marks.length + 1 → Kp N h h' → R true h') :
    Call Go.Proofs.Try.prog 24 [.agg [.ptr (some (gp, 0)), .ptr (some (gd, 0))], .agg [.int .i64 kind, .bool how, .int .u32 r.fam, .int .i64 r.kind, .str r.key, .str r.val, .slc sl]] h [.one .bool] R := by
  refine ok24 (New.mk fun b0 h1 hb0 hs1 e1 _ => New.mk fun b2 h3 hb2 hs3 e3 _ => ?_)
  have P1 := P.more e1 (b := b0) (by omega) (by omega)
  obtain ⟨N2, P3, n0, n2, nN⟩ : ∃ N2 : Nat → Prop, Pr h0 h3 N2 gp gd Fp Fd x x.recs x.marks ∧ N2 b0 ∧ N2 b2 ∧ ∀ b, N b → N2 b :=
    ⟨_, P1.more e3 (b := b2) (by omega) (by omega), .inl (.inr rfl), .inr rfl, fun b hb => .inl (.inl hb)⟩
  have K3 : Kp N h h3 := P.kp0 (e1.trans e3)
  have aL3 := aL.ext0 (e1.trans e3)
  have K2 : ∀ {h' : Heap}, Kp N2 h3 h' → Kp N h h' := fun z => K3.trans (z.mono nN)
  refine Br.eq (fun _ => ?_) fun _ => ?_
  · exact c46 P3 ok hr fun h' Fp' Fd' x' P' ok' hm' K' => ⟨K'.two n0 n2, k h' Fp' Fd' x' (P'.less nN) ok' (by rw [hm']; omega) (K2 K')⟩
  refine Br.eq (fun _ => ?_) fun _ => ?_
  · refine New.mk fun b6 h7 hb6 hs7 e7 k7 => New.mk fun b8 h9 hb8 hs9 e9 k9 => ?_
    have hlen := aL.len
    have Q0 : Pr h3 h9 N2 b6 b8 (fun i => i = b6) (fun i => i = b8) zeroB zeroB.recs zeroB.marks :=
      ⟨(Bat.new k7).ext0 e9, Doc.new k9, fun b z w => by have z : b = b6 := z; have w : b = b8 := w; omega, fun b z => by have z : b = b6 := z; omega, fun b z => by have z : b = b8 := z; omega, e7.trans e9,
        fun b hb => by have := (P3.av b hb).1; exact ⟨by omega, fun z => by have z : b = b6 := z; omega, fun z => by have z : b = b8 := z; omega⟩⟩
    refine ⟨fun i hh d => ∃ (q : Nat) (Fo Fq : Nat → Prop) (y : Bt), i = q ∧ q ≤ L.length ∧ Pr h3 hh N2 b6 b8 Fo Fq y y.recs y.marks ∧ y.Ok ∧ d = L.length - q, ⟨_, 0, _, _, zeroB, rfl, by omega, Q0, zeroB_ok, rfl⟩, ?_⟩
    rintro _ h13 _ ⟨q, Fo, Fq, y, rfl, hq, Q, yok, rfl⟩
    rw [hlen]
    have a13 := aL3.ext0 Q.ext
    refine Br.dec (fun c => ?_) fun c => ?_
    · have hql : q < L.length := by omega
      have ew : IntKind.wrap .i64 ((q : Int) + 1) = ((q + 1 : Nat) : Int) := by rw [wi64 (by omega) (by omega)]; omega
      rw [ew]
      have hmem := hL _ (List.getElem_mem hql)
      obtain ⟨d1, d2, d3⟩ := doc_all yok [L[q]]
      have yok' := allB_ok yok (l := [L[q]]) fun z hz => by rw [List.mem_singleton] at hz; subst hz; exact hmem.ok
      refine a13.ix rfl (List.getElem?_eq_getElem hql) fun b15 b16 hb => ⟨_, _, _, _, hb, by omega, by omega, by omega, by omega, c8 (r := L[q]) Q.bp yok hmem.ok fun h22 Fo' B e s => ⟨(Q.kpP e).two n0 n2, ?_⟩⟩
      have Q22 := Q.stepP B e s
      have a22 := (aL3.ext0 Q22.ext).sub (lo := q) (hi := q + 1) (m := sl.cap) (by omega) hql (by omega)
      rw [one_at hql] at a22
      refine c47 Q22.bd yok.good yok.len (s := Slc.sub sl 4 q (q + 1) sl.cap) a22 (fun z hz => by rw [List.mem_singleton] at hz; subst hz; exact hmem) (by simp) fun h24 Fq' D24 e24 s24 => ⟨(Q22.kpD e24).two n0 n2, Br.ne (fun ne => absurd d1.symm ne) fun _ => ?_⟩
      have Q24 := Q22.stepD D24 e24 s24
      rw [d2, ← d3] at Q24
      exact ⟨L.length - (q + 1), by omega, q + 1, Fo', Fq', _, rfl, by omega, Q24, yok', rfl⟩
    · have P13 := P3.ext0 Q.ext
      obtain ⟨s26, sm26, C13⟩ := Q.bd
      have hFp : ∀ b, Fp b → b < h3.size := P3.bp.lt
      have hFd : ∀ b, Fd b → b < h3.size := P3.bd.lt
      obtain ⟨d1, d2, d3⟩ := doc_all ok y.recs
      have ok' := allB_ok ok (l := y.recs) fun z hz => (yok.recs z hz).1
      refine ⟨s26, C13.blk.cell rfl, c12 P13.bp ok Q.bp yok fun h28 Fp' B28 e28 s28 => ⟨(P13.kpP e28).two n0 n2, ?_⟩⟩
      have C28 := C13.ext e28 fun b hq hp => by have := hFp b hp; have := Q.nd b hq; omega
      have o28 := Q.bp.ext e28 fun b hq hp => by have := hFp b hp; have := Q.np b hq; omega
      have P28 := P13.stepP B28 e28 s28
      refine ⟨C28.blk.cell rfl, c47 P28.bd ok.good ok.len (C28.recs.arr lfs_sized) yok.good.recB yok.len fun h30 Fd' D30 e30 s30 => ⟨(P28.kpD e30).two n0 n2, Br.eq (fun _ => ?_) fun ne => absurd d1.symm ne⟩⟩
      have hgd := hFd gd P3.bd.g
      have P30 := P28.stepD D30 e30 s30
      rw [d2, ← d3] at P30
      have C30 := C28.ext e30 fun b hq z => by have z : b = gd := z; have := Q.nd b hq; omega
      have o30 := o28.ext e30 fun b hq z => by have z : b = gd := z; have := Q.np b hq; omega
      refine ⟨s26, C30.blk.cell rfl, c9 o30 yok fun s32 h33 o33 f33 => ⟨(P30.kp0 f33.ext).two n0 n2, (C30.ext f33.ext fun _ _ z => z).blk.cell rfl, c13 (o33.arr lfs_sized) ((C30.recs.ext0 f33.ext).arr lfs_sized) (by have := yok.len; omega) ⟨(Kp.refl N2 _).two n0 n2, ?_⟩⟩⟩
      exact k h33 Fp' Fd' _ ((P30.ext0 f33.ext).less nN) ok' (by rw [d3]; omega) (K2 (((P3.kp0 Q.ext).trans (P13.kpP e28)).trans ((P28.kpD e30).trans (P30.kp0 f33.ext))))
  refine Br.eq (fun _ => ?_) fun _ => ?_
  · obtain ⟨s38, sm38, C3⟩ := P3.bd
    obtain ⟨d1, d2, d3⟩ := doc_all ok x.recs
    have ok' := allB_ok ok (l := x.recs) fun z hz => (ok.recs z hz).1
    refine NilC.mk rfl ⟨s38, C3.blk.cell rfl, c12 P3.bp ok P3.bp ok fun h40 Fp' B e s => ⟨(P3.kpP e).one n0, ?_⟩⟩
    have C40 := C3.ext e fun b hd hp => P3.dis b hp hd
    have P40 := P3.stepP B e s
    refine ⟨C40.blk.cell rfl, c47 P40.bd ok.good ok.len (C40.recs.arr lfs_sized) ok.good.recB ok.len fun h42 Fd' D42 e42 s42 => ⟨(P40.kpD e42).one n0, Br.eq (fun _ => ?_) fun ne => absurd d1.symm ne⟩⟩
    have P42 := P40.stepD D42 e42 s42
    rw [d2, ← d3] at P42
    refine ok12 (Br.t rfl ⟨(Kp.refl N2 _).one n0, ?_⟩)
    exact k h42 Fp' Fd' _ (P42.less nN) ok' (by rw [d3]; omega) (K2 ((P3.kpP e).trans (P40.kpD e42)))
  refine Br.eq (fun _ => ?_) fun _ => ?_
  · refine c48 P3.bp fun h45 B45 e45 => ?_
    have e45' : Ext Fp h3 h45 := e45.mono fun i z => by rw [show i = gp from z]; exact P3.bp.g
    have P45 := P3.stepP B45 e45' (Sub.refl _ _)
    obtain ⟨sl5, sm5, C45⟩ := P45.bd
    refine ⟨(P3.kpP e45').one n0, NilC.mk rfl (StC.one C45.blk (by simp) fun h48 hs48 k48 e48 => ⟨(P45.kpD e48).one n0, NilC.mk rfl (StC.one k48 (by simp) fun h51 hs51 k51 e51 => ?_)⟩)⟩
    have D51 : Doc h51 gd Fd [] [] := ⟨⟨none, 0, 0⟩, ⟨none, 0, 0⟩, k51, Own.nil _ _ _, Own.nil _ _ _, C45.gin, fun b hb => by have := C45.lt b hb; omega, fun b off z => (by cases z), fun b off z => (by cases z)⟩
    have P51 := P45.stepD D51 (e48.trans e51) (Sub.refl _ _)
    have K48 : Kp N2 h48 h51 := fun b hb => e51.same b (by have := (P45.av b hb).1; omega) fun z => (P45.av b hb).2.2 (by rw [show b = gd from z]; exact P45.bd.g)
    exact ⟨K48.one n0, k h51 Fp Fd zeroB (P51.less nN) zeroB_ok (by simp [zeroB]) (K2 ((P3.kpP e45').trans (P45.kpD (e48.trans e51))))⟩
  refine Br.eq (fun _ => ?_) fun _ => ?_
  · refine c15 P3.bp hm fun h52 Fp' B e s => ⟨(P3.kpP e).one n0, ?_⟩
    have P52 := P3.stepP B e s
    refine c49 P52.bd hm fun h53 Fd' D e53 s53 => ⟨(P52.kpD e53).one n0, ?_⟩
    exact k h53 Fp' Fd' _ ((P52.stepD D e53 s53).less nN) (saveB_ok ok) (by simp) (K2 ((P3.kpP e).trans (P52.kpD e53)))
  refine Br.eq (fun _ => ?_) fun _ => ?_
  · obtain ⟨d1, d2, d3⟩ := doc_back x
    refine c16 P3.bp ok hm fun h55 Fp' B e s => ⟨(P3.kpP e).one n0, ?_⟩
    have P55 := P3.stepP B e s
    refine c50 P55.bd hm ok.marks fun h57 D e57 => ⟨(P55.kpD e57).one n0, ?_⟩
    have P57 := P55.stepD D e57 (Sub.refl _ _)
    rw [d2, d3] at P57
    rw [d1]
    have := k h57 Fp' Fd _ (P57.less nN) (backB_ok ok) (by have := back_len x; omega) (K2 ((P3.kpP e).trans (P55.kpD e57)))
    simpa using this
  refine Br.eq (fun _ => ?_) fun _ => ?_
  · obtain ⟨d1, d2, d3⟩ := doc_pop x
    refine c31 P3.bp hm fun h55 B e => ⟨(P3.kpP e).one n0, ?_⟩
    have P55 := P3.stepP B e (Sub.refl _ _)
    refine c50 P55.bd hm ok.marks fun h57 D e57 => ⟨(P55.kpD e57).one n0, ?_⟩
    have P57 := P55.stepD D e57 (Sub.refl _ _)
    rw [d2, d3] at P57
    rw [d1]
    have := k h57 Fp Fd _ (P57.less nN) (popB_ok ok) (by have := pop_len x; omega) (K2 ((P3.kpP e).trans (P55.kpD e57)))
    simpa using this
  · exact k h3 Fp Fd x (P3.less nN) ok (by omega) K3
end

end Go.V.Ytclffphegfhocaa
