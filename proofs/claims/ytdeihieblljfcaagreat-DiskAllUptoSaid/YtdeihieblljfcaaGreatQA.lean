/- This text proves a part of the laws of seat YtdeihieblljfcaaGreat, under no condition: F3s F3t. -/
import Derived.Test.YtdeihieblljfcaaGreatPZ
import Derived.Test.YtdeihieblljfcaaGreatPK
set_option linter.unusedVariables false
set_option linter.unusedSimpArgs false
/-! Both disks side by side. -/
namespace Go.V.YtdeihieblljfcaaGreat
open Go Go.V

structure HW (h0 h : Heap) (lab : Labs) (M : Bl) (f D d p : Nat) (t : TypeId) (σ : Dk) (δ : Dc) (n : Nat) : Prop where
  X : DW h lab f D σ
  G : FF σ n
  q : 0 ≤ σ.quota ∧ σ.quota ≤ 268435456
  fr : Fr h0 lab h
  Y : DD h M d δ
  fm : σ.fail.many ≤ 9223372036854775807
  frd : h0.size ≤ d
  frM : ∀ i, M i → h0.size ≤ i
  ld : lab d = none
  lM : ∀ i, M i → lab i = none
  pb : Blk h p t [.ptr (some (f, 0)), .ptr (some (d, 0))]
  lp : lab p = none
  pd : p ≠ d
  pM : ¬ M p
  frp : h0.size ≤ p
  h00 : 0 < h0.size
structure PW (h0 h : Heap) (lab : Labs) (M : Bl) (f D d p : Nat) (t : TypeId) (σ : Dk) (δ : Dc) (N : Num) (n : Nat) : Prop where
  H : HW h0 h lab M f D d p t σ δ n
  rel : Rl N σ δ
  fn : δ.files.length ≤ n
structure BS (lab : Labs) (M : Bl) (h : Heap) (lab' : Labs) (M' : Bl) (h' : Heap) (d : Nat) : Prop where
  ext : Ext (fun b => (lab b ≠ none ∧ lab b ≠ some .dat) ∨ b = d) h h'
  lab : ∀ b, b < h.size → lab' b = lab b
  le : ∀ i, M i → M' i
  new : ∀ i, M' i → M i ∨ h.size ≤ i
theorem BS.refl (lab : Labs) (M : Bl) (h : Heap) (d : Nat) : BS lab M h lab M h d := ⟨Ext.refl _ _, fun _ _ => rfl, fun _ x => x, fun _ x => .inl x⟩
theorem BS.trans {l1 l2 l3 : Labs} {M1 M2 M3 : Bl} {h1 h2 h3 : Heap} {d : Nat} (a : BS l1 M1 h1 l2 M2 h2 d) (b : BS l2 M2 h2 l3 M3 h3 d) : BS l1 M1 h1 l3 M3 h3 d :=
  ⟨a.ext.trans' b.ext fun i hi hx => by rw [a.lab i hi] at hx; exact hx, fun i hi => (b.lab i (Nat.lt_of_lt_of_le hi a.ext.size)).trans (a.lab i hi), fun i x => b.le i (a.le i x), fun i x => (b.new i x).elim (a.new i) fun y => .inr (Nat.le_trans a.ext.size y)⟩
theorem BS.of0 {h h' : Heap} (lab : Labs) (M : Bl) (d : Nat) (e : Ext0 h h') : BS lab M h lab M h' d := ⟨e.of0, fun _ _ => rfl, fun _ x => x, fun _ x => .inl x⟩
theorem BS.ofP {lab lab' : Labs} {h h' : Heap} (M : Bl) (d : Nat) (s : Stp lab h lab' h') : BS lab M h lab' M h' d := ⟨s.ext'.mono fun i x => .inl x, s.lab, fun _ x => x, fun _ x => .inl x⟩
theorem BS.ofD {M M' : Bl} {h h' : Heap} {d : Nat} (lab : Labs) (s : DStp M h M' h' d) : BS lab M h lab M' h' d := ⟨s.ext.mono fun i x => .inr x, fun _ _ => rfl, s.le, s.new⟩
theorem BS.keep {l1 l2 : Labs} {M1 M2 : Bl} {h1 h2 : Heap} {d : Nat} (s : BS l1 M1 h1 l2 M2 h2 d) {b : Nat} (hb : b < h1.size) (hl : l1 b = none) (hd : b ≠ d) : keepB h1 h2 [b] := s.ext.keep hb fun x => x.elim (fun y => y.1 hl) hd

section
variable {h0 h h' : Heap} {lab lab' : Labs} {M M' : Bl} {f D d p : Nat} {t : TypeId} {σ σ' : Dk} {δ δ' : Dc} {N : Num} {n n' : Nat}
theorem HW.ext0 (H : HW h0 h lab M f D d p t σ δ n) (e : Ext0 h h') : HW h0 h' lab M f D d p t σ δ n :=
  ⟨H.X.ext0 e, H.G, H.q, H.fr.ext0 e, H.Y.ext0 e, H.fm, H.frd, H.frM, H.ld, H.lM, H.pb.ext e, H.lp, H.pd, H.pM, H.frp, H.h00⟩
theorem PW.ext0 (P : PW h0 h lab M f D d p t σ δ N n) (e : Ext0 h h') : PW h0 h' lab M f D d p t σ δ N n := ⟨P.H.ext0 e, P.rel, P.fn⟩
theorem PW.mono (P : PW h0 h lab M f D d p t σ δ N n) (hn : n ≤ n') : PW h0 h lab M f D d p t σ δ N n' :=
  ⟨⟨P.H.X, P.H.G.mono hn, P.H.q, P.H.fr, P.H.Y, P.H.fm, P.H.frd, P.H.frM, P.H.ld, P.H.lM, P.H.pb, P.H.lp, P.H.pd, P.H.pM, P.H.frp, P.H.h00⟩, P.rel, Nat.le_trans P.fn hn⟩
theorem HW.prog (H : HW h0 h lab M f D d p t σ δ n) (X' : DW h' lab' f D σ') (s : Stp lab h lab' h') (G' : FF σ' n') (hq : σ'.quota = σ.quota) (hm : σ'.fail.many ≤ 9223372036854775807) : HW h0 h' lab' M f D d p t σ' δ n' := by
  have hM : ∀ i, M i → i < h.size := H.Y.lt
  exact ⟨X', G', by rw [hq]; exact H.q, H.fr.go s, H.Y.ext s.ext (fun i hi hm => hi (H.lM i hm)) (fun x => x H.ld), hm, H.frd, H.frM, (s.lab d H.Y.ltd).trans H.ld, fun i hi => (s.lab i (hM i hi)).trans (H.lM i hi), H.pb.ext s.ext (fun x => x H.lp), (s.lab p H.pb.lt).trans H.lp, H.pd, H.pM, H.frp, H.h00⟩
theorem HW.doc (H : HW h0 h lab M f D d p t σ δ n) (Y' : DD h' M' d δ') (s : DStp M h M' h' d) : HW h0 h' lab M' f D d p t σ δ' n := by
  have hx : ∀ i, h.size ≤ i → lab i = none := fun i hi => H.X.R.free hi
  have h00 : h0.size ≤ h.size := H.fr.e.size
  refine ⟨⟨H.X.R.ext s.ext fun b hb => by rw [show b = d from hb]; exact H.ld, H.X.W, H.X.M.ext s.ext fun x => ?_, H.X.l0⟩, H.G, H.q, ⟨⟨Nat.le_trans h00 s.ext.size, fun i hi _ => (s.ext.same i (by omega) (fun x => by have : i = d := x; have := H.frd; omega)).trans (H.fr.e.same i hi id)⟩, H.fr.no⟩, Y', H.fm, H.frd, fun i hi => (s.new i hi).elim (H.frM i) fun y => by omega, H.ld, fun i hi => (s.new i hi).elim (H.lM i) (hx i), H.pb.ext s.ext H.pd, H.lp, H.pd, fun hp => (s.new p hp).elim H.pM fun y => by have := H.pb.lt; omega, H.frp, H.h00⟩
  have h1 := H.frd
  have h2 : (0 : Nat) = d := x
  have := H.h00
  omega

theorem PW.all (P : PW h0 h lab M f D d p t σ δ N n) (hn : n ≤ 2199023255552) : FilesAll δ := fun a ws m q ha hm hq => by
  obtain ⟨b, dd, h1, h2, hw⟩ := P.rel.di a ws ha
  obtain ⟨k, hk⟩ := List.mem_iff_getElem?.1 hm
  obtain ⟨r, hr⟩ : ∃ r, (dd.was ++ [dd.now])[k]? = some r := ⟨_, List.getElem?_eq_getElem (by rw [hw.1]; exact ltOf hk)⟩
  obtain ⟨_, _, _, h3⟩ := (hw.2 k r m hr hk).ex
  obtain ⟨x, hx, _⟩ := h3 q.1 q.2 hq
  obtain ⟨c, h4, h5⟩ := P.rel.fi _ x hx
  have ok := P.H.G.Z x c h4
  have few := P.H.G.F.opn x c h4
  exact ⟨_, h5, ok.ch, by have := ok.len; rw [ok.now] at this; exact this, by simp only; omega⟩
theorem PW.okD (P : PW h0 h lab M f D d p t σ δ N n) (hn : n ≤ 2199023255551) : OkD δ (n + 1) := by
  have W := P.H.X.W
  have F := P.H.G.F
  have hw : ∀ q ∈ δ.dirs, ∃ b dd, σ.dr b = some dd ∧ Ways N σ (dd.was ++ [dd.now]) q.2 ∧ q.2.length = dd.was.length + 1 := fun q hq => by
    obtain ⟨b, dd, h1, h2, h3⟩ := P.rel.di q.1 q.2 hq
    exact ⟨b, dd, h2, h3, by rw [← h3.1]; simp⟩
  refine ⟨⟨fun q hq => ?_, ?_, fun q hq => ?_, fun q hq l hl => ?_⟩, ⟨?_, ?_, ?_, ?_⟩, fun q hq => ?_, Nat.le_succ_of_le P.fn⟩
  · obtain ⟨b, dd, _, _, h3⟩ := hw q hq
    intro e; rw [e] at h3; simp at h3
  · have := P.rel.dk.length_eq
    rw [List.length_map, List.length_map] at this
    rw [← this]; exact W.most
  · obtain ⟨b, dd, h1, _, h3⟩ := hw q hq
    have := F.was b dd h1
    omega
  · obtain ⟨b, dd, h1, h2, _⟩ := hw q hq
    obtain ⟨k, hk⟩ := List.mem_iff_getElem?.1 hl
    obtain ⟨r, hr⟩ : ∃ r, (dd.was ++ [dd.now])[k]? = some r := ⟨_, List.getElem?_eq_getElem (by rw [h2.1]; exact ltOf hk)⟩
    have ok := h2.2 k r l hr hk
    obtain ⟨m, hm, _⟩ := ok.ex
    rw [← (ok.keys hm).2]; exact W.most' _ _ hm
  · have := F.fail
    rcases P.rel.sf with ⟨_, h2, h3⟩ | ⟨_, h2, h3, ⟨g1, g2, g3⟩ | ⟨g1, g2, g3⟩⟩ <;> omega
  · have := F.fail; have := P.H.fm
    rcases P.rel.sf with ⟨_, h2, h3⟩ | ⟨_, h2, h3, ⟨g1, g2, g3⟩ | ⟨g1, g2, ⟨g3, g4⟩ | ⟨g3, g4⟩⟩⟩ <;> omega
  · have := F.stop
    rcases P.rel.ss with ⟨_, h2, h3⟩ | ⟨_, h2, h3, ⟨g1, g2, g3⟩ | ⟨g1, g2, g3⟩⟩ <;> omega
  · rcases P.rel.sf with ⟨_, h2, h3⟩ | ⟨_, h2, h3, ⟨g1, g2, g3⟩ | ⟨g1, g2, g3⟩⟩ <;> omega
  · obtain ⟨b, dd, h1, _, h3⟩ := hw q hq
    have := F.was b dd h1
    omega
theorem PW.ok2 (P : PW h0 h lab M f D d p t σ δ N n) (hn : n ≤ 2199023255551) : Ok2 δ (n + 1) := ⟨(P.okD hn).W, P.all (by omega), (P.okD hn).fn⟩
structure Nx (h0 : Heap) (h : Heap) (lab : Labs) (M : Bl) (f D d p : Nat) (t : TypeId) (N : Num) (n : Nat) (R : Heap → Prop) : Prop where
  k : ∀ h' lab' M' σ' δ' N', PW h0 h' lab' M' f D d p t σ' δ' N' n → Le N N' → BS lab M h lab' M' h' d → R h'
end

end Go.V.YtdeihieblljfcaaGreat
/-! A call on both disks. -/
namespace Go.V.YtdeihieblljfcaaGreat
open Go Go.V

theorem change_m (σ : Dk) : σ.change.2.2.fail.many = σ.fail.many := (count_eta σ.fail).2
theorem createR_m (σ : Dk) (l : Tx) (r x : Nat) : (createR σ l r x).2.fail.many = σ.fail.many := by unfold createR; (repeat' split) <;> first | rfl | exact change_m σ
theorem linkR_m (σ : Dk) (l l' : Tx) (r : Nat) : (linkR σ l l' r).2.fail.many = σ.fail.many := by unfold linkR; (repeat' split) <;> first | rfl | exact change_m σ
theorem removeR_m (σ : Dk) (l : Tx) (r : Nat) : (removeR σ l r).2.fail.many = σ.fail.many := by unfold removeR; (repeat' split) <;> first | rfl | exact change_m σ
theorem renameR_m (σ : Dk) (l l' : Tx) (r1 r2 : Nat) : (renameR σ l l' r1 r2).2.fail.many = σ.fail.many := by unfold renameR; (repeat' split) <;> first | rfl | exact change_m σ
theorem mkdirR_m (σ : Dk) (l : Tx) (r b : Nat) : (mkdirR σ l r b).2.fail.many = σ.fail.many := by unfold mkdirR; (repeat' split) <;> first | rfl | exact change_m σ
theorem rmdirR_m (σ : Dk) (l : Tx) : (rmdirR σ l).2.fail.many = σ.fail.many := by unfold rmdirR; (repeat' split) <;> first | rfl | exact change_m σ
theorem syncR_m (σ : Dk) (l : Tx) : (syncR σ l).2.fail.many = σ.fail.many := by unfold syncR; (repeat' split) <;> first | rfl | exact change_m σ
theorem syncDirR_m (σ : Dk) (l : Tx) : (syncDirR σ l).2.fail.many = σ.fail.many := by unfold syncDirR; (repeat' split) <;> first | rfl | exact change_m σ
theorem cutR_m (σ : Dk) (l : Tx) (i : Int) : (cutR σ l i).2.fail.many = σ.fail.many := by unfold cutR; (repeat' split) <;> first | rfl | exact change_m σ
theorem flipR_m (σ : Dk) (l : Tx) (i : Int) : (flipR σ l i).2.fail.many = σ.fail.many := by unfold flipR; (repeat' split) <;> rfl
theorem writesR_m (σ : Dk) (x : Nat) (i : Int) (b : Tx) : (writesR σ x i b).2.fail.many = σ.fail.many := by
  rcases writesR_cases σ x i b with h | h | ⟨c, b', _, _, _, _, _, h⟩ <;> rw [h]
  · exact change_m σ
  · exact change_m σ
theorem appendR_m (σ : Dk) (l b : Tx) : (appendR σ l b).2.fail.many = σ.fail.many := by unfold appendR; split <;> first | rfl | exact writesR_m _ _ _ _
theorem writeR_m (σ : Dk) (l : Tx) (i : Int) (b : Tx) : (writeR σ l i b).2.fail.many = σ.fail.many := by unfold writeR; split <;> first | rfl | exact writesR_m _ _ _ _
theorem rmdirR_q (σ : Dk) (l : Tx) : (rmdirR σ l).2.quota = σ.quota := by unfold rmdirR; (repeat' split) <;> rfl
theorem cutR_q (σ : Dk) (l : Tx) (i : Int) : (cutR σ l i).2.quota = σ.quota := by unfold cutR; (repeat' split) <;> rfl
theorem flipR_q (σ : Dk) (l : Tx) (i : Int) : (flipR σ l i).2.quota = σ.quota := by unfold flipR; (repeat' split) <;> rfl

theorem FF.rmdir {σ : Dk} {n : Nat} (G : FF σ n) (l : Tx) : FF (rmdirR σ l).2 (n + 3) := by
  have h1 := G.mono (m := n + 3) (by omega)
  have h2 := G.change.mono (m := n + 3) (by omega)
  unfold rmdirR
  (repeat' split)
  all_goals first | exact h1 | exact h2 | exact ⟨⟨h2.F.fail, h2.F.stop, h2.F.was, h2.F.opn⟩, h2.Z⟩
theorem FF.cut {σ : Dk} {n : Nat} (G : FF σ n) (l : Tx) (i : Int) : FF (cutR σ l i).2 (n + 3) := by
  have h1 := G.mono (m := n + 3) (by omega)
  have h2 := G.change.mono (m := n + 3) (by omega)
  unfold cutR
  split
  · exact h1
  · split
    · exact h1
    · rename_i c hc
      split
      · exact h1
      · split
        · exact h2
        · exact h2.newF _ (by simp) ⟨trivial, rfl, by show (c.now.take i.toNat).length ≤ _; have := (G.Z _ _ hc).len; rw [List.length_take]; omega⟩
theorem FF.flip {σ : Dk} {n : Nat} (G : FF σ n) (l : Tx) (i : Int) : FF (flipR σ l i).2 (n + 3) := by
  have h1 := G.mono (m := n + 3) (by omega)
  unfold flipR
  split
  · exact h1
  · split
    · exact h1
    · rename_i c hc
      split
      · exact h1
      · split
        · exact h1
        · exact h1.newF _ (by simp) ⟨trivial, rfl, by show (flipT c.now i).length ≤ _; rw [flipT_len]; exact (G.Z _ _ hc).len⟩

theorem script_fl (δ : Dc) : (scriptD δ).2.2.files.length = δ.files.length := by rw [(scriptD_keep δ).2.2]
theorem chgD_fl (δ : Dc) (i : Nat) (m : Nm) : (chgD δ i m).files.length = δ.files.length := by rw [(chgD_keep δ i m).1]
theorem setD_fl (δ : Dc) (i : Nat) (c : DF) : (setD δ i c).files.length = δ.files.length := by unfold setD; simp
theorem settleD_fl (δ : Dc) (i k : Nat) : (settleD δ i k).files.length = δ.files.length := by unfold settleD; (repeat' split) <;> rfl
theorem createD_fl (δ : Dc) (l : Tx) : (createD δ l).2.files.length ≤ δ.files.length + 1 := by
  unfold createD
  (repeat' split) <;> first | (simp only [script_fl, chgD_fl]; omega) | (simp only [chgD_fl, List.length_append, List.length_singleton]; omega)
theorem mkdirD_fl (δ : Dc) (l : Tx) : (mkdirD δ l).2.files.length ≤ δ.files.length + 1 := by unfold mkdirD; (repeat' split) <;> simp only [script_fl] <;> omega
theorem rmdirD_fl (δ : Dc) (l : Tx) : (rmdirD δ l).2.files.length ≤ δ.files.length + 1 := by unfold rmdirD; (repeat' split) <;> simp only [script_fl] <;> omega
theorem linkD_fl (δ : Dc) (l l' : Tx) : (linkD δ l l').2.files.length ≤ δ.files.length + 1 := by unfold linkD; (repeat' split) <;> simp only [script_fl, chgD_fl] <;> omega
theorem removeD_fl (δ : Dc) (l : Tx) : (removeD δ l).2.files.length ≤ δ.files.length + 1 := by unfold removeD; (repeat' split) <;> simp only [script_fl, chgD_fl] <;> omega
theorem renameD_fl (δ : Dc) (l l' : Tx) : (renameD δ l l').2.files.length ≤ δ.files.length + 1 := by unfold renameD; (repeat' split) <;> simp only [script_fl, chgD_fl] <;> omega
theorem syncD_fl (δ : Dc) (l : Tx) : (syncD δ l).2.files.length ≤ δ.files.length + 1 := by unfold syncD; (repeat' split) <;> simp only [script_fl, setD_fl] <;> omega
theorem syncDirD_fl (δ : Dc) (l : Tx) : (syncDirD δ l).2.files.length ≤ δ.files.length + 1 := by unfold syncDirD; (repeat' split) <;> simp only [script_fl, settleD_fl] <;> omega
theorem cutD_fl (δ : Dc) (l : Tx) (i : Int) : (cutD δ l i).2.files.length ≤ δ.files.length + 1 := by unfold cutD; (repeat' split) <;> simp only [script_fl, setD_fl] <;> omega
theorem flipD_fl (δ : Dc) (l : Tx) (i : Int) : (flipD δ l i).2.files.length ≤ δ.files.length + 1 := by unfold flipD; (repeat' split) <;> simp only [setD_fl] <;> omega
theorem putD_fl (δ : Dc) (x : Nat) (i : Int) (b : Tx) : (putD δ x i b).2.files.length ≤ δ.files.length + 1 := by
  unfold putD
  split
  · exact Nat.le_succ _
  · split
    · exact Nat.le_succ _
    · split
      · exact Nat.le_succ _
      · simp only
        generalize (if (scriptD δ).2.1 = true then b.take (b.length / 2) else b) = b'
        split <;> simp only [script_fl, setD_fl] <;> omega
theorem writeD_fl (δ : Dc) (l : Tx) (i : Int) (b : Tx) : (writeD δ l i b).2.files.length ≤ δ.files.length + 1 := by
  unfold writeD; split
  · exact Nat.le_succ _
  · exact putD_fl _ _ _ _
theorem appendD_fl (δ : Dc) (l : Tx) (b : Tx) : (appendD δ l b).2.files.length ≤ δ.files.length + 1 := by
  unfold appendD; split
  · exact Nat.le_succ _
  · exact putD_fl _ _ _ _

section
variable {h0 h : Heap} {lab : Labs} {M : Bl} {f D d p : Nat} {t : TypeId} {σ : Dk} {δ : Dc} {N : Num} {n : Nat}

theorem PW.both (P : PW h0 h lab M f D d p t σ δ N n) {b0 : Nat} (hb : b0 < h.size) (lb : lab b0 = none) (db : b0 ≠ d) {cp : (Int → Heap → Prop) → Prop} {cd : Heap → (Int → Heap → Prop) → Prop}
    (Ψ : Dk → Int → Prop) (Φ : Dc → Int → Prop)
    (hP : ∀ K : Int → Heap → Prop, (∀ h' lab' σ' e, DW h' lab' f D σ' → Stp lab h lab' h' → FF σ' (n + 3) → σ'.quota = σ.quota → σ'.fail.many ≤ 9223372036854775807 → Ψ σ' e → K e h') → cp K)
    (hD : ∀ hh lab' σ', HW h0 hh lab' M f D d p t σ' δ (n + 3) → BS lab M h lab' M hh d → ∀ K : Int → Heap → Prop, (∀ h' M' δ' e, DD h' M' d δ' → DStp M hh M' h' d → Φ δ' e → K e h') → cd hh K)
    (fin : ∀ σ' δ' e e', Ψ σ' e → Φ δ' e' → e = e' ∧ δ'.files.length ≤ n + 3 ∧ ∃ N', Le N N' ∧ Rl N' σ' δ')
    {R : Bool → Heap → Prop} (k : Nx h0 h lab M f D d p t N (n + 3) (R true)) :
    cp fun i h9 => keepB h h9 [b0] ∧ cellsAt h9 p (0 + 1) [.ptr (some (d, 0))] ∧ cd h9 fun i' h11 => keepB h9 h11 [b0] ∧ R (i == i') h11 := by
  refine hP _ fun h9 lab9 σ9 e X9 s9 G9 q9 m9 hΨ => ?_
  have H9 := P.H.prog X9 s9 G9 q9 m9
  have B9 : BS lab M h lab9 M h9 d := BS.ofP M d s9
  refine ⟨B9.keep hb lb db, H9.pb.cell rfl, hD h9 lab9 σ9 H9 B9 _ fun h11 M11 δ11 e' Y11 s11 hΦ => ?_⟩
  have H11 := H9.doc Y11 s11
  have B11 := BS.ofD lab9 s11
  obtain ⟨he, hf, N', hN, hr⟩ := fin σ9 δ11 e e' hΨ hΦ
  refine ⟨B11.keep (Nat.lt_of_lt_of_le hb s9.size) ((s9.lab b0 hb).trans lb) db, ?_⟩
  rw [he, beq_self_eq_true]
  exact k.k h11 lab9 M11 σ9 δ11 N' ⟨H11, hr, hf⟩ hN (B9.trans B11)

theorem PW.mkdir (P : PW h0 h lab M f D d p t σ δ N n) (hn : n ≤ 2199023250000) {l : Tx} {b0 : Nat} (hb : b0 < h.size) (lb : lab b0 = none) (db : b0 ≠ d) {R : Bool → Heap → Prop} (k : Nx h0 h lab M f D d p t N (n + 3) (R true)) :
    Call Go.Proofs.Tryz.prog 37 [.lf (.ptr (some (f, 0))), .lf (.str (tx l))] h [.one (.int .i64)] fun i h9 => keepB h h9 [b0] ∧ cellsAt h9 p (0 + 1) [.ptr (some (d, 0))] ∧
      Call Go.Proofs.Tryz.prog 66 [.lf (.ptr (some (d, 0))), .lf (.str (tx l))] h9 [.one (.int .i64)] fun i' h11 => keepB h9 h11 [b0] ∧ R (i == i') h11 :=
  P.both hb lb db (cp := fun K => Call Go.Proofs.Tryz.prog 37 [.lf (.ptr (some (f, 0))), .lf (.str (tx l))] h [.one (.int .i64)] K) (cd := fun hh K => Call Go.Proofs.Tryz.prog 66 [.lf (.ptr (some (d, 0))), .lf (.str (tx l))] hh [.one (.int .i64)] K)
    (fun σ' e => ∃ r b, σ.mp r = none ∧ σ.dr b = none ∧ σ' = (mkdirR σ l r b).2 ∧ e = (mkdirR σ l r b).1) (fun δ' e => δ' = (mkdirD δ l).2 ∧ e = (mkdirD δ l).1)
    (fun K k => c37 P.H.X P.H.G.F (by omega) fun r b h' lab' f1 f2 X' s => k h' lab' _ _ X' s (P.H.G.mkdir l r b) (mkdirR_q ..) (by rw [mkdirR_m]; exact P.H.fm) ⟨r, b, f1, f2, rfl, rfl⟩)
    (fun hh lab' σ' H _ K k => c66 H.Y (P.okD (by omega)) fun h' M' Y' s => k h' M' _ _ Y' s ⟨rfl, rfl⟩)
    (fun σ' δ' e e' ⟨r, b, f1, f2, h1, h2⟩ ⟨h3, h4⟩ => by
      subst h1 h2 h3 h4
      obtain ⟨g1, g2⟩ := mkdir_rel P.rel l f1 f2
      exact ⟨g1, by have := mkdirD_fl δ l; have := P.fn; omega, N, Le.refl N, g2⟩) k
theorem PW.create (P : PW h0 h lab M f D d p t σ δ N n) (hn : n ≤ 2199023250000) {l : Tx} (hl : l.length < 4294967281) {b0 : Nat} (hb : b0 < h.size) (lb : lab b0 = none) (db : b0 ≠ d) {R : Bool → Heap → Prop} (k : Nx h0 h lab M f D d p t N (n + 3) (R true)) :
    Call Go.Proofs.Tryz.prog 38 [.lf (.ptr (some (f, 0))), .lf (.str (tx l))] h [.one (.int .i64)] fun i h9 => keepB h h9 [b0] ∧ cellsAt h9 p (0 + 1) [.ptr (some (d, 0))] ∧
      Call Go.Proofs.Tryz.prog 69 [.lf (.ptr (some (d, 0))), .lf (.str (tx l))] h9 [.one (.int .i64)] fun i' h11 => keepB h9 h11 [b0] ∧ R (i == i') h11 :=
  P.both hb lb db (cp := fun K => Call Go.Proofs.Tryz.prog 38 [.lf (.ptr (some (f, 0))), .lf (.str (tx l))] h [.one (.int .i64)] K) (cd := fun hh K => Call Go.Proofs.Tryz.prog 69 [.lf (.ptr (some (d, 0))), .lf (.str (tx l))] hh [.one (.int .i64)] K)
    (fun σ' e => ∃ r x, σ.mp r = none ∧ σ.fl x = none ∧ σ' = (createR σ l r x).2 ∧ e = (createR σ l r x).1) (fun δ' e => δ' = (createD δ l).2 ∧ e = (createD δ l).1)
    (fun K k => c38 P.H.X P.H.G.F (by omega) hl fun r b h' lab' f1 f2 X' s => k h' lab' _ _ X' s (P.H.G.create l r b) (createR_q ..) (by rw [createR_m]; exact P.H.fm) ⟨r, b, f1, f2, rfl, rfl⟩)
    (fun hh lab' σ' H _ K k => c69 H.Y (P.okD (by omega)) (by omega) (by omega) fun h' M' Y' s => k h' M' _ _ Y' s ⟨rfl, rfl⟩)
    (fun σ' δ' e e' ⟨r, b, f1, f2, h1, h2⟩ ⟨h3, h4⟩ => by
      subst h1 h2 h3 h4
      obtain ⟨N', hN, g1, g2⟩ := create_rel P.rel l f1 f2
      exact ⟨g1, by have := createD_fl δ l; have := P.fn; omega, N', hN, g2⟩) k
theorem PW.rmdir (P : PW h0 h lab M f D d p t σ δ N n) (hn : n ≤ 2199023250000) {l : Tx} {b0 : Nat} (hb : b0 < h.size) (lb : lab b0 = none) (db : b0 ≠ d) {R : Bool → Heap → Prop} (k : Nx h0 h lab M f D d p t N (n + 3) (R true)) :
    Call Go.Proofs.Tryz.prog 67 [.lf (.ptr (some (f, 0))), .lf (.str (tx l))] h [.one (.int .i64)] fun i h9 => keepB h h9 [b0] ∧ cellsAt h9 p (0 + 1) [.ptr (some (d, 0))] ∧
      Call Go.Proofs.Tryz.prog 68 [.lf (.ptr (some (d, 0))), .lf (.str (tx l))] h9 [.one (.int .i64)] fun i' h11 => keepB h9 h11 [b0] ∧ R (i == i') h11 :=
  P.both hb lb db (cp := fun K => Call Go.Proofs.Tryz.prog 67 [.lf (.ptr (some (f, 0))), .lf (.str (tx l))] h [.one (.int .i64)] K) (cd := fun hh K => Call Go.Proofs.Tryz.prog 68 [.lf (.ptr (some (d, 0))), .lf (.str (tx l))] hh [.one (.int .i64)] K)
    (fun σ' e => σ' = (rmdirR σ l).2 ∧ e = (rmdirR σ l).1) (fun δ' e => δ' = (rmdirD δ l).2 ∧ e = (rmdirD δ l).1)
    (fun K k => c67 P.H.X P.H.G.F (by omega) fun h' X' s => k h' lab _ _ X' s (P.H.G.rmdir l) (rmdirR_q ..) (by rw [rmdirR_m]; exact P.H.fm) ⟨rfl, rfl⟩)
    (fun hh lab' σ' H _ K k => c68 H.Y (P.okD (by omega)) fun h' M' Y' s => k h' M' _ _ Y' s ⟨rfl, rfl⟩)
    (fun σ' δ' e e' ⟨h1, h2⟩ ⟨h3, h4⟩ => by
      subst h1 h2 h3 h4
      obtain ⟨g1, g2⟩ := rmdir_rel P.rel l
      exact ⟨g1, by have := rmdirD_fl δ l; have := P.fn; omega, N, Le.refl N, g2⟩) k
theorem PW.cut (P : PW h0 h lab M f D d p t σ δ N n) (hn : n ≤ 2199023250000) {l : Tx} (hl : l.length < 4294967281) {i : Int} {b0 : Nat} (hb : b0 < h.size) (lb : lab b0 = none) (db : b0 ≠ d) {R : Bool → Heap → Prop} (k : Nx h0 h lab M f D d p t N (n + 3) (R true)) :
    Call Go.Proofs.Tryz.prog 71 [.lf (.ptr (some (f, 0))), .lf (.str (tx l)), .lf (.int .i64 i)] h [.one (.int .i64)] fun i1 h9 => keepB h h9 [b0] ∧ cellsAt h9 p (0 + 1) [.ptr (some (d, 0))] ∧
      Call Go.Proofs.Tryz.prog 72 [.lf (.ptr (some (d, 0))), .lf (.str (tx l)), .lf (.int .i64 i)] h9 [.one (.int .i64)] fun i' h11 => keepB h9 h11 [b0] ∧ R (i1 == i') h11 :=
  P.both hb lb db (cp := fun K => Call Go.Proofs.Tryz.prog 71 [.lf (.ptr (some (f, 0))), .lf (.str (tx l)), .lf (.int .i64 i)] h [.one (.int .i64)] K) (cd := fun hh K => Call Go.Proofs.Tryz.prog 72 [.lf (.ptr (some (d, 0))), .lf (.str (tx l)), .lf (.int .i64 i)] hh [.one (.int .i64)] K)
    (fun σ' e => σ' = (cutR σ l i).2 ∧ e = (cutR σ l i).1) (fun δ' e => δ' = (cutD δ l i).2 ∧ e = (cutD δ l i).1)
    (fun K k => c71 P.H.X P.H.G.Z P.H.G.F (by omega) hl fun h' lab' X' s => k h' lab' _ _ X' s (P.H.G.cut l i) (cutR_q ..) (by rw [cutR_m]; exact P.H.fm) ⟨rfl, rfl⟩)
    (fun hh lab' σ' H _ K k => c72 H.Y (P.okD (by omega)) (P.all (by omega)).at.ok (by omega) (by omega) fun h' M' Y' s => k h' M' _ _ Y' s ⟨rfl, rfl⟩)
    (fun σ' δ' e e' ⟨h1, h2⟩ ⟨h3, h4⟩ => by
      subst h1 h2 h3 h4
      obtain ⟨g1, g2⟩ := cut_rel P.rel P.H.G.Z l i
      exact ⟨g1, by have := cutD_fl δ l i; have := P.fn; omega, N, Le.refl N, g2⟩) k
theorem PW.flip (P : PW h0 h lab M f D d p t σ δ N n) (hn : n ≤ 2199023250000) {l : Tx} (hl : l.length < 4294967281) {i : Int} (hi1 : -9223372036854775808 ≤ i) (hi2 : i ≤ 9223372036854775807) {b0 : Nat} (hb : b0 < h.size) (lb : lab b0 = none) (db : b0 ≠ d) {R : Bool → Heap → Prop} (k : Nx h0 h lab M f D d p t N (n + 3) (R true)) :
    Call Go.Proofs.Tryz.prog 83 [.lf (.ptr (some (f, 0))), .lf (.str (tx l)), .lf (.int .i64 i)] h [.one (.int .i64)] fun i1 h9 => keepB h h9 [b0] ∧ cellsAt h9 p (0 + 1) [.ptr (some (d, 0))] ∧
      Call Go.Proofs.Tryz.prog 84 [.lf (.ptr (some (d, 0))), .lf (.str (tx l)), .lf (.int .i64 i)] h9 [.one (.int .i64)] fun i' h11 => keepB h9 h11 [b0] ∧ R (i1 == i') h11 :=
  P.both hb lb db (cp := fun K => Call Go.Proofs.Tryz.prog 83 [.lf (.ptr (some (f, 0))), .lf (.str (tx l)), .lf (.int .i64 i)] h [.one (.int .i64)] K) (cd := fun hh K => Call Go.Proofs.Tryz.prog 84 [.lf (.ptr (some (d, 0))), .lf (.str (tx l)), .lf (.int .i64 i)] hh [.one (.int .i64)] K)
    (fun σ' e => σ' = (flipR σ l i).2 ∧ e = (flipR σ l i).1) (fun δ' e => δ' = (flipD δ l i).2 ∧ e = (flipD δ l i).1)
    (fun K k => c83 P.H.X P.H.G.Z hl hi1 hi2 fun h' lab' X' s => k h' lab' _ _ X' s (P.H.G.flip l i) (flipR_q ..) (by rw [flipR_m]; exact P.H.fm) ⟨rfl, rfl⟩)
    (fun hh lab' σ' H _ K k => c84 H.Y (P.okD (by omega)) (P.all (by omega)).at.ok (by omega) (by omega) hi1 hi2 fun h' M' Y' s => k h' M' _ _ Y' s ⟨rfl, rfl⟩)
    (fun σ' δ' e e' ⟨h1, h2⟩ ⟨h3, h4⟩ => by
      subst h1 h2 h3 h4
      obtain ⟨g1, g2⟩ := flip_rel P.rel P.H.G.Z l i
      exact ⟨g1, by have := flipD_fl δ l i; have := P.fn; omega, N, Le.refl N, g2⟩) k
theorem PW.rename (P : PW h0 h lab M f D d p t σ δ N n) (hn : n ≤ 2199023250000) {l l' : Tx} (hl : l.length < 4294967281) (hl' : l'.length < 4294967281) {b0 : Nat} (hb : b0 < h.size) (lb : lab b0 = none) (db : b0 ≠ d) {R : Bool → Heap → Prop} (k : Nx h0 h lab M f D d p t N (n + 3) (R true)) :
    Call Go.Proofs.Tryz.prog 73 [.lf (.ptr (some (f, 0))), .lf (.str (tx l)), .lf (.str (tx l'))] h [.one (.int .i64)] fun i h9 => keepB h h9 [b0] ∧ cellsAt h9 p (0 + 1) [.ptr (some (d, 0))] ∧
      Call Go.Proofs.Tryz.prog 74 [.lf (.ptr (some (d, 0))), .lf (.str (tx l)), .lf (.str (tx l'))] h9 [.one (.int .i64)] fun i' h11 => keepB h9 h11 [b0] ∧ R (i == i') h11 :=
  P.both hb lb db (cp := fun K => Call Go.Proofs.Tryz.prog 73 [.lf (.ptr (some (f, 0))), .lf (.str (tx l)), .lf (.str (tx l'))] h [.one (.int .i64)] K) (cd := fun hh K => Call Go.Proofs.Tryz.prog 74 [.lf (.ptr (some (d, 0))), .lf (.str (tx l)), .lf (.str (tx l'))] hh [.one (.int .i64)] K)
    (fun σ' e => ∃ r1 r2, σ.mp r1 = none ∧ σ.mp r2 = none ∧ r1 ≠ r2 ∧ σ' = (renameR σ l l' r1 r2).2 ∧ e = (renameR σ l l' r1 r2).1) (fun δ' e => δ' = (renameD δ l l').2 ∧ e = (renameD δ l l').1)
    (fun K k => c73 P.H.X P.H.G.F (by omega) hl hl' fun r1 r2 h' lab' f1 f2 hne X' s => k h' lab' _ _ X' s (P.H.G.rename l l' r1 r2) (renameR_q ..) (by rw [renameR_m]; exact P.H.fm) ⟨r1, r2, f1, f2, hne, rfl, rfl⟩)
    (fun hh lab' σ' H _ K k => c74 H.Y (P.okD (by omega)) (by omega) (by omega) (by omega) fun h' M' Y' s => k h' M' _ _ Y' s ⟨rfl, rfl⟩)
    (fun σ' δ' e e' ⟨r1, r2, f1, f2, hne, h1, h2⟩ ⟨h3, h4⟩ => by
      subst h1 h2 h3 h4
      obtain ⟨g1, g2⟩ := rename_rel P.rel l l' f1 f2 hne
      exact ⟨g1, by have := renameD_fl δ l l'; have := P.fn; omega, N, Le.refl N, g2⟩) k
theorem PW.link (P : PW h0 h lab M f D d p t σ δ N n) (hn : n ≤ 2199023250000) {l l' : Tx} (hl : l.length < 4294967281) (hl' : l'.length < 4294967281) {b0 : Nat} (hb : b0 < h.size) (lb : lab b0 = none) (db : b0 ≠ d) {R : Bool → Heap → Prop} (k : Nx h0 h lab M f D d p t N (n + 3) (R true)) :
    Call Go.Proofs.Tryz.prog 75 [.lf (.ptr (some (f, 0))), .lf (.str (tx l)), .lf (.str (tx l'))] h [.one (.int .i64)] fun i h9 => keepB h h9 [b0] ∧ cellsAt h9 p (0 + 1) [.ptr (some (d, 0))] ∧
      Call Go.Proofs.Tryz.prog 76 [.lf (.ptr (some (d, 0))), .lf (.str (tx l)), .lf (.str (tx l'))] h9 [.one (.int .i64)] fun i' h11 => keepB h9 h11 [b0] ∧ R (i == i') h11 :=
  P.both hb lb db (cp := fun K => Call Go.Proofs.Tryz.prog 75 [.lf (.ptr (some (f, 0))), .lf (.str (tx l)), .lf (.str (tx l'))] h [.one (.int .i64)] K) (cd := fun hh K => Call Go.Proofs.Tryz.prog 76 [.lf (.ptr (some (d, 0))), .lf (.str (tx l)), .lf (.str (tx l'))] hh [.one (.int .i64)] K)
    (fun σ' e => ∃ r, σ.mp r = none ∧ σ' = (linkR σ l l' r).2 ∧ e = (linkR σ l l' r).1) (fun δ' e => δ' = (linkD δ l l').2 ∧ e = (linkD δ l l').1)
    (fun K k => c75 P.H.X P.H.G.F (by omega) hl hl' fun r h' lab' f1 X' s => k h' lab' _ _ X' s (P.H.G.link l l' r) (linkR_q ..) (by rw [linkR_m]; exact P.H.fm) ⟨r, f1, rfl, rfl⟩)
    (fun hh lab' σ' H _ K k => c76 H.Y (P.okD (by omega)) (by omega) (by omega) (by omega) fun h' M' Y' s => k h' M' _ _ Y' s ⟨rfl, rfl⟩)
    (fun σ' δ' e e' ⟨r, f1, h1, h2⟩ ⟨h3, h4⟩ => by
      subst h1 h2 h3 h4
      obtain ⟨g1, g2⟩ := link_rel P.rel l l' f1
      exact ⟨g1, by have := linkD_fl δ l l'; have := P.fn; omega, N, Le.refl N, g2⟩) k
theorem PW.remove (P : PW h0 h lab M f D d p t σ δ N n) (hn : n ≤ 2199023250000) {l : Tx} (hl : l.length < 4294967281) {b0 : Nat} (hb : b0 < h.size) (lb : lab b0 = none) (db : b0 ≠ d) {R : Bool → Heap → Prop} (k : Nx h0 h lab M f D d p t N (n + 3) (R true)) :
    Call Go.Proofs.Tryz.prog 77 [.lf (.ptr (some (f, 0))), .lf (.str (tx l))] h [.one (.int .i64)] fun i h9 => keepB h h9 [b0] ∧ cellsAt h9 p (0 + 1) [.ptr (some (d, 0))] ∧
      Call Go.Proofs.Tryz.prog 78 [.lf (.ptr (some (d, 0))), .lf (.str (tx l))] h9 [.one (.int .i64)] fun i' h11 => keepB h9 h11 [b0] ∧ R (i == i') h11 :=
  P.both hb lb db (cp := fun K => Call Go.Proofs.Tryz.prog 77 [.lf (.ptr (some (f, 0))), .lf (.str (tx l))] h [.one (.int .i64)] K) (cd := fun hh K => Call Go.Proofs.Tryz.prog 78 [.lf (.ptr (some (d, 0))), .lf (.str (tx l))] hh [.one (.int .i64)] K)
    (fun σ' e => ∃ r, σ.mp r = none ∧ σ' = (removeR σ l r).2 ∧ e = (removeR σ l r).1) (fun δ' e => δ' = (removeD δ l).2 ∧ e = (removeD δ l).1)
    (fun K k => c77 P.H.X P.H.G.F (by omega) hl fun r h' lab' f1 X' s => k h' lab' _ _ X' s (P.H.G.remove l r) (removeR_q ..) (by rw [removeR_m]; exact P.H.fm) ⟨r, f1, rfl, rfl⟩)
    (fun hh lab' σ' H _ K k => c78 H.Y (P.okD (by omega)) (by omega) (by omega) fun h' M' Y' s => k h' M' _ _ Y' s ⟨rfl, rfl⟩)
    (fun σ' δ' e e' ⟨r, f1, h1, h2⟩ ⟨h3, h4⟩ => by
      subst h1 h2 h3 h4
      obtain ⟨g1, g2⟩ := remove_rel P.rel l f1
      exact ⟨g1, by have := removeD_fl δ l; have := P.fn; omega, N, Le.refl N, g2⟩) k
theorem PW.sync (P : PW h0 h lab M f D d p t σ δ N n) (hn : n ≤ 2199023250000) {l : Tx} (hl : l.length < 4294967281) {b0 : Nat} (hb : b0 < h.size) (lb : lab b0 = none) (db : b0 ≠ d) {R : Bool → Heap → Prop} (k : Nx h0 h lab M f D d p t N (n + 3) (R true)) :
    Call Go.Proofs.Tryz.prog 16 [.lf (.ptr (some (f, 0))), .lf (.str (tx l))] h [.one (.int .i64)] fun i h9 => keepB h h9 [b0] ∧ cellsAt h9 p (0 + 1) [.ptr (some (d, 0))] ∧
      Call Go.Proofs.Tryz.prog 79 [.lf (.ptr (some (d, 0))), .lf (.str (tx l))] h9 [.one (.int .i64)] fun i' h11 => keepB h9 h11 [b0] ∧ R (i == i') h11 :=
  P.both hb lb db (cp := fun K => Call Go.Proofs.Tryz.prog 16 [.lf (.ptr (some (f, 0))), .lf (.str (tx l))] h [.one (.int .i64)] K) (cd := fun hh K => Call Go.Proofs.Tryz.prog 79 [.lf (.ptr (some (d, 0))), .lf (.str (tx l))] hh [.one (.int .i64)] K)
    (fun σ' e => σ' = (syncR σ l).2 ∧ e = (syncR σ l).1) (fun δ' e => δ' = (syncD δ l).2 ∧ e = (syncD δ l).1)
    (fun K k => c16 P.H.X P.H.G.F (by omega) hl fun h' X' s => k h' lab _ _ X' s (P.H.G.sync l) (syncR_q ..) (by rw [syncR_m]; exact P.H.fm) ⟨rfl, rfl⟩)
    (fun hh lab' σ' H _ K k => c79 H.Y (P.okD (by omega)) (P.all (by omega)).at.ok (by omega) (by omega) fun h' M' Y' s => k h' M' _ _ Y' s ⟨rfl, rfl⟩)
    (fun σ' δ' e e' ⟨h1, h2⟩ ⟨h3, h4⟩ => by
      subst h1 h2 h3 h4
      obtain ⟨g1, g2⟩ := sync_rel P.rel P.H.G.Z l
      exact ⟨g1, by have := syncD_fl δ l; have := P.fn; omega, N, Le.refl N, g2⟩) k
theorem PW.syncDir (P : PW h0 h lab M f D d p t σ δ N n) (hn : n ≤ 2199023250000) {l : Tx} {b0 : Nat} (hb : b0 < h.size) (lb : lab b0 = none) (db : b0 ≠ d) {R : Bool → Heap → Prop} (k : Nx h0 h lab M f D d p t N (n + 3) (R true)) :
    Call Go.Proofs.Tryz.prog 40 [.lf (.ptr (some (f, 0))), .lf (.str (tx l))] h [.one (.int .i64)] fun i h9 => keepB h h9 [b0] ∧ cellsAt h9 p (0 + 1) [.ptr (some (d, 0))] ∧
      Call Go.Proofs.Tryz.prog 80 [.lf (.ptr (some (d, 0))), .lf (.str (tx l))] h9 [.one (.int .i64)] fun i' h11 => keepB h9 h11 [b0] ∧ R (i == i') h11 :=
  P.both hb lb db (cp := fun K => Call Go.Proofs.Tryz.prog 40 [.lf (.ptr (some (f, 0))), .lf (.str (tx l))] h [.one (.int .i64)] K) (cd := fun hh K => Call Go.Proofs.Tryz.prog 80 [.lf (.ptr (some (d, 0))), .lf (.str (tx l))] hh [.one (.int .i64)] K)
    (fun σ' e => σ' = (syncDirR σ l).2 ∧ e = (syncDirR σ l).1) (fun δ' e => δ' = (syncDirD δ l).2 ∧ e = (syncDirD δ l).1)
    (fun K k => c40 P.H.X P.H.G.F (by omega) fun h' X' s => k h' lab _ _ X' s (P.H.G.syncDir l) (syncDirR_q ..) (by rw [syncDirR_m]; exact P.H.fm) ⟨rfl, rfl⟩)
    (fun hh lab' σ' H _ K k => c80 H.Y (P.okD (by omega)) fun h' M' Y' s => k h' M' _ _ Y' s ⟨rfl, rfl⟩)
    (fun σ' δ' e e' ⟨h1, h2⟩ ⟨h3, h4⟩ => by
      subst h1 h2 h3 h4
      obtain ⟨g1, g2⟩ := syncDir_rel P.rel l
      exact ⟨g1, by have := syncDirD_fl δ l; have := P.fn; omega, N, Le.refl N, g2⟩) k
end

end Go.V.YtdeihieblljfcaaGreat
