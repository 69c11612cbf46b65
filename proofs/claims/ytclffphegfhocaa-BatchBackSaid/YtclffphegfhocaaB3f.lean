/- This text proves a part of the laws of seat Ytclffphegfhocaa, under no condition: B3f. -/
import Derived.Test.YtclffphegfhocaaB3e
set_option linter.unusedVariables false
set_option linter.unusedSimpArgs false
/-! Back, Same, Encode, and the batch that lives. -/
namespace Go.V.Ytclffphegfhocaa
open Go Go.V

def backB (x : Bt) : Int × Bt := match x.marks.getLast? with
  | none => (6, x)
  | some n => (0, ⟨x.recs.take n.toNat, x.size - tot (x.recs.drop n.toNat), x.marks.dropLast⟩)

theorem tot_bound {l : List Rec} (h : ∀ r ∈ l, r.Ok ∧ checkE r = 0 ∧ plainR r = r) : tot l ≤ 20000 * (l.length : Int) :=
  tot_le (fun r hr => (h r hr).1) (bad_zero fun r hr => (h r hr).2.1)

theorem c16 {h : Heap} {g : Nat} {F : Nat → Prop} {x : Bt} (B : Bat h g F x) (ok : x.Ok) (hm : x.marks.length ≤ 1099511627776) {R : Int → Heap → Prop}
    (k : ∀ h' F', Bat h' g F' (backB x).2 → Ext F h h' → Sub F F' h → R (backB x).1 h') :
    Call Go.Proofs.Try.prog 16 [.lf (.ptr (some (g, 0)))] h [.one (.int .i64)] R := by
  obtain ⟨sl, sm, C⟩ := id B
  have hlen := C.marks.len
  have hrl := C.recs.len
  have hrc := C.recs.lec
  have hlt := C.lt
  refine ok16 (NilC.mk rfl ⟨sm, C.blk.cell rfl, Br.eq (fun h0 => ?_) fun h0 => ?_⟩)
  · have hnil : x.marks = [] := List.length_eq_zero_iff.1 (by omega)
    have := k h F (by simp only [backB, hnil, List.getLast?_nil]; exact ⟨sl, sm, C⟩) (Ext.refl _ _) (Sub.refl _ _)
    simpa only [backB, hnil, List.getLast?_nil] using this
  · have hne : x.marks ≠ [] := fun he => by rw [he] at hlen; simp at hlen; omega
    have hpos : 0 < x.marks.length := by omega
    have hlast : x.marks[x.marks.length - 1]? = some (x.marks.getLast hne) := by
      rw [← List.getLast?_eq_getElem?, List.getLast?_eq_some_getLast hne]
    obtain ⟨hn0, hn1⟩ := ok.marks _ (List.getLast_mem hne)
    have hback : backB x = (0, ⟨x.recs.take (x.marks.getLast hne).toNat, x.size - tot (x.recs.drop (x.marks.getLast hne).toNat), x.marks.dropLast⟩) := by
      simp only [backB, List.getLast?_eq_some_getLast hne]
    rw [hback] at k
    obtain ⟨n, hn⟩ := Int.eq_ofNat_of_zero_le hn0
    rw [hn] at k hn1 hlast
    simp only [Int.toNat_natCast] at k
    refine NilC.mk rfl ⟨sm, C.blk.cell rfl, NilC.mk rfl ⟨sm, C.blk.cell rfl, ?_⟩⟩
    rw [wi64 (by omega) (by omega)]
    refine (C.marks.arr iF_sized).ix (k := x.marks.length - 1) (by omega) hlast fun b off hc => ⟨_, hc, NilC.mk rfl ⟨sl, C.blk.cell rfl, by omega, by omega, ?_⟩⟩
    have hsub := (C.recs.arr lfs_sized).sub (lo := n) (hi := x.recs.length) (m := sl.cap) (by omega) (Nat.le_refl _) (by omega)
    rw [List.take_length] at hsub
    have hsl : (sl.sub 4 (n : Int).toNat sl.len sl.cap) = sl.sub 4 n x.recs.length sl.cap := by rw [hrl]; rfl
    rw [hsl]
    have hdl : (x.recs.drop n).length = x.recs.length - n := by simp
    have hlen4 := ok.len
    have hall : ∀ r ∈ x.recs.drop n, r.Ok ∧ checkE r = 0 ∧ plainR r = r := fun r hr => ok.recs r (List.mem_of_mem_drop hr)
    have hsubin : ∀ b off, (sl.sub 4 n x.recs.length sl.cap).a = some (b, off) → ∃ off', sl.a = some (b, off') := by
      intro b off hb
      unfold Slc.sub at hb
      cases hsa : sl.a with
      | none => rw [hsa] at hb; simp at hb
      | some p => obtain ⟨b', o'⟩ := p; rw [hsa] at hb; simp only at hb; split at hb <;> (simp at hb; exact ⟨o', by rw [← hb.1]⟩)
    refine ⟨fun i h' d => ∃ m : Nat, i = m ∧ m ≤ (x.recs.drop n).length ∧ d = (x.recs.drop n).length - m ∧ Ext (fun j => j = g) h h' ∧ BatC h' g F ⟨x.recs, x.size - tot ((x.recs.drop n).take m), x.marks⟩ sl sm, ⟨_, 0, rfl, by omega, rfl, Ext.refl _ _, by simpa [tot] using C⟩, ?_⟩
    rintro _ h18 _ ⟨m, rfl, hm', rfl, e, C1⟩
    have htl := tot_bound (l := (x.recs.drop n).take m) fun r hr => hall r (List.mem_of_mem_take hr)
    have htn := tot_nonneg ((x.recs.drop n).take m)
    have hlt' : ((x.recs.drop n).take m).length ≤ 4096 := by simp; omega
    have hs0 := ok.s0
    have hs1 := ok.s1
    refine Br.dec (fun hi => ?_) fun hi => ?_
    · rw [hsub.len] at hi
      have hi' : m < (x.recs.drop n).length := by omega
      have hx : (x.recs.drop n)[m]? = some (x.recs.drop n)[m] := List.getElem?_eq_getElem hi'
      have hmem := hall _ (List.getElem_mem hi')
      refine (hsub.ext e fun ⟨b, off, hb, hx⟩ => ?_).ix rfl hx fun b off hc => ⟨_, _, _, _, hc, New.mk fun b1 h8 hb1 hs8 e8 _ => Set.mk fun h9 hs9 e9 _ => ?_⟩
      · obtain ⟨off', ho⟩ := hsubin b off hb; exact (C.hl b off' ho).2 hx
      have e9' : Ext0 h18 h9 := Ext.tmp e8 e9 (by omega)
      have C2 := C1.ext0 e9'
      obtain ⟨hk1, hk2⟩ := check_size hmem.2.1
      have he := enc_le hmem.1 hmem.2.1
      refine NilC.mk rfl ⟨_, C2.blk.cell rfl, ?_⟩
      refine c30 hmem.1 (by omega) (fun hh => by have := hk2 hh; omega) fun s11 h11 o11 f11 => ⟨f11.ext.keep (by omega), (C2.blk.ext f11.ext).cell rfl, ?_⟩
      have C3 := C2.ext0 f11.ext
      have hg := C1.blk.lt
      have hgs := f11.ext.size
      refine NilC.mk rfl (StC.one C3.blk (by simp) fun h12 hs12 k12 e12 => ⟨e12.keep (by omega) (fun he => by omega), _, ?_, m + 1, ?_, by omega, rfl, ?_, ?_⟩)
      · show (x.recs.drop n).length - (m + 1) < (x.recs.drop n).length - m; omega
      · rw [wi64 (by omega) (by omega)]; rfl
      · exact (e.then0 (e9'.trans f11.ext)).trans e12
      · rw [o11.len, wi64 (by simp only; omega) (by simp only; omega)] at k12
        have ht : tot ((x.recs.drop n).take (m + 1)) = tot ((x.recs.drop n).take m) + (encR (x.recs.drop n)[m]).length := by
          rw [take_succ' hi', tot_append]; simp [tot]
        refine ⟨?_, C3.recs.ext e12 fun ⟨b, off, hb, hx⟩ => (C3.hl b off hb).2 hx, C3.marks.ext e12 fun ⟨b, off, hb, hx⟩ => (C3.hm b off hb).2.1 hx, C3.gin, fun b hb => by rw [hs12]; exact C3.lt b hb, C3.hl, C3.hm⟩
        rw [ht, ← Int.sub_sub]; exact k12
    · rw [hsub.len] at hi
      have hml : m = (x.recs.drop n).length := by omega
      rw [hml, List.take_length] at C1
      refine NilC.mk rfl ⟨sl, C1.blk.cell rfl, by omega, by omega, NilC.mk rfl (StC.one C1.blk (by simp) fun h19 hs19 k19 e19 => ?_)⟩
      have hsub2 : ∀ b off, (sl.sub 4 0 (n : Int).toNat sl.cap).a = some (b, off) → sl.a = some (b, off) := by
        intro b off hb
        unfold Slc.sub at hb
        cases hsa : sl.a with
        | none => rw [hsa] at hb; simp at hb
        | some p => rw [hsa] at hb; simpa using hb
      have C4 : BatC h19 g F ⟨x.recs.take n, x.size - tot (x.recs.drop n), x.marks⟩ (sl.sub 4 0 (n : Int).toNat sl.cap) sm :=
        ⟨k19, (C1.recs.ext e19 fun ⟨b, off, hb, hx⟩ => (C1.hl b off hb).2 hx).take lfs_sized (by show n ≤ x.recs.length; omega), C1.marks.ext e19 fun ⟨b, off, hb, hx⟩ => (C1.hm b off hb).2.1 hx, C1.gin, fun b hb => by rw [hs19]; exact C1.lt b hb, fun b off hb => C1.hl b off (hsub2 b off hb), fun b off hb => ⟨(C1.hm b off hb).1, (C1.hm b off hb).2.1, fun off' ho => (C1.hm b off hb).2.2 off' (hsub2 _ _ ho)⟩⟩
      refine c31 ⟨_, _, C4⟩ hm fun h20 B20 e20 => ?_
      have hp : popB ⟨x.recs.take n, x.size - tot (x.recs.drop n), x.marks⟩ = (0, ⟨x.recs.take n, x.size - tot (x.recs.drop n), x.marks.dropLast⟩) := by
        simp only [popB]; rw [if_neg (by omega), List.dropLast_eq_take]
      rw [hp] at B20 ⊢
      exact k _ F B20 (((e.mono fun i hx => hx ▸ C.gin).trans (e19.mono fun i hx => hx ▸ C.gin)).trans e20) (Sub.refl _ _)

theorem pairwise_dropLast {l : List Int} (h : l.Pairwise (· ≤ ·)) : l.dropLast.Pairwise (· ≤ ·) := h.sublist (List.dropLast_sublist l)

theorem backB_ok {x : Bt} (ok : x.Ok) : (backB x).2.Ok := by
  unfold backB
  cases hl : x.marks.getLast? with
  | none => exact ok
  | some n =>
    have hmem : n ∈ x.marks := List.mem_of_getLast? hl
    obtain ⟨h0, h1⟩ := ok.marks n hmem
    have hsplit : tot x.recs = tot (x.recs.take n.toNat) + tot (x.recs.drop n.toNat) := by rw [← tot_append, List.take_append_drop]
    have := tot_nonneg (x.recs.drop n.toNat)
    have hlen := ok.len
    refine ⟨by simp; omega, fun r hr => ok.recs r (List.mem_of_mem_take hr), ?_, fun m hm => ?_, pairwise_dropLast ok.sorted⟩
    · rcases ok.size with ⟨h, h'⟩ | ⟨h, h'⟩
      · left; simp [h, h', tot]
      · right; exact ⟨by show x.size - tot (x.recs.drop n.toNat) = 12 + tot (x.recs.take n.toNat); omega, by show x.size - _ ≤ _; omega⟩
    · have hm' := List.dropLast_subset _ hm
      have hle : m ≤ n := by
        have hne : x.marks ≠ [] := List.ne_nil_of_mem hmem
        have hdl := List.dropLast_concat_getLast hne
        have hn' : x.marks.getLast hne = n := by
          rw [List.getLast?_eq_some_getLast hne] at hl; simpa using hl
        have hs := ok.sorted
        rw [← hdl, List.pairwise_append] at hs
        exact hn' ▸ hs.2.2 m hm _ (List.mem_singleton_self _)
      have := ok.marks m hm'
      refine ⟨this.1, ?_⟩
      simp only [List.length_take]; omega

theorem beq_refl (x : ByteArray) : (x == x) = true := by
  have : (x == x) = (x.data == x.data) := rfl
  rw [this]; simp

/-- Same lists are told to be the same. -/
theorem c13 {s t : Slc} {l : List Rec} {h : Heap} (a : Arr 4 Rec.lfs h s l) (b : Arr 4 Rec.lfs h t l) (hl : l.length ≤ 1099511627776) {R : Bool → Heap → Prop} (k : R true h) :
    Call Go.Proofs.Try.prog 13 [.lf (.slc s), .lf (.slc t)] h [.one .bool] R := by
  have h1 := a.len
  have h2 := b.len
  refine ok13 (Br.ne (fun hne => absurd hne (by omega)) fun _ => ⟨fun i h' d => ∃ m : Nat, i = m ∧ m ≤ l.length ∧ d = l.length - m ∧ h' = h, ⟨_, 0, rfl, by omega, rfl, rfl⟩, ?_⟩)
  rintro _ _ _ ⟨m, rfl, hm, rfl, rfl⟩
  refine Br.dec (fun hi => ?_) fun hi => k
  have hi' : m < l.length := by omega
  have hx : l[m]? = some l[m] := List.getElem?_eq_getElem hi'
  refine a.ix rfl hx fun b1 o1 c1 => ⟨_, _, _, _, c1, b.ix rfl hx fun b2 o2 c2 => ⟨_, _, _, _, c2, Br.f (by simp [beq_refl]) ⟨_, by omega, m + 1, ?_, by omega, rfl, rfl⟩⟩⟩
  rw [wi64 (by omega) (by omega)]; rfl

end Go.V.Ytclffphegfhocaa
