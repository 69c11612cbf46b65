/- This text proves a part of the laws of seat YtdeihieblljfcaaGreat, under no condition: F2a F2b F2c. -/
import Derived.Test.YtdeihieblljfcaaGreatPE
import Derived.Test.YtdeihieblljfcaaGreatPM
import Derived.Test.YtdeihieblljfcaaGreatPF
import Derived.Test.YtdeihieblljfcaaGreatPC
import Derived.Sort.Row
set_option linter.unusedVariables false
set_option linter.unusedSimpArgs false
/-! The disk's names and paths. -/
namespace Go.V.YtdeihieblljfcaaGreat
open Go Go.V

theorem get_tx {l : Tx} {j : Nat} (h : j < l.length) : (tx l).get! j = l[j] := by
  have : (tx l).get! j = l.toArray[j]! := rfl
  rw [this]
  simp [h]

theorem dec_plain {l : Tx} {p : Nat} (hp : p < l.length) : (l[p].toNat < 128 → decR (tx l) p = (l[p].toNat : Int) ∧ decW (tx l) p = 1) ∧ (128 ≤ l[p].toNat → 128 ≤ decR (tx l) p) := by
  have hb0 : ((tx l).get! (p + 0)).toNat = l[p].toNat := by rw [Nat.add_zero, get_tx hp]
  unfold decR decW
  unfold Utf8.decode
  simp only [hb0]
  by_cases c1 : l[p].toNat < 128
  · rw [if_pos c1]
    exact ⟨fun _ => ⟨rfl, rfl⟩, fun h => by omega⟩
  · rw [if_neg c1]
    refine ⟨fun h => absurd h c1, fun _ => ?_⟩
    have err : (128 : Int) ≤ ((Utf8.runeError : Nat) : Int) := by decide
    split
    · split
      · rename_i h; show (128 : Int) ≤ _; simp only; omega
      · exact err
    split
    · split
      · rename_i h; simp only [Bool.and_eq_true, decide_eq_true_eq] at h; show (128 : Int) ≤ _; simp only; omega
      · exact err
    split
    · split
      · rename_i h; simp only [Bool.and_eq_true, decide_eq_true_eq] at h; show (128 : Int) ≤ _; simp only; omega
      · exact err
    · exact err

def okC (c : UInt8) : Bool := decide (33 ≤ c.toNat ∧ c.toNat ≤ 126 ∧ c.toNat ≠ 47)
def okName (l : Tx) : Bool := decide (1 ≤ l.length ∧ l.length ≤ 32) && l.all okC

theorem v53 {r : Int} {h : Heap} {R : Bool → Heap → Prop} (k : ∀ b, (b = true ↔ (r < 33 ∨ 126 < r ∨ r = 47)) → R b h) : CallV Go.Proofs.Tryz.prog (.func (.func 180) #[] #[]) [.lf (.int .i32 r)] h [.one .bool] R := by
  refine .inl ⟨180, [], [], _, _, rfl, Go.Proofs.Tryz.func180, rfl, ok180 (Br.dec (fun h1 => k _ ⟨fun _ => .inl h1, fun _ => rfl⟩) fun h1 => Br.dec (fun h2 => k _ ⟨fun _ => .inr (.inl h2), fun _ => rfl⟩) fun h2 => k _ ?_)⟩
  rw [beq_iff_eq]
  exact ⟨fun h => .inr (.inr h), fun h => by omega⟩

theorem c212 {l : Tx} {h : Heap} {R : Int → Heap → Prop} (k : ∀ (i : Int) h', Ext0 h h' → (i < 0 ↔ ∀ c ∈ l, okC c = true) → R i h') :
    Call Go.Proofs.Tryz.prog 212 [.lf (.str (tx l)), .lf (.raw (.func (.func 180) #[] #[])), .lf (.bool true)] h [.one (.int .i64)] R := by
  refine ok212 ?_
  intro b0 h1 hb0 hh1
  have e1 : Ext0 h h1 := hh1 ▸ push_ext h _
  have hit : h1[b0]? = some (.stringIter (tx l) 0) := by subst hh1; subst hb0; simp
  refine ⟨fun hh n => ∃ p : Nat, hh[b0]? = some (.stringIter (tx l) p) ∧ p ≤ l.length ∧ Ext0 h hh ∧ (∀ j (hj : j < l.length), j < p → okC l[j] = true) ∧ n = l.length - p, ⟨_, 0, hit, by omega, e1, fun j hj x => absurd x (by omega), rfl⟩, ?_⟩
  rintro h4 _ ⟨p, hb, hp, e4, hg, rfl⟩
  have hlt4 : b0 < h4.size := size_pos_of_getElem? hb
  refine ⟨tx l, p, hb, fun hge => ?_, fun hlt h9 hh9 => ?_⟩
  · rw [tx_size] at hge
    refine k _ _ e4 ⟨fun _ c hc => ?_, fun _ => by omega⟩
    obtain ⟨j, hj, rfl⟩ := List.getElem_of_mem hc
    exact hg j hj (by omega)
  · rw [tx_size] at hlt
    have e9 : Ext (fun x => x = b0) h4 h9 := hh9 ▸ set_ext h4 b0 _
    have e09 : Ext0 h h9 := e4.trans' e9 fun i hi x => by subst x; omega
    obtain ⟨d1, d2⟩ := dec_plain hlt
    refine v53 fun b hb' => ?_
    have bad : okC l[p] = false → R (p : Int) h9 := fun x => k _ _ e09 ⟨fun y => by omega, fun y => by rw [y _ (List.getElem_mem hlt)] at x; cases x⟩
    have hcmp : (b == true) = b := by cases b <;> rfl
    rw [hcmp]
    refine Br.mk (fun hb1 => bad ?_) fun hb0' => ?_
    · have := hb'.1 hb1
      unfold okC
      rw [decide_eq_false_iff_not]
      intro hx
      by_cases hc : l[p].toNat < 128
      · have := (d1 hc).1; omega
      · omega
    · have hn : ¬ (decR (tx l) p < 33 ∨ 126 < decR (tx l) p ∨ decR (tx l) p = 47) := fun x => by rw [hb'.2 x] at hb0'; cases hb0'
      have hc : l[p].toNat < 128 := Nat.lt_of_not_le fun x => by have := d2 x; omega
      obtain ⟨r1, r2⟩ := d1 hc
      refine ⟨l.length - (p + 1), by omega, p + 1, ?_, by omega, e09, fun j hj x => ?_, rfl⟩
      · subst hh9; rw [r2]; simp [hlt4]
      · by_cases hjp : j = p
        · subst hjp
          unfold okC
          rw [decide_eq_true_eq]; omega
        · exact hg j hj (by omega)

theorem c102 {l : Tx} {h : Heap} {R : Bool → Heap → Prop} (k : ∀ h', Ext0 h h' → R (okName l) h') : Call Go.Proofs.Tryz.prog 102 [.lf (.str (tx l))] h [.one .bool] R := by
  have kf : okName l = false → R false h := fun x => by have := k h (Ext.refl _ _); rw [x] at this; exact this
  refine ok102 (Br.dec (fun h1 => Br.dec (fun h2 => ok179 (c212 fun i h' e hi => ?_)) fun h2 => kf ?_) fun h1 => kf ?_)
  · rw [tx_size] at h1 h2
    have : decide (i < 0) = okName l := by
      unfold okName
      rw [decide_eq_true (by omega : 1 ≤ l.length ∧ l.length ≤ 32), Bool.true_and, Bool.eq_iff_iff, decide_eq_true_eq, List.all_eq_true]
      exact hi
    rw [this]
    exact k h' e
  · rw [tx_size] at h2
    unfold okName
    rw [decide_eq_false (by omega)]; rfl
  · rw [tx_size] at h1
    unfold okName
    rw [decide_eq_false (by omega)]; rfl

end Go.V.YtdeihieblljfcaaGreat
set_option maxRecDepth 100000
/-! The library: Cut, Sort of texts, Clone of names, the keys of a map in order. -/
namespace Go.V.YtdeihieblljfcaaGreat
open Go Go.V Go.Lib Go.Proofs Go.Sort

def MaxL (h : Heap) : Prop := ∃ c t fz m, h[0]? = some (.cells c t fz) ∧ c[0]? = some (Value.int .i64 m)

theorem c181 {l p : Tx} (hl : l.length < 4294967281) {h : Heap} (D : MaxL h) {R : ByteArray → ByteArray → Bool → Heap → Prop} (k : R (tx (cut l p).1) (tx (cut l p).2.1) (cut l p).2.2 h) :
    Call Tryz.prog 181 [.lf (.str (tx l)), .lf (.str (tx p))] h [.one .str, .one .str, .one .bool] R := by
  intro W hW
  subst hW
  obtain ⟨c, t, fz, m, hb, hc⟩ := D
  have hcell : W.cell? ⟨0, 0, none⟩ = some (.int .i64 m) := by
    unfold World.cell?
    simp only [hb]
    exact hc
  have := Any.strings_Cut lays145 (tx l) (tx p) m W (by rw [tx_size]; exact hl) hcell
  rw [tx_list, tx_list] at this
  refine this.mono fun e W' ⟨he, n, hw⟩ => ?_
  subst hw
  exact ⟨⟨rfl, rfl, rfl⟩, _, _, _, he, k⟩

theorem push_at (h : Heap) (o : Obj) : (h.push o)[h.size]? = some o := by simp

theorem c182 {β : Type} {h : Heap} {r : Nat} {f : β → List Lf} {l : List (ByteArray × β)} (M : MapR h r .str (.one .ptr) f l) {R : Option Nat → Heap → Prop}
    (k : ∀ r' h', r' = h.size → h'.size = h.size + 1 → Ext0 h h' → MapR h' r' .str (.one .ptr) f l → R (some r') h') : Call Tryz.prog 182 [.lf (.map (some r))] h [.one .map] R := by
  intro W hW
  subst hW
  obtain ⟨⟨es, clock, hb, h1, h2, h3⟩, hn⟩ := M
  refine (AnyW.maps_Clone laysW5 r _ clock W hb).mono fun e W' ⟨he, hw⟩ => ?_
  subst hw
  refine ⟨⟨rfl, rfl, rfl⟩, some W.heap.size, he, k _ _ rfl (by show (W.heap.push _).size = _; rw [Array.size_push]) (push_ext _ _) ⟨⟨es, clock, ?_, h1, h2, h3⟩, hn⟩⟩
  exact push_at W.heap _

def sF : Tx → List Lf := fun w => [.str (tx w)]
theorem sF_sized : Sized 1 sF := fun _ => rfl
def sortT (l : List Tx) : List Tx := l.mergeSort fun x y => decide (x ≤ y)
theorem sortT_perm (l : List Tx) : (sortT l).Perm l := List.mergeSort_perm _ _
theorem sF_vals (l : List Tx) : (l.flatMap sF).map Lf.val = l.map fun w => Value.string (tx w) := by
  induction l with
  | nil => rfl
  | cons w l ih => rw [List.flatMap_cons, List.map_append, ih]; rfl

theorem c184 {s : Slc} {l : List Tx} {h : Heap} (o : Own 1 sF h s l) (hl : l.length ≤ 4398046511104) {R : Heap → Prop}
    (k : ∀ h', Own 1 sF h' s (sortT l) → Ext (fun b => ∃ off, s.a = some (b, off)) h h' → R h') : Call Tryz.prog 184 [.lf (.slc s)] h [] R := by
  have hlen := o.len
  have hlec := o.lec
  have hsort : (sortT l).length = l.length := (sortT_perm l).length_eq
  intro W hW
  subst hW
  rcases o.blk with ⟨ha, hc⟩ | ⟨b, c, e, ha, hb, hsz, htk⟩
  · have h0 : l = [] := List.length_eq_zero_iff.1 (by omega)
    subst h0
    have hv : (Lf.slc s).val = .slice none 0 s.cap := by
      show Value.slice (sadr s) s.len s.cap = _
      rw [sadr_none ha, hlen]; rfl
    have := Any.slices_Sort_string_none lays190 none s.cap W
    show Calls Tryz.prog 184 #[(Lf.slc s).val] W _
    rw [hv]
    refine this.mono fun e W' ⟨he, hw⟩ => ?_
    subst hw
    exact ⟨Out.refl _, he, k _ (by simpa [sortT] using o) (Ext.refl _ _)⟩
  · have hpl : @Sp.v s.sp = none := o.pl
    have hv : (Lf.slc s).val = .slice (some ⟨b, 0, none⟩) l.length s.cap := by
      show Value.slice (sadr s) s.len s.cap = _
      rw [sadr_plain o.pl, ha, hlen]; rfl
    rw [sF_vals, Nat.mul_one] at htk
    have hcj : ∀ j (hj : j < l.length), c[j]? = some (.string (tx l[j])) := fun j hj => by
      have h1 : (c.toList.take l.length)[j]? = (l.map fun w => Value.string (tx w))[j]? := by rw [htk]
      rw [List.getElem?_take, if_pos hj, List.getElem?_map, List.getElem?_eq_getElem hj] at h1
      rw [← Array.getElem?_toList, h1]; rfl
    have hH : Holds encStr W b 0 l.toArray := fun j hj => by
      have hj' : j < l.length := by simpa using hj
      constructor
      · unfold World.cell?
        simp only [hb, Nat.zero_add]
        rw [hcj j hj', getElem!_pos l.toArray j hj]
        rfl
      · unfold World.frozen?
        simp [hb]
    show Calls Tryz.prog 184 #[(Lf.slc s).val] W _
    rw [hv]
    refine (Any.slices_Sort_string lays190 b 0 s.cap l W hH (size_pos_of_getElem? hb) (by omega)).mono fun e' W' ⟨he, n, os, hw⟩ => ?_
    have hheap : W'.heap = (W.heap.modify b (onCells (putCells encStr 0 (sortT l).toArray))) ++ os := by rw [hw]; rfl
    have hblt : b < W.heap.size := size_pos_of_getElem? hb
    have hext : Ext (fun x => ∃ off, s.a = some (x, off)) W.heap W'.heap := by
      rw [hheap]
      refine ⟨by simp, fun i hi hne => ?_⟩
      rw [Array.getElem?_append_left (by simpa using hi), Array.getElem?_modify, if_neg fun x => hne ⟨0, by rw [← x]; exact ha⟩]
    refine ⟨by rw [hw]; exact ⟨rfl, rfl, rfl⟩, he, k _ ⟨by rw [hsort]; exact hlen, hlec, .inr ⟨b, putCells encStr 0 (sortT l).toArray c, e, ha, ?_, ?_, ?_⟩, o.pl⟩ hext⟩
    · rw [hheap, Array.getElem?_append_left (by simpa using hblt), Array.getElem?_modify, if_pos rfl, hb]
      rfl
    · simp [putCells, hsz]
    · rw [sF_vals, Nat.mul_one]
      apply List.ext_getElem?
      intro j
      rw [List.getElem?_take, List.getElem?_map]
      by_cases hj : j < (sortT l).length
      · rw [if_pos hj, Array.getElem?_toList]
        unfold putCells
        have hjc : j < c.size := by rw [hsz]; omega
        rw [Array.getElem?_mapIdx, Array.getElem?_eq_getElem hjc, Option.map_some, if_pos ⟨Nat.zero_le _, by simpa using hj⟩, List.getElem?_eq_getElem hj, getElem!_pos (sortT l).toArray (j - 0) (by simpa using hj)]
        simp
        rfl
      · rw [if_neg hj, List.getElem?_eq_none (by omega)]
        rfl

end Go.V.YtdeihieblljfcaaGreat
/-! A map's keys, in order. -/
namespace Go.V.YtdeihieblljfcaaGreat
open Go Go.V

def SeqT (v : Value) (h : Heap) (xs : List Tx) : Prop :=
  ∀ (h1 : Heap), Ext0 h h1 → ∀ (y : Value) (J : List Tx → Heap → Prop), J [] h1 →
    (∀ pre hh hh', J pre hh → Ext (fun b => IsIt hh b ∧ h1.size ≤ b) hh hh' → J pre hh') →
    (∀ pre x rest hh, J pre hh → xs.Perm (pre ++ x :: rest) → ∀ R : Bool → Heap → Prop, (∀ hh', J (pre ++ [x]) hh' → Ext (NoMap hh) hh hh' → R true hh') →
      CallV Go.Proofs.Tryz.prog y [.lf (.str (tx x))] hh [.one .bool] R) →
    ∀ R : Heap → Prop, (∀ ys h', ys.Perm xs → J ys h' → R h') → CallF Go.Proofs.Tryz.prog v [.lf (.raw y)] h1 [] R

def pF : Nat → List Lf := fun b => [.ptr (some (b, 0))]
def MapN (h : Heap) (r : Nat) (L : List (Tx × Nat)) : Prop := MapR h r .str (.one .ptr) pF (L.map fun p => (tx p.1, p.2))

theorem seq76 {h : Heap} {b0 m : Nat} {L : List (Tx × Nat)} (hb : Blk h b0 107 [.map (some m)]) (M : MapN h m L) :
    SeqT (.func (.func 186) #[] #[.pointer (some ⟨b0, 0, none⟩)]) h (L.map (·.1)) := by
  have hL : ∀ l : List (ByteArray × Nat), l.map (fun x => x.1.data.toList) = (l.map (·.1)).map fun x => x.data.toList := fun l => by simp
  intro h1 e01 y J hJ hst hrd R k
  have hkeys : (L.map fun p => (tx p.1, p.2)).map (fun x : ByteArray × Nat => x.1.data.toList) = L.map (·.1) := by
    rw [List.map_map]
    apply List.map_congr_left
    intro p _
    exact tx_list p.1
  refine ⟨186, [], [.lf (.ptr (some (b0, 0)))], _, _, rfl, Go.Proofs.Tryz.func186, rfl, ok186 ⟨some m, (hb.ext e01).cell rfl, ?_⟩⟩
  refine Iter.start (M.ext e01) fun it h2 hit hs2 e2 I2 => ?_
  have J2 : J [] h2 := hst _ _ _ hJ e2.of0
  refine ⟨fun hh n => ∃ seen, J (seen.map fun x : ByteArray × Nat => x.1.data.toList) hh ∧ Iter hh it m .str (.one .ptr) pF (L.map fun p => (tx p.1, p.2)) seen ∧ n = L.length - seen.length, ⟨_, [], J2, I2, rfl⟩, ?_⟩
  rintro h5 n ⟨seen, J5, I5, rfl⟩
  refine I5.next (fun hp => k _ _ (by rw [← hkeys]; exact hp.map _) J5) fun x rest h10 hperm hs10 e10 I10 E10 => ?_
  refine ⟨x.1, some (x.2, 0), E10, ?_⟩
  have hi5 : IsIt h5 it := by
    obtain ⟨ps, done, rest', clock, sn, g1, _⟩ := I5.rep
    exact ⟨_, _, _, _, g1⟩
  have J10 : J (seen.map fun x : ByteArray × Nat => x.1.data.toList) h10 := hst _ _ _ J5 (e10.mono fun i hi => by subst hi; exact ⟨hi5, by omega⟩)
  have hlen : L.length = seen.length + (rest.length + 1) := by have := hperm.length_eq; simpa using this
  have hx : x.1 = tx x.1.data.toList := (tx_eta x.1).symm
  rw [hx]
  refine hrd _ x.1.data.toList (rest.map fun x : ByteArray × Nat => x.1.data.toList) h10 J10 (by rw [← hkeys]; simpa using hperm.map fun x : ByteArray × Nat => x.1.data.toList) _ fun h14 J14 e14 => Br.f rfl ⟨L.length - (seen ++ [x]).length, by simp; omega, seen ++ [x], by simpa using J14, ?_, rfl⟩
  refine I10.ext e14 (fun hn => hn.2 ?_) fun hn => ?_
  · obtain ⟨ps, done, rest', clock, sn, g1, _⟩ := I10.rep
    exact ⟨_, _, _, _, g1⟩
  · obtain ⟨ps, done, rest', clock, sn, g1, g2, _⟩ := I10.rep
    exact hn.1 _ _ g2

theorem seq77 {h : Heap} {b0 m : Nat} {L : List (Tx × Nat)} (hb : Blk h b0 113 [.map (some m)]) (M : MapN h m L) :
    SeqT (.func (.func 185) #[] #[.pointer (some ⟨b0, 0, none⟩)]) h (L.map (·.1)) := by
  have hL : ∀ l : List (ByteArray × Nat), l.map (fun x => x.1.data.toList) = (l.map (·.1)).map fun x => x.data.toList := fun l => by simp
  intro h1 e01 y J hJ hst hrd R k
  have hkeys : (L.map fun p => (tx p.1, p.2)).map (fun x : ByteArray × Nat => x.1.data.toList) = L.map (·.1) := by
    rw [List.map_map]
    apply List.map_congr_left
    intro p _
    exact tx_list p.1
  refine ⟨185, [], [.lf (.ptr (some (b0, 0)))], _, _, rfl, Go.Proofs.Tryz.func185, rfl, ok185 ⟨some m, (hb.ext e01).cell rfl, ?_⟩⟩
  refine Iter.start (M.ext e01) fun it h2 hit hs2 e2 I2 => ?_
  have J2 : J [] h2 := hst _ _ _ hJ e2.of0
  refine ⟨fun hh n => ∃ seen, J (seen.map fun x : ByteArray × Nat => x.1.data.toList) hh ∧ Iter hh it m .str (.one .ptr) pF (L.map fun p => (tx p.1, p.2)) seen ∧ n = L.length - seen.length, ⟨_, [], J2, I2, rfl⟩, ?_⟩
  rintro h5 n ⟨seen, J5, I5, rfl⟩
  refine I5.next (fun hp => k _ _ (by rw [← hkeys]; exact hp.map _) J5) fun x rest h10 hperm hs10 e10 I10 E10 => ?_
  refine ⟨x.1, some (x.2, 0), E10, ?_⟩
  have hi5 : IsIt h5 it := by
    obtain ⟨ps, done, rest', clock, sn, g1, _⟩ := I5.rep
    exact ⟨_, _, _, _, g1⟩
  have J10 : J (seen.map fun x : ByteArray × Nat => x.1.data.toList) h10 := hst _ _ _ J5 (e10.mono fun i hi => by subst hi; exact ⟨hi5, by omega⟩)
  have hlen : L.length = seen.length + (rest.length + 1) := by have := hperm.length_eq; simpa using this
  have hx : x.1 = tx x.1.data.toList := (tx_eta x.1).symm
  rw [hx]
  refine hrd _ x.1.data.toList (rest.map fun x : ByteArray × Nat => x.1.data.toList) h10 J10 (by rw [← hkeys]; simpa using hperm.map fun x : ByteArray × Nat => x.1.data.toList) _ fun h14 J14 e14 => Br.f rfl ⟨L.length - (seen ++ [x]).length, by simp; omega, seen ++ [x], by simpa using J14, ?_, rfl⟩
  refine I10.ext e14 (fun hn => hn.2 ?_) fun hn => ?_
  · obtain ⟨ps, done, rest', clock, sn, g1, _⟩ := I10.rep
    exact ⟨_, _, _, _, g1⟩
  · obtain ⟨ps, done, rest', clock, sn, g1, g2, _⟩ := I10.rep
    exact hn.1 _ _ g2

theorem c215 {h : Heap} {v : Value} {xs : List Tx} (hv : SeqT v h xs) (hl : xs.length ≤ 4398046511104) {R : Slc → Heap → Prop}
    (k : ∀ ys s' h', ys.Perm xs → Own 1 sF h' s' ys → Fresh h h' s' → R s' h') : Call Go.Proofs.Tryz.prog 215 [.lf (.slc ⟨none, 0, 0⟩), .lf (.raw v)] h [.one .slc] R := by
  refine ok215 (New.mk fun b0 h1 hb0 hs1 e1 k1 lp => LoopC.mk fun D l h5 hD hll hs5 e5 hd5 ha5 hround => ?_)
  have e05 : Ext0 h h5 := e1.trans e5
  have hb0l : b0 < h5.size := by omega
  refine hv h5 e05 (yv l) (fun pre hh => ∃ s, LAt hh l lp ∧ hh[D]? = some (.deferred (some [])) ∧ Blk hh b0 66 [.slc s] ∧ Own 1 sF hh s pre ∧ (Ext0 h hh ∧ h5.size ≤ hh.size) ∧ (∀ b off, s.a = some (b, off) → h5.size ≤ b))
    ⟨⟨none, 0, 0⟩, ha5, hd5, k1.ext e5, Own.nil _ _ _, ⟨e05, Nat.le_refl _⟩, fun b off e => by cases e⟩ ?_ ?_ _ ?_
  · rintro pre hh hh' ⟨s, a1, a2, a3, a4, a5, a6⟩ e
    have hD : D < hh.size := size_pos_of_getElem? a2
    refine ⟨s, a1.ext e fun x => a1.noIt.2 x.1, (e.same D hD fun ⟨⟨_, _, _, _, x⟩, _⟩ => by rw [a2] at x; cases x).trans a2, a3.ext e fun x => a3.noIt.2 x.1, a4.ext e fun ⟨b, off, h1, x⟩ => (a4.noIt h1).2 x.1,
      ⟨a5.1.trans' e fun i hi x => ?_, Nat.le_trans a5.2 e.size⟩, a6⟩
    have := x.2; have := e05.size; omega
  · rintro pre x rest hh ⟨s, a1, a2, a3, a4, a5, a6⟩ hperm Q hQ
    refine hround hh Q a1 (tx x) (LBusy.mk a1 fun h9 hs9 e9 l9 => ?_)
    have hDl : ¬ D = l := by omega
    have hb0n : ¬ b0 = l := by omega
    have a3' : Blk h9 b0 66 [.slc s] := a3.ext e9 hb0n
    have a4' : Own 1 sF h9 s pre := a4.ext e9 fun ⟨b, off, h1, x⟩ => by have := a6 _ _ h1; have : b = l := x; omega
    refine ⟨s, a3'.cell rfl, New.mk fun b11 h12 hb11 hs12 e12 k12 => ?_⟩
    have ax : Arr 1 sF h12 ⟨some (b11, 0), 1, 1⟩ [x] := (Own.new (l := [x]) (sz := 1) (f := sF) sF_sized (by simpa [sF] using k12)).arr sF_sized
    have hlen : pre.length + 1 ≤ xs.length := by have := hperm.length_eq; simp at this; omega
    refine AppC.grow sF_sized (by omega) rfl (a4'.ext0 e12) ax (by simp; omega) fun s13 h14 o14 g14 => ?_
    have hb9 : b0 < h12.size := by have := a3'.lt; omega
    have a3'' : Blk h14 b0 66 [.slc s] := (a3'.ext e12).ext g14.ext fun ⟨off, x⟩ => by have := a6 _ _ x; omega
    refine StC.one a3'' (x := .slc s13) (by simp) fun h15 hs15 k15 e15 => ?_
    have hll9 : l < h9.size := size_pos_of_getElem? l9
    have new13 : ∀ b off, s13.a = some (b, off) → h5.size ≤ b := by
      intro b off hb
      rcases g14.new with g | ⟨b', g, gb⟩
      · exact a6 b off (g ▸ hb)
      · rw [g] at hb; cases hb
        have := a5.2; omega
    have l15 : h15[l]? = some (lobj lp .busy) := by
      rw [e15.same l (by have := g14.ext.size; omega) (by omega), g14.ext.same l (by omega) fun ⟨off, x⟩ => by have := a6 _ _ x; omega, e12.same l hll9 id]
      exact l9
    refine LReady.mk l15 fun h16 hs16 e16 l16 => ?_
    have E : Ext (fun b => b = l ∨ b = b0 ∨ ∃ off, s.a = some (b, off)) hh h16 :=
      ((((e9.mono fun i x => .inl x).trans e12.of0).trans (g14.ext.mono fun i x => .inr (.inr x))).trans (e15.mono fun i x => .inr (.inl x))).trans (e16.mono fun i x => .inl x)
    have hDs := size_pos_of_getElem? a2
    have hs0 := e05.size
    refine hQ h16 ⟨s13, l16, ?_, ?_, ?_, ⟨?_, ?_⟩, new13⟩ ?_
    · refine (E.same D hDs ?_).trans a2
      rintro (x | x | ⟨off, x⟩)
      · omega
      · omega
      · have := a6 _ _ x; omega
    · exact (by simpa using k15 : Blk h15 b0 66 [.slc s13]).ext e16 hb0n
    · exact (o14.ext e15 fun ⟨b, off, h1, x⟩ => by have := new13 _ _ h1; have : b = b0 := x; omega).ext e16 fun ⟨b, off, h1, x⟩ => by have := new13 _ _ h1; have : b = l := x; omega
    · refine a5.1.trans' E fun i hi x => ?_
      rcases x with x | x | ⟨off, x⟩
      · omega
      · omega
      · have := a6 _ _ x; omega
    · have := E.size; have := a5.2; omega
    · refine E.mono fun i x => ?_
      rcases x with rfl | rfl | ⟨off, x⟩
      · exact a1.noIt
      · exact a3.noIt
      · exact a4.noIt x
  · rintro ys h19 hp ⟨s, a1, a2, a3, a4, a5, a6⟩
    refine LEnd.mk a1 fun h20 hs20 e20 => ?_
    have hDl : ¬ D = l := by omega
    have hb0n : ¬ b0 = l := by omega
    have hDs := size_pos_of_getElem? a2
    refine ⟨s, (a3.ext e20 hb0n).cell rfl, CollC.mk ((e20.same D hDs hDl).trans a2) fun h22 hs22 e22 => k ys s h22 hp ?_ ⟨?_, fun b off hb => ?_⟩⟩
    · exact (a4.ext e20 fun ⟨b, off, h1, x⟩ => by have := a6 _ _ h1; have : b = l := x; omega).ext e22 fun ⟨b, off, h1, x⟩ => by have := a6 _ _ h1; have : b = D := x; omega
    · exact (a5.1.trans' e20 fun i hi x => by have : i = l := x; omega).trans' e22 fun i hi x => by have : i = D := x; omega
    · have := a6 _ _ hb; have := e05.size; omega

theorem leT_trans (a b c : Tx) : decide (a ≤ b) = true → decide (b ≤ c) = true → decide (a ≤ c) = true := by
  simp only [decide_eq_true_eq]; exact fun h1 h2 => List.le_trans h1 h2
theorem leT_total (a b : Tx) : (decide (a ≤ b) || decide (b ≤ a)) = true := by
  simp only [Bool.or_eq_true, decide_eq_true_eq]; exact List.le_total a b
theorem sortT_sorted (l : List Tx) : (sortT l).Pairwise (fun a b => a ≤ b) := by
  have := List.pairwise_mergeSort (le := fun x y : Tx => decide (x ≤ y)) leT_trans leT_total l
  exact this.imp fun h => by simpa using h
theorem sortT_of_perm {a b : List Tx} (h : a.Perm b) : sortT a = sortT b := by
  refine List.Perm.eq_of_pairwise (le := fun a b : Tx => a ≤ b) (fun x y _ _ h1 h2 => List.le_antisymm h1 h2) (sortT_sorted a) (sortT_sorted b) ?_
  exact ((sortT_perm a).trans h).trans (sortT_perm b).symm

theorem c107 {h : Heap} {v : Value} {xs : List Tx} (hv : SeqT v h xs) (hl : xs.length ≤ 100000) {R : Slc → Heap → Prop}
    (k : ∀ s' h', Own 1 sF h' s' (sortT xs) → Fresh h h' s' → R s' h') : Call Go.Proofs.Tryz.prog 107 [.lf (.raw v)] h [.one .slc] R := by
  refine ok107 (ok183 (c215 hv (by omega) fun ys s h1 hp o f => c184 o (by have := hp.length_eq; omega) fun h2 o2 e2 => k s h2 ?_ ⟨f.ext.trans' e2 fun i hi ⟨off, x⟩ => by have := f.new _ _ x; omega, f.new⟩))
  have : sortT ys = sortT xs := sortT_of_perm hp
  rw [← this]; exact o2
theorem keysD {h : Heap} {m : Nat} {L : List (Tx × Nat)} (M : MapN h m L) (hl : L.length ≤ 100000) {R : Slc → Heap → Prop}
    (k : ∀ s' h', Own 1 sF h' s' (sortT (L.map (·.1))) → Fresh h h' s' → R s' h') :
    Call Go.Proofs.Tryz.prog 110 [.lf (.map (some m))] h [.one .raw] fun x h1 => Call Go.Proofs.Tryz.prog 107 [.lf (.raw x)] h1 [.one .slc] R :=
  ok110 (New.mk fun b0 h1 hb0 hs1 e1 k1 => c107 (seq76 k1 (M.ext e1)) (by simpa using hl) fun s' h' o f => k s' h' o ⟨e1.trans f.ext, fun b off hb => Nat.le_trans e1.size (f.new b off hb)⟩)
theorem keysN {h : Heap} {m : Nat} {L : List (Tx × Nat)} (M : MapN h m L) (hl : L.length ≤ 100000) {R : Slc → Heap → Prop}
    (k : ∀ s' h', Own 1 sF h' s' (sortT (L.map (·.1))) → Fresh h h' s' → R s' h') :
    Call Go.Proofs.Tryz.prog 108 [.lf (.map (some m))] h [.one .raw] fun x h1 => Call Go.Proofs.Tryz.prog 107 [.lf (.raw x)] h1 [.one .slc] R :=
  ok108 (New.mk fun b0 h1 hb0 hs1 e1 k1 => c107 (seq77 k1 (M.ext e1)) (by simpa using hl) fun s' h' o f => k s' h' o ⟨e1.trans f.ext, fun b off hb => Nat.le_trans e1.size (f.new b off hb)⟩)

end Go.V.YtdeihieblljfcaaGreat
