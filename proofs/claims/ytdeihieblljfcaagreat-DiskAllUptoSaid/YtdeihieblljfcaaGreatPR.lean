/- This text proves a part of the laws of seat YtdeihieblljfcaaGreat, under no condition: F2v F2w. -/
import Derived.Test.YtdeihieblljfcaaGreatPQ
set_option linter.unusedVariables false
set_option linter.unusedSimpArgs false
/-! All paths in order; how many bytes. -/
namespace Go.V.YtdeihieblljfcaaGreat
open Go Go.V

def keysOf (m : List (Tx × Nat)) : List Tx := sortT (m.map (·.1))
def walkD (σ : Dk) (d : Tx) : List (Tx × Nat) := match (look d σ.dirs).bind σ.at with
  | some (_, m) => (keysOf m).map fun n => (d ++ 47 :: n, (look n m).getD 0)
  | none => []
def walkL (σ : Dk) : List (Tx × Nat) := (keysOf σ.dirs).flatMap (walkD σ)

theorem look_isSome {n : Tx} {m : List (Tx × Nat)} (h : n ∈ m.map (·.1)) : ∃ x, look n m = some x := by
  cases hl : look n m with
  | some x => exact ⟨x, rfl⟩
  | none =>
    obtain ⟨p, hp, rfl⟩ := List.mem_map.1 h
    exact absurd rfl (look_none hl p hp)
theorem keysOf_mem {n : Tx} {m : List (Tx × Nat)} : n ∈ keysOf m ↔ n ∈ m.map (·.1) := (sortT_perm _).mem_iff
theorem keysOf_len (m : List (Tx × Nat)) : (keysOf m).length = m.length := by rw [keysOf, (sortT_perm _).length_eq, List.length_map]

def bF (c : Bool) : List Lf := [.bool c]
def SeenM (h : Heap) (b : Nat) (xs : List Nat) : Prop := ∃ L : List Nat, (∀ x, x ∈ L ↔ x ∈ xs) ∧ MapR h b .ptr (.one .bool) bF (L.map fun p => ((some (p, 0), true) : Option (Nat × Nat) × Bool))

theorem aput_allN {x : Nat} {l : List Nat} (hx : x ∉ l) : aput .ptr (some (x, 0)) true (l.map fun p => ((some (p, 0), true) : Option (Nat × Nat) × Bool)) = (l ++ [x]).map fun p => (some (p, 0), true) := by
  rw [aput_new (kt := .ptr) trivial]
  · simp
  · intro y hy
    obtain ⟨p, hp, rfl⟩ := List.mem_map.1 hy
    intro he
    simp at he
    subst he; exact hx hp
theorem aput_allI {x : Nat} : ∀ {l : List Nat}, x ∈ l → aput .ptr (some (x, 0)) true (l.map fun p => ((some (p, 0), true) : Option (Nat × Nat) × Bool)) = l.map fun p => (some (p, 0), true)
  | [], h => by cases h
  | p :: r, h => by
    show (if keq .ptr (some (x, 0)) (some (p, 0)) = true then _ else _) = _
    have hk : keq .ptr (some (x, 0)) (some (p, 0)) = decide (x = p) := by
      show decide _ = decide _
      rw [Bool.eq_iff_iff]; simp
    rw [hk]
    by_cases hxp : x = p
    · rw [if_pos (decide_eq_true hxp)]; subst hxp; rfl
    · rw [if_neg (by simpa using hxp)]
      rcases List.mem_cons.1 h with rfl | h
      · exact absurd rfl hxp
      · rw [aput_allI h]; rfl

theorem SeenM.look {h : Heap} {b : Nat} {xs : List Nat} (M : SeenM h b xs) {x : Nat} (hx : plainAt h x) (hp : ∀ y ∈ xs, plainAt h y) : ∃ c, LookR h .ptr (.one .bool) [.bool false] (some b) (some (x, 0)) [.bool (decide (x ∈ xs))] c := by
  obtain ⟨L, hL, M⟩ := M
  have ko : KeysOk h .ptr (some (x, 0)) (L.map fun p => ((some (p, 0), true) : Option (Nat × Nat) × Bool)) := fun e he => by
    obtain ⟨p, hpL, rfl⟩ := List.mem_map.1 he
    exact .inr ⟨hx, hp p ((hL p).1 hpL)⟩
  by_cases hm : x ∈ xs
  · rw [decide_eq_true hm]
    exact ⟨_, MapR.hit M trivial (k := some (x, 0)) (v := true) (List.mem_map.2 ⟨x, (hL x).2 hm, rfl⟩) ko _ rfl⟩
  · rw [decide_eq_false hm]
    refine ⟨_, MapR.miss M trivial (k := some (x, 0)) (fun e he => ?_) ko _⟩
    obtain ⟨p, hpL, rfl⟩ := List.mem_map.1 he
    intro z; simp at z; subst z; exact hm ((hL p).1 hpL)
theorem SeenM.put {h : Heap} {b : Nat} {xs : List Nat} (M : SeenM h b xs) {x : Nat} (hx : plainAt h x) (hp : ∀ y ∈ xs, plainAt h y) {K : Heap → Prop} (k : ∀ h', h'.size = h.size → SeenM h' b (xs ++ [x]) → Ext (fun i => i = b) h h' → K h') :
    UpdC .ptr (.one .bool) h (some b) (some (x, 0)) [.bool true] K := by
  obtain ⟨L, hL, M⟩ := M
  have ko : KeysOk h .ptr (some (x, 0)) (L.map fun p => ((some (p, 0), true) : Option (Nat × Nat) × Bool)) := fun e he => by
    obtain ⟨p, hpL, rfl⟩ := List.mem_map.1 he
    exact .inr ⟨hx, hp p ((hL p).1 hpL)⟩
  refine MapR.put M trivial ko (v := true) rfl fun h' hs M' e => k h' hs ?_ e
  by_cases hm : x ∈ L
  · rw [aput_allI hm] at M'
    refine ⟨L, fun y => ?_, M'⟩
    rw [List.mem_append, List.mem_singleton, hL]
    exact ⟨.inl, fun z => z.elim id fun z => by subst z; exact (hL y).1 hm⟩
  · rw [aput_allN hm] at M'
    refine ⟨L ++ [x], fun y => ?_, M'⟩
    rw [List.mem_append, List.mem_append, hL]
theorem SeenM.ext {S : Nat → Prop} {h h' : Heap} {b : Nat} {xs : List Nat} (M : SeenM h b xs) (e : Ext S h h') (hs : ¬ S b) : SeenM h' b xs := let ⟨L, hL, M⟩ := M; ⟨L, hL, MapR.ext M e hs⟩
theorem SeenM.lt {h : Heap} {b : Nat} {xs : List Nat} (M : SeenM h b xs) : b < h.size := let ⟨_, _, M⟩ := M; MapR.lt M

theorem c50 {h : Heap} {lab : Labs} {f D : Nat} {σ : Dk} (R0 : DR h lab f D σ) (W : Wf σ) {R : Slc → Heap → Prop}
    (k : ∀ s' h', Own 1 sF h' s' (keysOf σ.dirs) → Fresh h h' s' → R s' h') : Call Go.Proofs.Tryz.prog 50 [.lf (.ptr (some (f, 0)))] h [.one .slc] R :=
  ok50 (NilC.mk rfl ⟨_, R0.blk.cell rfl, keysD R0.dm (by have := W.most; omega) k⟩)

theorem okName_len {l : Tx} (h : okName l = true) : l.length ≤ 32 := by
  unfold okName at h
  simp at h
  exact h.1.2

theorem c45 {h0 : Heap} {lab : Labs} {f D : Nat} {σ : Dk} (X : DW h0 lab f D σ) {v : Value} {J : List (Tx × Nat) → Heap → (Nat → Prop) → Prop} {G0 : Nat → Prop}
    (hG0 : ∀ i, G0 i → i < h0.size ∧ lab i ≠ some .dm ∧ lab i ≠ some .fs ∧ lab i ≠ some .dir ∧ lab i ≠ some .nm)
    (h0J : J [] h0 G0)
    (hst : ∀ pre h1 h2 G S, J pre h1 G → Ext S h1 h2 → (∀ i, S i → ¬ G i ∧ h0.size ≤ i) → J pre h2 G)
    (hpl : ∀ pre h1 G, J pre h1 G → ∀ x c, σ.fl x = some c → plainAt h1 x)
    (hround : ∀ pre path x rest h1 G, walkL σ = pre ++ (path, x) :: rest → (∃ c, σ.fl x = some c) → J pre h1 G → Ext (fun i => G0 i) h0 h1 → ∀ K : Heap → Prop, (∀ h2 G', J (pre ++ [(path, x)]) h2 G' → Ext G h1 h2 → (∀ i, G' i → (G i ∨ h1.size ≤ i) ∧ i < h2.size) → K h2) →
      CallV Go.Proofs.Tryz.prog v [.lf (.str (tx path)), .lf (.ptr (some (x, 0))), .lf (.bool (!decide (x ∈ pre.map (·.2))))] h1 [] K)
    {R : Heap → Prop} (k : ∀ h' G', J (walkL σ) h' G' → Ext G0 h0 h' → R h') : Call Go.Proofs.Tryz.prog 45 [.lf (.ptr (some (f, 0))), .lf (.raw v)] h0 [] R := by
  have hds : ∀ d ∈ keysOf σ.dirs, ∃ b dd m, look d σ.dirs = some b ∧ σ.dr b = some dd ∧ σ.mp dd.now = some m ∧ walkD σ d = (keysOf m).map fun n => (d ++ 47 :: n, (look n m).getD 0) := fun d hd => by
    obtain ⟨b, hb⟩ := look_isSome (keysOf_mem.1 hd)
    obtain ⟨dd, hdd⟩ := X.W.dirs _ (look_mem hb)
    obtain ⟨⟨m, hm⟩, _⟩ := X.W.maps _ _ hdd
    refine ⟨b, dd, m, hb, hdd, hm, ?_⟩
    have hat : σ.at b = some (dd, m) := Dk.at_some.2 ⟨hdd, hm⟩
    unfold walkD; rw [hb, Option.bind_some, hat]
  have hdlen : (keysOf σ.dirs).length ≤ 64 := by rw [keysOf_len]; exact X.W.most
  refine ok45 (NewM.mk fun b0 h1 hb0 hs1 e1 k1 => c50 (X.R.ext0 e1) X.W fun s2 h3 o3 f3 => ?_)
  have e03 : Ext0 h0 h3 := e1.trans f3.ext
  have S3 : SeenM h3 b0 [] := ⟨[], fun x => Iff.rfl, (MapR.new k1).ext f3.ext⟩
  have G0b : ∀ i, h0.size ≤ i → ¬ G0 i := fun i hi hg => by have := (hG0 i hg).1; omega
  have J3 : J [] h3 G0 := hst _ _ _ _ _ h0J e03 fun i x => x.elim
  have hdl := o3.len
  refine ⟨fun i hh d => ∃ (n : Nat) (G : Nat → Prop), i = (n : Int) ∧ n ≤ (keysOf σ.dirs).length ∧ J (((keysOf σ.dirs).take n).flatMap (walkD σ)) hh G ∧ Ext G0 h0 hh ∧ SeenM hh b0 ((((keysOf σ.dirs).take n).flatMap (walkD σ)).map (·.2)) ∧
      Own 1 sF hh s2 (keysOf σ.dirs) ∧ (∀ i, G i → (G0 i ∨ h3.size ≤ i) ∧ i < hh.size) ∧ h3.size ≤ hh.size ∧ d = (keysOf σ.dirs).length - n,
    ⟨_, 0, G0, rfl, Nat.zero_le _, J3, e03.of0, S3, o3, fun i hi => ⟨.inl hi, by have := (hG0 i hi).1; have := e03.size; omega⟩, Nat.le_refl _, rfl⟩, ?_⟩
  rintro i h7 d ⟨n, G, rfl, hn, J7, e7, S7, o7, g7, z7, rfl⟩
  have hb0G : ∀ {G : Nat → Prop} {s : Nat}, (∀ i, G i → (G0 i ∨ h3.size ≤ i) ∧ i < s) → ¬ G b0 := fun hg hb => by
    have := f3.ext.size
    rcases (hg b0 hb).1 with x | x
    · exact G0b b0 (by omega) x
    · omega
  have hs2G : ∀ {G : Nat → Prop} {s : Nat}, (∀ i, G i → (G0 i ∨ h3.size ≤ i) ∧ i < s) → ∀ b off, s2.a = some (b, off) → ¬ G b := fun hg b off hb hgb => by
    have h1 := f3.new b off hb
    have h2 := (o3.lt b off hb).1
    have := e1.size
    rcases (hg b hgb).1 with x | x
    · exact G0b b (by omega) x
    · omega
  refine Br.dec (fun hlt => ?_) fun hge => ?_
  · have hlt' : n < (keysOf σ.dirs).length := by omega
    obtain ⟨bd, dd, m, hbd, hdd, hm, hwd⟩ := hds _ (List.getElem_mem hlt')
    have hokd : okName (keysOf σ.dirs)[n] = true := by
      have := keysOf_mem.1 (List.getElem_mem hlt')
      obtain ⟨p, hp, hpe⟩ := List.mem_map.1 this
      rw [← hpe]; exact X.W.names p hp
    have hDG : ¬ G0 D := fun hg => (hG0 D hg).2.1 X.R.lD
    have hfG : ¬ G0 f := fun hg => (hG0 f hg).2.2.1 X.R.lf
    have hbdG : ¬ G0 bd := fun hg => (hG0 bd hg).2.2.2.1 (X.R.dirs _ _ hdd).2
    have hnmG : ¬ G0 dd.now := fun hg => (hG0 _ hg).2.2.2.2 (X.R.mps _ _ hm).2
    refine (o7.arr sF_sized).ix rfl (x := (keysOf σ.dirs)[n]) (List.getElem?_eq_getElem hlt') fun b9 b10 hcell => ⟨_, hcell, NilC.mk rfl ⟨_, (X.R.blk.ext e7 hfG).cell rfl, _, _, MapN.look (MapR.ext X.R.dm e7 hDG) _, ?_⟩⟩
    rw [hbd]
    have Bd : cellsAt h7 bd 0 [Lf.map (some dd.now)] := cellsAt.ext e7 hbdG (X.R.dirs _ _ hdd).1.cell0
    refine NilC.mk rfl ⟨_, Bd, keysN (MapR.ext (X.R.mps _ _ hm).1 e7 hnmG) (by have := X.W.most' _ _ hm; omega) fun s22 h23 o23 f23 => ?_⟩
    have hkl : s22.len = (keysOf m).length := o23.len
    have hkl' : (keysOf m).length ≤ 1024 := by rw [keysOf_len]; exact X.W.most' _ _ hm
    have hds' : keysOf σ.dirs = (keysOf σ.dirs).take n ++ (keysOf σ.dirs)[n] :: (keysOf σ.dirs).drop (n + 1) := by
      rw [← List.drop_eq_getElem_cons hlt', List.take_append_drop]
    refine ⟨fun i hh d => ∃ (j : Nat) (G : Nat → Prop), i = (j : Int) ∧ j ≤ (keysOf m).length ∧ J (((keysOf σ.dirs).take n).flatMap (walkD σ) ++ (walkD σ (keysOf σ.dirs)[n]).take j) hh G ∧ Ext G0 h0 hh ∧
        SeenM hh b0 ((((keysOf σ.dirs).take n).flatMap (walkD σ) ++ (walkD σ (keysOf σ.dirs)[n]).take j).map (·.2)) ∧
        Own 1 sF hh s2 (keysOf σ.dirs) ∧ Own 1 sF hh s22 (keysOf m) ∧ (∀ i, G i → (G0 i ∨ h3.size ≤ i) ∧ i < hh.size) ∧ (∀ b off, s22.a = some (b, off) → ¬ G b) ∧ h23.size ≤ hh.size ∧ d = (keysOf m).length - j,
      ⟨_, 0, G, rfl, Nat.zero_le _, ?_, e7.then0 f23.ext, ?_, o7.ext0 f23.ext, o23, fun i hi => ⟨(g7 i hi).1, Nat.lt_of_lt_of_le (g7 i hi).2 f23.ext.size⟩, fun b off hb hg => by have := f23.new _ _ hb; have := (g7 b hg).2; omega, Nat.le_refl _, rfl⟩, ?_⟩
    · rw [List.take_zero, List.append_nil]; exact hst _ _ _ _ _ J7 f23.ext fun i x => x.elim
    · rw [List.take_zero, List.append_nil]; exact S7.ext f23.ext id
    rintro i h27 d ⟨j, G2, rfl, hj, J27, e27, S27, o27, q27, g27, gs27, z27, rfl⟩
    have z23 := f23.ext.size
    refine Br.dec (fun hlt2 => ?_) fun hge2 => ?_
    · have hlt2' : j < (keysOf m).length := by omega
      have hnm : (keysOf m)[j] ∈ m.map (·.1) := keysOf_mem.1 (List.getElem_mem hlt2')
      obtain ⟨x, hx⟩ := look_isSome hnm
      obtain ⟨p, hp, hpe⟩ := List.mem_map.1 hnm
      have hokn : okName (keysOf m)[j] = true := by rw [← hpe]; exact X.W.names' _ _ hm p hp
      obtain ⟨c, hc⟩ := X.W.files _ _ hm _ (look_mem hx)
      simp only at hc
      have hwj : (walkD σ (keysOf σ.dirs)[n])[j]? = some ((keysOf σ.dirs)[n] ++ 47 :: (keysOf m)[j], x) := by
        rw [hwd, List.getElem?_map, List.getElem?_eq_getElem hlt2', Option.map_some, hx]; rfl
      refine (q27.arr sF_sized).ix rfl (x := (keysOf m)[j]) (List.getElem?_eq_getElem hlt2') fun b29 b30 hcell2 => ⟨_, hcell2, _, _, MapN.look (MapR.ext (X.R.mps _ _ hm).1 e27 hnmG) _, ?_⟩
      rw [hx]
      have ha : (ByteArray.mk #[(47 : UInt8)]) = tx [47] := rfl
      rw [ha, tx_app, tx_app]
      have l1 := okName_len hokd
      have l2 := okName_len hokn
      have hpx : plainAt h27 x := hpl _ _ _ J27 _ _ hc
      have hpp : ∀ y ∈ ((((keysOf σ.dirs).take n).flatMap (walkD σ) ++ (walkD σ (keysOf σ.dirs)[n]).take j).map (·.2)), ∃ c, σ.fl y = some c := fun y hy => by
        obtain ⟨q, hq, rfl⟩ := List.mem_map.1 hy
        have hq' : q ∈ walkL σ := by
          unfold walkL
          rw [hds', List.flatMap_append, List.flatMap_cons]
          rcases List.mem_append.1 hq with h | h
          · exact List.mem_append_left _ h
          · exact List.mem_append_right _ (List.mem_append_left _ (List.mem_of_mem_take h))
        unfold walkL at hq'
        obtain ⟨d', hd', hq'⟩ := List.mem_flatMap.1 hq'
        obtain ⟨b', dd', m', h1, h2, h3, h4⟩ := hds d' hd'
        rw [h4] at hq'
        obtain ⟨nm, hnm', rfl⟩ := List.mem_map.1 hq'
        obtain ⟨y, hy⟩ := look_isSome (keysOf_mem.1 hnm')
        rw [hy]
        exact X.W.files _ _ h3 (nm, y) (look_mem hy)
      obtain ⟨c54, hlook⟩ := S27.look hpx fun y hy => let ⟨c, hc⟩ := hpp y hy; hpl _ _ _ J27 _ _ hc
      refine ⟨by rw [tx_size]; omega, by rw [tx_size, tx_size]; simp; omega, _, c54, hlook, ?_⟩
      have hsplit : walkL σ = (((keysOf σ.dirs).take n).flatMap (walkD σ) ++ (walkD σ (keysOf σ.dirs)[n]).take j) ++ ((keysOf σ.dirs)[n] ++ 47 :: (keysOf m)[j], x) :: ((walkD σ (keysOf σ.dirs)[n]).drop (j + 1) ++ ((keysOf σ.dirs).drop (n + 1)).flatMap (walkD σ)) := by
        have hjl : j < (walkD σ (keysOf σ.dirs)[n]).length := by rw [hwd, List.length_map]; exact hlt2'
        have he : walkD σ (keysOf σ.dirs)[n] = (walkD σ (keysOf σ.dirs)[n]).take j ++ ((keysOf σ.dirs)[n] ++ 47 :: (keysOf m)[j], x) :: (walkD σ (keysOf σ.dirs)[n]).drop (j + 1) := by
          conv => lhs; rw [← List.take_append_drop j (walkD σ (keysOf σ.dirs)[n]), List.drop_eq_getElem_cons hjl]
          rw [List.getElem?_eq_getElem hjl] at hwj
          rw [Option.some.inj hwj]
        unfold walkL
        conv => lhs; rw [hds', List.flatMap_append, List.flatMap_cons, he]
        simp [List.append_assoc]
      have hpath : (keysOf σ.dirs)[n] ++ [47] ++ (keysOf m)[j] = (keysOf σ.dirs)[n] ++ 47 :: (keysOf m)[j] := by simp
      rw [hpath]
      have htake : (walkD σ (keysOf σ.dirs)[n]).take (j + 1) = (walkD σ (keysOf σ.dirs)[n]).take j ++ [((keysOf σ.dirs)[n] ++ 47 :: (keysOf m)[j], x)] := by
        rw [List.take_add_one, hwj]; rfl
      refine hround _ _ x _ h27 G2 hsplit ⟨c, hc⟩ J27 e27 _ fun h36 G3 J36 e36 g36 => ?_
      have S36 := S27.ext e36 (hb0G g27)
      refine S36.put (hpl _ _ _ J36 _ _ hc) (fun y hy => let ⟨c, hc⟩ := hpp y hy; hpl _ _ _ J36 _ _ hc) fun h37 hs37 S37 e37 => ⟨(keysOf m).length - (j + 1), by omega, j + 1, G3, ?_, by omega, ?_, ?_, ?_, ?_, ?_, ?_, ?_, ?_, rfl⟩
      · rw [wi64 (by omega) (by omega)]; rfl
      · rw [htake, ← List.append_assoc]
        refine hst _ _ _ _ _ J36 e37 fun i hi => ?_
        have hi' : i = b0 := hi
        rw [hi']
        refine ⟨fun hg => ?_, by omega⟩
        rcases (g36 b0 hg).1 with x | x
        · exact hb0G g27 x
        · have := S27.lt; omega
      · refine (e27.trans' e36 fun i hi hg => ?_).trans' e37 fun i hi hg => ?_
        · rcases (g27 i hg).1 with x | x
          · exact x
          · have := e03.size; omega
        · have : i = b0 := hg
          omega
      · rw [htake, ← List.append_assoc, List.map_append]; exact S37
      · refine (o27.ext e36 fun ⟨b, off, hb, hg⟩ => hs2G g27 b off hb hg).ext e37 fun ⟨b, off, hb, hg⟩ => ?_
        have := f3.new _ _ hb; have : b = b0 := hg; omega
      · refine (q27.ext e36 fun ⟨b, off, hb, hg⟩ => gs27 b off hb hg).ext e37 fun ⟨b, off, hb, hg⟩ => ?_
        have := f23.new _ _ hb; have : b = b0 := hg; have := S7.lt; omega
      · intro i hi
        refine ⟨?_, by have := (g36 i hi).2; omega⟩
        rcases (g36 i hi).1 with x | x
        · exact (g27 i x).1
        · exact .inr (by omega)
      · intro b off hb hg
        rcases (g36 b hg).1 with x | x
        · exact gs27 b off hb x
        · have := (o23.lt _ _ hb).1; omega
      · have := e36.size; omega
    · have hj' : j = (keysOf m).length := by omega
      have hall : (walkD σ (keysOf σ.dirs)[n]).take j = walkD σ (keysOf σ.dirs)[n] := List.take_of_length_le (by rw [hwd, List.length_map]; omega)
      have htk : ((keysOf σ.dirs).take (n + 1)).flatMap (walkD σ) = ((keysOf σ.dirs).take n).flatMap (walkD σ) ++ walkD σ (keysOf σ.dirs)[n] := by
        rw [List.take_add_one, List.getElem?_eq_getElem hlt', List.flatMap_append]; simp
      rw [hall, ← htk] at J27 S27
      refine ⟨(keysOf σ.dirs).length - (n + 1), by omega, n + 1, G2, ?_, by omega, J27, e27, S27, o27, g27, by omega, rfl⟩
      rw [wi64 (by omega) (by omega)]; rfl
  · have hn' : n = (keysOf σ.dirs).length := by omega
    rw [hn', List.take_length] at J7
    exact k h7 G J7 e7

end Go.V.YtdeihieblljfcaaGreat
/-! How many bytes all files have; writes. -/
namespace Go.V.YtdeihieblljfcaaGreat
open Go Go.V

def distinct (l : List Nat) : List Nat := l.foldl (fun a x => if x ∈ a then a else a ++ [x]) []
theorem distinct_snoc (l : List Nat) (x : Nat) : distinct (l ++ [x]) = if x ∈ distinct l then distinct l else distinct l ++ [x] := by
  unfold distinct; rw [List.foldl_append]; rfl
theorem snoc_ind {α : Type} {P : List α → Prop} (h0 : P []) (h1 : ∀ l x, P l → P (l ++ [x])) : ∀ l, P l := fun l => by
  have : ∀ n (l : List α), l.length = n → P l := by
    intro n
    induction n with
    | zero => intro l hl; rw [List.length_eq_zero_iff.1 hl]; exact h0
    | succ n ih =>
      intro l hl
      have hne : l ≠ [] := fun e => by rw [e] at hl; cases hl
      rw [← List.dropLast_concat_getLast hne]
      exact h1 _ _ (ih _ (by rw [List.length_dropLast]; omega))
  exact this _ l rfl
theorem mem_distinct {x : Nat} : ∀ l, x ∈ distinct l ↔ x ∈ l := fun l => by
  induction l using snoc_ind with
  | h0 => exact Iff.rfl
  | h1 l y ih =>
    rw [distinct_snoc]
    split
    · rename_i h
      rw [ih, List.mem_append, List.mem_singleton]
      exact ⟨.inl, fun z => z.elim id fun z => by subst z; exact ih.1 h⟩
    · rw [List.mem_append, List.mem_append, ih]
theorem distinct_len : ∀ l, (distinct l).length ≤ l.length := fun l => by
  induction l using snoc_ind with
  | h0 => exact Nat.le_refl _
  | h1 l y ih => rw [distinct_snoc, List.length_append]; split <;> simp <;> omega

def Dk.size (σ : Dk) (x : Nat) : Nat := match σ.fl x with | some c => c.now.length | none => 0
def sizes (σ : Dk) (l : List Nat) : Nat := ((distinct l).map σ.size).sum
def usedN (σ : Dk) : Nat := sizes σ ((walkL σ).map (·.2))

theorem sum_le {l : List Nat} {m : Nat} (h : ∀ x ∈ l, x ≤ m) : l.sum ≤ l.length * m := by
  induction l with
  | nil => simp
  | cons x l ih =>
    rw [List.sum_cons, List.length_cons, Nat.add_mul, Nat.one_mul]
    have := h x List.mem_cons_self
    have := ih fun y hy => h y (List.mem_cons_of_mem _ hy)
    omega
theorem le_sum {x : Nat} : ∀ {l : List Nat}, x ∈ l → x ≤ l.sum
  | [], h => by cases h
  | y :: r, h => by
    rw [List.sum_cons]
    rcases List.mem_cons.1 h with rfl | h
    · omega
    · have := le_sum h; omega

def Fine (σ : Dk) : Prop := ∀ x c, σ.fl x = some c → FlOk c
theorem Fine.size {σ : Dk} (Z : Fine σ) (x : Nat) : σ.size x ≤ 268435456 := by
  unfold Dk.size
  cases h : σ.fl x with
  | none => simp
  | some c => exact (Z x c h).len
theorem sizes_le {σ : Dk} (Z : Fine σ) (l : List Nat) : sizes σ l ≤ l.length * 268435456 := by
  have h1 := sum_le (l := (distinct l).map σ.size) (m := 268435456) fun y hy => by obtain ⟨x, _, rfl⟩ := List.mem_map.1 hy; exact Z.size x
  rw [List.length_map] at h1
  exact Nat.le_trans h1 (Nat.mul_le_mul_right _ (distinct_len l))
theorem walkL_len {σ : Dk} (W : Wf σ) : (walkL σ).length ≤ 65536 := by
  unfold walkL
  rw [List.length_flatMap]
  have h1 := sum_le (l := (keysOf σ.dirs).map fun d => (walkD σ d).length) (m := 1024) fun y hy => by
    obtain ⟨d, _, rfl⟩ := List.mem_map.1 hy
    unfold walkD
    split
    · rename_i dd m h
      rw [List.length_map, keysOf_len]
      cases hb : look d σ.dirs with
      | none => rw [hb] at h; cases h
      | some b =>
        rw [hb, Option.bind_some] at h
        exact W.most' _ _ (Dk.at_some.1 h).2
    · simp
  rw [List.length_map, keysOf_len] at h1
  have := W.most
  have : σ.dirs.length * 1024 ≤ 64 * 1024 := Nat.mul_le_mul_right _ this
  omega
theorem usedN_le {σ : Dk} (W : Wf σ) (Z : Fine σ) : usedN σ ≤ 17592186044416 := by
  have h1 := sizes_le Z ((walkL σ).map (·.2))
  rw [List.length_map] at h1
  have : (walkL σ).length * 268435456 ≤ 65536 * 268435456 := Nat.mul_le_mul_right _ (walkL_len W)
  unfold usedN; omega
theorem filePlain {h : Heap} {lab : Labs} {f D : Nat} {σ : Dk} (R : DR h lab f D σ) {x : Nat} {c : Fl} (hc : σ.fl x = some c) : plainAt h x := by
  obtain ⟨sf, so, sn, os, k, _⟩ := (R.fls x c hc).1.ex
  exact ⟨_, _, k⟩
theorem FileR.now {h : Heap} {lab : Labs} {x : Nat} {c : Fl} (y : FileR h lab x c) : ∃ s, cellsAt h x 2 [Lf.slc s] ∧ Byt h lab s c.now := let ⟨_, _, sn, _, k, _, _, _, _, _, yn⟩ := y.ex; ⟨sn, k.cell rfl, yn⟩

theorem c112 {h : Heap} {lab : Labs} {f D : Nat} {σ : Dk} (X : DW h lab f D σ) (Z : Fine σ) {R : Int → Heap → Prop}
    (k : ∀ h', Ext0 h h' → R (usedN σ : Int) h') : Call Go.Proofs.Tryz.prog 112 [.lf (.ptr (some (f, 0)))] h [.one (.int .i64)] R := by
  refine ok112 (New.mk fun b0 h1 hb0 hs1 e1 k1 => StC.one k1 (by simp) fun h2 hs2 k2 e2 => ?_)
  have e02 : Ext0 h h2 := e1.tmp e2 (by omega)
  have X2 := X.ext0 e02
  have lb : lab b0 = none := X.R.free (by omega)
  have k2' : Blk h2 b0 3 [.int .i64 0] := by simpa using k2
  refine c45 X2 (J := fun pre hh G => G = (fun i => i = b0) ∧ Ext (fun i => i = b0) h2 hh ∧ Blk hh b0 3 [.int .i64 (sizes σ (pre.map (·.2)) : Int)]) (G0 := fun i => i = b0) ?_ ⟨rfl, Ext.refl _ _, k2'⟩ ?_ ?_ ?_ ?_
  · rintro i rfl
    exact ⟨k2'.lt, by rw [lb]; simp, by rw [lb]; simp, by rw [lb]; simp, by rw [lb]; simp⟩
  · rintro pre h1 h3 G S ⟨rfl, e, kb⟩ es hS
    refine ⟨rfl, e.trans' es fun i hi hs => absurd hi ?_, kb.ext es fun hs => (hS _ hs).1 rfl⟩
    have := (hS i hs).2; omega
  · rintro pre h1 G ⟨rfl, e, kb⟩ x c hc
    exact filePlain (X2.R.ext e fun b hb => by rw [show b = b0 from hb]; exact lb) hc
  · rintro pre path x rest h1 G hw ⟨c, hc⟩ ⟨rfl, e, kb⟩ _ K kk
    have R1 := X2.R.ext e fun b hb => by rw [show b = b0 from hb]; exact lb
    have hbnd : sizes σ ((pre ++ [(path, x)]).map (·.2)) ≤ 17592186044416 := by
      have h1 := sizes_le Z ((pre ++ [(path, x)]).map (·.2))
      have h2 := walkL_len X.W
      rw [hw] at h2
      rw [List.length_map, List.length_append, List.length_singleton] at h1
      rw [List.length_append, List.length_cons] at h2
      have : (pre.length + 1) * 268435456 ≤ 65536 * 268435456 := Nat.mul_le_mul_right _ (by omega)
      omega
    have hs : sizes σ ((pre ++ [(path, x)]).map (·.2)) = if x ∈ pre.map (·.2) then sizes σ (pre.map (·.2)) else sizes σ (pre.map (·.2)) + c.now.length := by
      unfold sizes
      rw [List.map_append, List.map_singleton, distinct_snoc]
      simp only [mem_distinct]
      split
      · rfl
      · rw [List.map_append, List.sum_append]
        simp [Dk.size, hc]
    refine .inl ⟨187, [], [.lf (.ptr (some (b0, 0)))], _, _, rfl, Go.Proofs.Tryz.func187, rfl, ok187 (Br.mk (fun hf => ?_) fun hf => ?_)⟩
    · have hni : x ∉ pre.map (·.2) := by simpa using hf
      obtain ⟨sn, kn, yn⟩ := (R1.fls x c hc).1.now
      refine ⟨_, kb.cell rfl, NilC.mk rfl ⟨sn, kn, ?_⟩⟩
      rw [if_neg hni] at hs
      rw [yn.arr.len, wi64 (by omega) (by omega)]
      refine StC.one kb (by simp) fun h4 hs4 k4 e4 => kk h4 _ ⟨rfl, e.trans e4, ?_⟩ e4 fun i hi => ⟨.inl hi, by rw [show i = b0 from hi]; exact k4.lt⟩
      rw [hs]; simpa using k4
    · have hni : x ∈ pre.map (·.2) := by simpa using hf
      rw [if_pos hni] at hs
      exact kk h1 _ ⟨rfl, e, by rw [hs]; exact kb⟩ (Ext.refl _ _) fun i hi => ⟨.inl hi, by rw [show i = b0 from hi]; exact kb.lt⟩
  · rintro h3 G ⟨rfl, e, kb⟩ _
    exact ⟨_, kb.cell rfl, k h3 (e02.tmp e (by omega))⟩

def writesR (σ : Dk) (x : Nat) (i : Int) (b : Tx) : Int × Dk := match σ.fl x with
  | none => (6, σ)
  | some c =>
    if i < 0 ∨ i > c.now.length then (1, σ)
    else if i + b.length - c.now.length > 0 ∧ usedN σ + (i + b.length - c.now.length) > σ.quota then (20, σ)
    else
      let b' := if σ.change.2.1 = true then b.take (b.length / 2) else b
      if (σ.change.1 = 0 ∨ σ.change.2.1 = true) ∧ b' ≠ [] then (σ.change.1, { σ.change.2.2 with fl := upd σ.fl x ⟨c.fast, c.opn ++ [(i.toNat, b')], overL i.toNat b' c.now⟩ })
      else (σ.change.1, σ.change.2.2)

theorem Byt.named {h : Heap} {s : Slc} {l : Tx} (o : Own 1 dF h s l) (lab : Labs) : Byt h (named lab s .dat) s l := ⟨o.arr dF_sized, fun b off y => named_at y, o.lec, o.pl⟩

theorem c54 {h : Heap} {lab : Labs} {f D : Nat} {σ : Dk} (X : DW h lab f D σ) (Z : Fine σ) {n : Nat} (F : Few σ n) (hn : n ≤ 4398046511000) {x : Nat} {c : Fl} (hx : σ.fl x = some c) {i : Int} (hi1 : -9223372036854775808 ≤ i) (hi2 : i ≤ 9223372036854775807)
    {s : Slc} {b : Tx} (A : Arr 1 dF h s b) (hsc : s.len ≤ s.cap) (hsl : ∀ y off, s.a = some (y, off) → lab y = none ∨ lab y = some .dat) (hb : b.length ≤ 4398046511104) {R : Int → Heap → Prop}
    (k : ∀ h' lab', DW h' lab' f D (writesR σ x i b).2 → Stp lab h lab' h' → R (writesR σ x i b).1 h') :
    Call Go.Proofs.Tryz.prog 54 [.lf (.ptr (some (f, 0))), .lf (.ptr (some (x, 0))), .lf (.int .i64 i), .lf (.slc s)] h [.one (.int .i64)] R := by
  have lx := (X.R.fls x c hx).2
  have hsl' := A.len
  have hno := (Z x c hx).len
  have stay : ∀ e (h' : Heap), writesR σ x i b = (e, σ) → Ext0 h h' → R e h' := fun e h' hc e0 => by
    have := k h' lab (by rw [hc]; exact X.ext0 e0) (Stp.of0 e0)
    rwa [hc] at this
  obtain ⟨sn, kn, yn⟩ := (X.R.fls x c hx).1.now
  have hnl := yn.arr.len
  refine ok54 ⟨fun q hh => hh = h ∧ (q = true ↔ (i < 0 ∨ i > c.now.length)), ?_, ?_⟩
  · refine Br.dec (fun hneg => ⟨rfl, fun _ => .inl hneg, fun _ => rfl⟩) fun hge => NilC.mk rfl ⟨sn, kn, rfl, ?_⟩
    rw [decide_eq_true_eq, hnl]; omega
  rintro q h5 ⟨rfl, hq⟩
  refine Br.mk (fun hqt => stay 1 h5 ?_ (Ext.refl _ _)) fun hqf => NilC.mk rfl ⟨sn, kn, ?_⟩
  · unfold writesR; simp only [hx]; rw [if_pos (hq.1 hqt)]
  have hq' : ¬ (i < 0 ∨ i > c.now.length) := fun z => by rw [hq.2 z] at hqf; cases hqf
  have hw1 : IntKind.wrap .i64 (IntKind.wrap .i64 (i + (s.len : Int)) - (sn.len : Int)) = i + b.length - c.now.length := by
    rw [wi64 (n := i + (s.len : Int)) (by omega) (by omega), wi64 (by omega) (by omega)]; omega
  rw [hw1]
  have hus := usedN_le X.W Z
  refine ⟨fun q hh => Ext0 h5 hh ∧ (q = true ↔ (i + b.length - c.now.length > 0 ∧ usedN σ + (i + b.length - c.now.length) > σ.quota)), ?_, ?_⟩
  · refine Br.dec (fun hpos => NilC.mk rfl ⟨_, X.R.blk.cell rfl, c112 X Z fun h14 e14 => ⟨(X.R.blk.ext e14).cell rfl, e14, ?_⟩⟩) fun hneg => ⟨Ext.refl _ _, ?_⟩
    · rw [wi64 (by omega) (by omega), decide_eq_true_eq]; omega
    · simp; omega
  rintro q2 h16 ⟨e16, hq2⟩
  refine Br.mk (fun hqt => stay 20 h16 ?_ e16) fun hqf2 => ?_
  · unfold writesR; simp only [hx]; rw [if_neg hq', if_pos (hq2.1 hqt)]
  have hq2' : ¬ (i + b.length - c.now.length > 0 ∧ usedN σ + (i + b.length - c.now.length) > σ.quota) := fun z => by rw [hq2.2 z] at hqf2; cases hqf2
  have X16 := X.ext0 e16
  refine c55 X16.R (F.okF (by omega)) (F.okS (by omega)) fun h19 hs19 e19 R19 => ?_
  have hcr : writesR σ x i b = if (σ.change.1 = 0 ∨ σ.change.2.1 = true) ∧ (if σ.change.2.1 = true then b.take (b.length / 2) else b) ≠ [] then (σ.change.1, { σ.change.2.2 with fl := upd σ.fl x ⟨c.fast, c.opn ++ [(i.toNat, (if σ.change.2.1 = true then b.take (b.length / 2) else b))], overL i.toNat (if σ.change.2.1 = true then b.take (b.length / 2) else b) c.now⟩ }) else (σ.change.1, σ.change.2.2) := by
    unfold writesR; simp only [hx]; rw [if_neg hq', if_neg hq2']
  have st19 : Stp lab h5 lab h19 := (Stp.of0 e16).trans (Stp.of e19 fun i _ hi => by subst hi; rw [X.R.lf]; simp)
  have X19 : DW h19 lab f D σ.change.2.2 := X.go st19 R19 X.W.change
  have nf : ∀ y off, s.a = some (y, off) → y ≠ f := fun y off hy z => by
    rw [z] at hy
    rcases hsl _ _ hy with w | w <;> rw [X.R.lf] at w <;> cases w
  have A19 : Arr 1 dF h19 s b := (A.ext0 e16).ext e19 fun ⟨y, off, hy, hz⟩ => nf y off hy hz
  generalize hbb : (if σ.change.2.1 = true then b.take (b.length / 2) else b) = b' at hcr
  have hb'l : b'.length ≤ b.length := by rw [← hbb]; split <;> simp <;> omega
  refine ⟨fun s' hh => hh = h19 ∧ Arr 1 dF h19 s' b' ∧ ∀ y off, s'.a = some (y, off) → ∃ off', s.a = some (y, off'), ?_, ?_⟩
  · refine Br.mk (fun hh => ?_) fun hh => ?_
    · rw [if_pos hh] at hbb
      have ht : Int.tdiv (s.len : Int) 2 = ((b.length / 2 : Nat) : Int) := by rw [hsl']; rfl
      rw [ht, wi64 (by omega) (by omega), Int.toNat_natCast]
      have := A19.sub (Nat.zero_le (b.length / 2)) (by omega) (m := s.cap) (by omega)
      rw [List.drop_zero, hbb] at this
      refine ⟨by omega, by omega, by omega, rfl, this, fun y off hy => ?_⟩
      unfold Slc.sub at hy; simp only at hy
      split at hy
      · exact ⟨_, hy⟩
      · cases hs : s.a with
        | none => rw [hs] at hy; cases hy
        | some p => obtain ⟨b', o⟩ := p; rw [hs] at hy; cases hy; exact ⟨_, rfl⟩
    · rw [if_neg (by rw [hh]; simp)] at hbb
      subst hbb
      exact ⟨rfl, A19, fun y off hy => ⟨off, hy⟩⟩
  rintro s21 h22 ⟨rfl, A21, hs21⟩
  have hl21 := A21.len
  have fin : ∀ h50, (∃ lab', DW h50 lab' f D (writesR σ x i b).2 ∧ Stp lab h5 lab' h50) → R σ.change.1 h50 := fun h50 ⟨lab', X', s'⟩ => by
    have := k h50 lab' X' s'
    have h1 : (writesR σ x i b).1 = σ.change.1 := by rw [hcr]; split <;> rfl
    rwa [h1] at this
  refine ⟨fun hh => ∃ lab', DW hh lab' f D (writesR σ x i b).2 ∧ Stp lab h5 lab' hh, ⟨fun q hh => hh = h22 ∧ (q = true ↔ ((σ.change.1 = 0 ∨ σ.change.2.1 = true) ∧ b' ≠ [])), ?_, ?_⟩, fun h50 x => fin h50 x⟩
  · have hd : decide ((s21.len : Int) > 0) = true ↔ b' ≠ [] := by
      rw [decide_eq_true_eq, hl21, ← List.length_pos_iff]; omega
    refine Br.eq (fun he => ⟨rfl, ?_⟩) fun he => Br.mk (fun hh => ⟨rfl, ?_⟩) fun hh => ⟨rfl, ?_⟩
    · rw [hd]; exact ⟨fun z => ⟨.inl he, z⟩, fun z => z.2⟩
    · rw [hd]; exact ⟨fun z => ⟨.inr hh, z⟩, fun z => z.2⟩
    · exact ⟨fun z => (by cases z), fun z => z.1.elim (fun w => absurd w he) fun w => by rw [hh] at w; cases w⟩
  rintro q3 h26 ⟨rfl, hq3⟩
  refine Br.mk (fun hqt => ?_) fun hqf3 => ⟨lab, ?_, st19⟩
  rotate_left 1
  · rw [hcr, if_neg fun z => by rw [hq3.2 z] at hqf3; cases hqf3]; exact X19
  have hcond := hq3.1 hqt
  rw [if_pos hcond] at hcr
  obtain ⟨i', rfl⟩ : ∃ i' : Nat, i = (i' : Int) := ⟨i.toNat, by omega⟩
  rw [Int.toNat_natCast] at hcr
  obtain ⟨sf, so, sn', os, B, yf, oo, hs, hc, ho, yn'⟩ := (X19.R.fls x c hx).1.ex
  have hol := oo.len
  rw [List.length_map] at hol
  have hcl : c.opn.length = os.length := by rw [hc, List.length_map]
  have hopn := F.opn _ _ hx
  have xlt := X19.R.lt x (by rw [lx]; simp)
  refine c47 A21 (by omega) fun s27 h28 o27 f28 => New.mk fun b29 h30 hb29 hs30 e30 k30 => Set.mk fun h31 hs31 e31 k31 => NilC.mk rfl ?_
  have z28 := f28.ext.size
  have e31' : Ext0 h26 h31 := (f28.ext.trans e30).tmp e31 (by have := f28.ext.size; omega)
  refine ⟨so, (B.ext e31').cell rfl, New.mk fun b35 h36 hb35 hs36 e36 k36 => ⟨((B.ext e31').ext e36).cell rfl, ?_⟩⟩
  have e2836 : Ext0 h28 h36 := (e30.tmp e31 (by omega)).trans e36
  have o36 : Own 1 dF h36 s27 b' := o27.ext0 e2836
  have e36' : Ext0 h26 h36 := e31'.trans e36
  refine AppC.grow oF_sized (by decide) rfl (oo.ext0 e36') ((Own.new oF_sized (l := [(i', s27)]) k36).arr oF_sized) (by simp; omega) fun s37 h38 o38 g38 => ?_
  have hso : ∀ y off, so.a = some (y, off) → lab y = some (.opn x) := hs
  have hz36 := e36'.size
  have keep29 : keepB h36 h38 [b29] := g38.keep (by omega) fun off y => by
    have := X19.R.lt b29 (by rw [hso _ _ y]; simp); have := f28.ext.size; omega
  have B38 : Blk h38 x 102 [.slc sf, .slc so, .slc sn'] := (B.ext e36').ext g38.ext fun ⟨off, y⟩ => by have := hso _ _ y; rw [lx] at this; cases this
  have hs37 : ∀ y off, s37.a = some (y, off) → (lab y = none ∨ lab y = some (.opn x)) ∧ (lab y = some (.opn x) ∨ h36.size ≤ y) := fun y off hy => by
    rcases g38.new with z | ⟨b', hb', hz⟩
    · rw [z] at hy; exact ⟨.inr (hso _ _ hy), .inl (hso _ _ hy)⟩
    · rw [hb'] at hy; cases hy; exact ⟨.inl (X19.R.free (by omega)), .inr hz⟩
  have hs27x : ∀ y off, s27.a = some (y, off) → h26.size ≤ y ∧ y < h28.size := fun y off hy => ⟨f28.new _ _ hy, (o27.lt _ _ hy).1⟩
  have o38' : Own 1 dF h38 s27 b' := o36.ext g38.ext fun ⟨y, off, hy, off', hz⟩ => by
    have h1 := hs27x _ _ hy; have := X19.R.lt y (by rw [hso _ _ hz]; simp); omega
  refine ⟨keep29, NilC.mk rfl (StC.one B38 (by simp) fun h41 hs41 k41 e41 => ⟨e41.keep (by have := g38.ext.size; omega) (by omega), NilC.mk rfl ?_⟩)⟩
  have k41' : Blk h41 x 102 [.slc sf, .slc s37, .slc sn'] := by simpa using k41
  have o41 : Own 1 dF h41 s27 b' := o38'.ext e41 fun ⟨y, off, hy, hz⟩ => by have := hs27x _ _ hy; have : y = x := hz; omega
  have E41 : Ext (fun i => i = x ∨ lab i = some (.opn x)) h26 h41 := (e36'.of0.trans (g38.ext.mono fun i ⟨off, hi⟩ => .inr (hso _ _ hi))).trans (e41.mono fun i hi => .inl hi)
  have yn41 : Arr 1 dF h41 sn' c.now := yn'.arr.ext E41 fun ⟨y, off, hy, hz⟩ => by
    have := yn'.lab _ _ hy
    rcases hz with hz | hz
    · rw [hz, lx] at this; cases this
    · rw [hz] at this; cases this
  refine ⟨sn', k41'.cell rfl, ?_⟩
  refine c111 (o41.arr dF_sized) yn41 (by omega) (by omega) (by omega) fun s45 h46 o46 f46 => ⟨f46.ext.keep (by have := E41.size; have := g38.ext.size; omega) (fun y => y), NilC.mk rfl ?_⟩
  refine StC.one (k41'.ext f46.ext) (by simp) fun h49 hs49 k49 e49 => ⟨e49.keep (by have := f46.ext.size; have := g38.ext.size; omega) (by omega), ?_⟩
  have k49' : Blk h49 x 102 [.slc sf, .slc s37, .slc s45] := by simpa using k49
  have E49 : Ext (fun i => i = x ∨ lab i = some (.opn x)) h26 h49 := (E41.trans f46.ext.of0).trans (e49.mono fun i hi => .inl hi)
  have z41 := E41.size
  have z38 := g38.ext.size
  have hs45 : ∀ y off, s45.a = some (y, off) → h41.size ≤ y ∧ y < h46.size := fun y off hy => ⟨f46.new _ _ hy, (o46.lt _ _ hy).1⟩
  have z46 := f46.ext.size
  let lab1 := named lab s27 .dat
  let lab2 := named lab1 s37 (.opn x)
  let lab3 := named lab2 s45 .dat
  have le1 : lab.Le lab1 := named_le fun y off hy => .inl (X19.R.free (hs27x _ _ hy).1)
  have no1 : ∀ y, h28.size ≤ y → lab1 y = lab y := fun y hy => named_ne fun off hz => by have := (hs27x _ _ hz).2; omega
  have le2 : lab1.Le lab2 := named_le fun y off hy => by
    obtain ⟨_, w | w⟩ := hs37 _ _ hy
    · exact .inr (le1 _ _ w)
    · left; rw [no1 y (by have := e2836.size; omega)]; exact X19.R.free (by omega)
  have no2 : ∀ y, h38.size ≤ y → lab2 y = lab y := fun y hy => by
    rw [show lab2 y = lab1 y from named_ne fun off hz => by have := (o38.lt _ _ hz).1; omega]
    exact no1 y (by have := e2836.size; omega)
  have le3 : lab2.Le lab3 := named_le fun y off hy => by
    left; rw [no2 y (by have := hs45 _ _ hy; omega)]; exact X19.R.free (by have := hs45 _ _ hy; omega)
  have hle : lab.Le lab3 := fun y L hy => le3 _ _ (le2 _ _ (le1 _ _ hy))
  have o49 : Own 1 dF h49 s45 (overL i' b' c.now) := o46.ext e49 fun ⟨y, off, hy, hz⟩ => by have := hs45 _ _ hy; have : y = x := hz; omega
  have o27' : Own 1 dF h49 s27 b' := (o41.ext0 f46.ext).ext e49 fun ⟨y, off, hy, hz⟩ => by have := hs27x _ _ hy; have : y = x := hz; omega
  have o37' : Own 2 oF h49 s37 (os.map (·.1) ++ [(i', s27)]) := ((o38.ext e41 fun ⟨y, off, hy, hz⟩ => by
      have hz : y = x := hz
      rw [hz] at hy
      obtain ⟨w, _⟩ := hs37 _ _ hy
      rcases w with w | w <;> rw [lx] at w <;> cases w).ext0 f46.ext).ext e49 fun ⟨y, off, hy, hz⟩ => by
      have hz : y = x := hz
      rw [hz] at hy
      obtain ⟨w, _⟩ := hs37 _ _ hy
      rcases w with w | w <;> rw [lx] at w <;> cases w
  have bext : ∀ {s : Slc} {l : Tx}, Byt h26 lab s l → Byt h49 lab3 s l := fun y => (y.ext E49 fun z hz => by
    rcases hz with hz | hz
    · rw [hz, lx]; simp
    · rw [hz]; simp).mono hle
  have hlt : ∀ y, lab3 y ≠ none → y < h49.size := fun y hy => by
    by_cases h1 : ∃ off, s45.a = some (y, off)
    · obtain ⟨off, h1⟩ := h1; have := hs45 _ _ h1; omega
    · have e3 : lab3 y = lab2 y := named_ne fun off hz => h1 ⟨off, hz⟩
      by_cases h2 : ∃ off, s37.a = some (y, off)
      · obtain ⟨off, h2⟩ := h2; have := (o38.lt _ _ h2).1; omega
      · have e2 : lab2 y = lab1 y := named_ne fun off hz => h2 ⟨off, hz⟩
        by_cases h3 : ∃ off, s27.a = some (y, off)
        · obtain ⟨off, h3⟩ := h3; have := hs27x _ _ h3; have := e2836.size; omega
        · have e1 : lab1 y = lab y := named_ne fun off hz => h3 ⟨off, hz⟩
          rw [e3, e2, e1] at hy
          have := X19.R.lt y hy; have := E49.size; omega
  have F49 : FileR h49 lab3 x ⟨c.fast, c.opn ++ [(i', b')], overL i' b' c.now⟩ := by
    refine ⟨sf, s37, s45, os ++ [((i', s27), b')], k49', bext yf, by simpa using o37', fun y off hy => le3 _ _ (named_at hy), by simp [hc], fun o hmem => ?_, ⟨o49.arr dF_sized, fun y off hy => named_at hy, o49.lec, o49.pl⟩⟩
    rcases List.mem_append.1 hmem with hmem | hmem
    · exact bext (ho o hmem)
    · rw [List.mem_singleton.1 hmem]
      exact ⟨o27'.arr dF_sized, fun y off hy => le3 _ _ (le2 _ _ (named_at hy)), o27'.lec, o27'.pl⟩
  have Rn := X19.R.setXL lx E49 hle hlt F49
  have stn : Stp lab h5 lab3 h49 := st19.trans ⟨E49.size, fun i hi hl => E49.same i hi fun z => (by
      rcases z with z | z
      · rw [z, lx] at hl; simp at hl
      · rw [z] at hl; simp at hl), fun i hi => by
      cases hli : lab i with
      | some L => exact hle _ _ hli
      | none =>
        have e3 : lab3 i = lab2 i := named_ne fun off hz => by have := hs45 _ _ hz; omega
        have e2 : lab2 i = lab1 i := named_ne fun off hz => by
          obtain ⟨_, w | w⟩ := hs37 _ _ hz
          · rw [hli] at w; cases w
          · omega
        have e1 : lab1 i = lab i := named_ne fun off hz => by have := hs27x _ _ hz; omega
        rw [e3, e2, e1, hli]⟩
  refine ⟨lab3, ?_, stn⟩
  rw [hcr]
  exact X.go stn Rn (X.W.change.newF x _)

end Go.V.YtdeihieblljfcaaGreat
