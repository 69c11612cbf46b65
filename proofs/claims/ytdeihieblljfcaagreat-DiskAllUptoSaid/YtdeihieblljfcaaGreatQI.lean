/- This text proves a part of the laws of seat YtdeihieblljfcaaGreat, under no condition: F6d F6e. -/
import Derived.Test.YtdeihieblljfcaaGreatQH
import Derived.Test.YtdeihieblljfcaaGreatPL
set_option linter.unusedVariables false
set_option linter.unusedSimpArgs false
/-! The document's Image: one file. -/
namespace Go.V.YtdeihieblljfcaaGreat
open Go Go.V

def T93 (s11 s18 s19 : Slc) (i20 : Int) (b13 b50 : Nat) (t42 t45 : ByteArray) (s46 : Slc) (i48 : Int) (h53 : Heap) (I23 : Slc → Slc → Heap → Prop) : Prop :=
 ∃ (I54 : Int → ByteArray → Slc → Int → ByteArray → Heap → Nat → Prop), (∃ b55, I54 0 (t42 ++ ByteArray.mk #[47] ++ t45) s46 i48 (t42 ++ ByteArray.mk #[47] ++ t45) h53 b55) ∧ ∀ (i56 : Int) (t57 :
 ByteArray) (s58 : Slc) (i59 : Int) (t60 : ByteArray) (h61 : Heap) (b62 : Nat), I54 i56 t57 s58 i59 t60 h61 b62 → Br (decide (i56 < (↑(Slc.len s19) : Int))) (IxC s19 i56 1 fun b63 b64 => ∃ i65, cellsAt
 h61 b63 b64 [.int .i64 i65] ∧ IxC s11 i20 1 fun b66 b67 => ∃ i68, cellsAt h61 b66 b67 [.int .i64 i68] ∧ Br (i65 == i68) (IxC s18 i56 4 fun b69 b70 => ∃ (t71 : ByteArray), cellsAt h61 b69 (b70 + 3)
 [.str t71] ∧ Set b50 34 [.str t57, .slc s58, .int .i64 i59, .str t71] h61 fun h72 => ∃ b73, b73 < b62 ∧ I54 (IntKind.wrap .i64 (i56 + 1)) t57 s58 i59 t71 h72 b73) (∃ b74, b74 < b62 ∧ I54 (IntKind.wrap
 .i64 (i56 + 1)) t57 s58 i59 t60 h61 b74)) (IxC s11 i20 1 fun b75 b76 => ∃ i77, cellsAt h61 b75 b76 [.int .i64 i77] ∧ (New 34 [.str t57, .slc s58, .int .i64 i59, .str t60] h61 fun b78 h79 => cellsAt h79
 b75 b76 [.int .i64 i77] ∧ (AppC 34 [.str (ByteArray.mk #[]), .slc (Slc.mk none 0 0), .int .i64 0, .str (ByteArray.mk #[])] 4 64 s18 (Slc.mk (some (b78, 0)) 1 1) h79 fun (s80 : Slc) h81 => keepB h79 h81
 [b13, b50] ∧ cellsAt h81 b75 b76 [.int .i64 i77] ∧ New 3 [.int .i64 i77] h81 fun b82 h83 => AppC 3 [.int .i64 0] 1 8 s19 (Slc.mk (some (b82, 0)) 1 1) h83 fun (s84 : Slc) (h85 : Heap) => keepB h83 h85
 [b13, b50] ∧ I23 s80 s84 h85) ∧ New 3 [.int .i64 i77] h79 fun b86 h87 => AppC 34 [.str (ByteArray.mk #[]), .slc (Slc.mk none 0 0), .int .i64 0, .str (ByteArray.mk #[])] 4 64 s18 (Slc.mk (some (b78, 0))
 1 1) h87 fun (s88 : Slc) h89 => keepB h87 h89 [b13, b50] ∧ AppC 3 [.int .i64 0] 1 8 s19 (Slc.mk (some (b86, 0)) 1 1) h89 fun (s90 : Slc) h91 => keepB h89 h91 [b13, b50] ∧ I23 s88 s90 h91) ∧ New 3 [.int
 .i64 i77] h61 fun b92 h93 => New 34 [.str t57, .slc s58, .int .i64 i59, .str t60] h93 fun b94 h95 => AppC 34 [.str (ByteArray.mk #[]), .slc (Slc.mk none 0 0), .int .i64 0, .str (ByteArray.mk #[])] 4 64
 s18 (Slc.mk (some (b94, 0)) 1 1) h95 fun (s96 : Slc) h97 => keepB h95 h97 [b13, b50] ∧ AppC 3 [.int .i64 0] 1 8 s19 (Slc.mk (some (b92, 0)) 1 1) h97 fun (s98 : Slc) h99 => keepB h97 h99 [b13, b50] ∧
 I23 s96 s98 h99)
theorem _root_.Go.V.Arr.ixa {α : Type} {sz : Nat} {f : α → List Lf} {h : Heap} {s : Slc} {l : List α} (a : Arr sz f h s l) {i : Int} {k : Nat} (hi : i = (k : Int)) {x : α} (hx : l[k]? = some x)
    {K : Nat → Nat → Prop} (c : ∀ b off, (∃ o, s.a = some (b, o)) → cellsAt h b off (f x) → K b off) : IxC s i sz K := by
  have hk : k < l.length := ltOf hx
  obtain ⟨b, off, hb⟩ := a.ne (by intro e; rw [e] at hk; simp at hk)
  subst hi
  refine ⟨by omega, by rw [a.len]; omega, a.pl (by intro e; rw [e] at hk; simp at hk), NilC.mk hb (c _ _ ⟨off, hb⟩ ?_)⟩
  have := a.at_ b off hb k x hx
  simpa using this
structure DI (B : Nat) (h : Heap) (s2 s3 : Slc) (os : List NdS) (L : List Nd) (xs : List Nat) : Prop where
  o2 : Own 4 nF h s2 os
  o3 : Own 1 jF h s3 xs
  im : Im h B s2 os L
  g2 : ∀ b off, s2.a = some (b, off) → B ≤ b
  g3 : ∀ b off, s3.a = some (b, off) → B ≤ b
  d23 : ∀ b off off', s2.a = some (b, off) → s3.a = some (b, off') → False
  d3 : ∀ o ∈ os, ∀ b off off', s3.a = some (b, off) → o.2.1.a = some (b, off') → False
structure DN (s2 s3 : Slc) (os : List NdS) (b : Nat) : Prop where
  n2 : ∀ off, s2.a ≠ some (b, off)
  n3 : ∀ off, s3.a ≠ some (b, off)
  no : ∀ o ∈ os, ∀ off, o.2.1.a ≠ some (b, off)

section
variable {B : Nat} {h h' : Heap} {s2 s3 : Slc} {os : List NdS} {L : List Nd} {xs : List Nat}
theorem DI.new (J : DI B h s2 s3 os L xs) {b : Nat} (hb : h.size ≤ b) : DN s2 s3 os b :=
  ⟨fun off hx => by have := (J.o2.lt _ _ hx).1; omega, fun off hx => by have := (J.o3.lt _ _ hx).1; omega, fun o ho off hx => by have := (J.im.ge o ho _ _ hx).2; omega⟩
theorem DI.ext {S : Nat → Prop} (J : DI B h s2 s3 os L xs) (e : Ext S h h') (hS : ∀ b, S b → DN s2 s3 os b) : DI B h' s2 s3 os L xs :=
  ⟨J.o2.ext e fun ⟨b, off, hb, hx⟩ => (hS b hx).n2 off hb, J.o3.ext e fun ⟨b, off, hb, hx⟩ => (hS b hx).n3 off hb, J.im.ext e fun o ho b off hb hx => (hS b hx).no o ho off hb, J.g2, J.g3, J.d23, J.d3⟩
theorem DI.ext0 (J : DI B h s2 s3 os L xs) (e : Ext0 h h') : DI B h' s2 s3 os L xs := J.ext e fun _ x => x.elim
theorem DI.add (J : DI B h s2 s3 os L xs) {nd : NdS} {n : Nd} (hn : nd.1 = n.1 ∧ Own 1 dF h nd.2.1 n.2.1 ∧ nd.2.2 = n.2.2) (gn : ∀ b off, nd.2.1.a = some (b, off) → B ≤ b ∧ DN s2 s3 os b) {s2' s3' : Slc} {h1 h2 h3 : Heap} {x : Nat} (hB : B ≤ h.size)
    (o2' : Own 4 nF h1 s2' (os ++ [nd])) (g2' : Grow s2 h s2' h1) (e : Ext0 h1 h2) (o3' : Own 1 jF h3 s3' (xs ++ [x])) (g3' : Grow s3 h2 s3' h3) : DI B h3 s2' s3' (os ++ [nd]) (L ++ [n]) (xs ++ [x]) := by
  have z1 := g2'.ext.size
  have z2 := e.size
  have z3 := g3'.ext.size
  have c2 : ∀ b off, s2'.a = some (b, off) → (∃ off, s2.a = some (b, off)) ∨ h.size ≤ b := fun b off hb => by
    rcases g2'.new with y | ⟨b', y, hb'⟩
    · exact .inl ⟨off, y ▸ hb⟩
    · rw [hb] at y; cases y; exact .inr hb'
  have c3 : ∀ b off, s3'.a = some (b, off) → (∃ off, s3.a = some (b, off)) ∨ h2.size ≤ b := fun b off hb => by
    rcases g3'.new with y | ⟨b', y, hb'⟩
    · exact .inl ⟨off, y ▸ hb⟩
    · rw [hb] at y; cases y; exact .inr hb'
  have l2 : ∀ b off, s2'.a = some (b, off) → b < h1.size := fun b off hb => (o2'.lt _ _ hb).1
  have lo : ∀ o ∈ os ++ [nd], ∀ b off, o.2.1.a = some (b, off) → B ≤ b ∧ b < h.size ∧ (∀ off, s2.a ≠ some (b, off)) ∧ ∀ off, s3.a ≠ some (b, off) := fun o ho b off hb => by
    rcases List.mem_append.1 ho with ho | ho
    · exact ⟨(J.im.ge o ho b off hb).1, (J.im.ge o ho b off hb).2, fun off' hx => J.im.sd o ho b off' off hx hb, fun off' hx => J.d3 o ho b off' off hx hb⟩
    · rw [List.mem_singleton.1 ho] at hb
      exact ⟨(gn b off hb).1, (hn.2.1.lt _ _ hb).1, (gn b off hb).2.n2, (gn b off hb).2.n3⟩
  have E : Ext (fun b => (∃ off, s2.a = some (b, off)) ∨ ∃ off, s3.a = some (b, off)) h h3 :=
    (g2'.ext.mono fun b hb => .inl hb).trans' (e.of0.trans (g3'.ext)) fun b hb hx => .inr hx
  have E13 : Ext (fun b => ∃ off, s3.a = some (b, off)) h1 h3 := e.of0.trans g3'.ext
  refine ⟨o2'.ext E13 fun ⟨b, off, hb, off', hx⟩ => ?_, o3', ⟨?_, fun k o n' ho hn' => ?_, fun o ho b off hb => ⟨(lo o ho b off hb).1, by have := (lo o ho b off hb).2.1; omega⟩, fun k k' o o' b off off' ho ho' hb hb' => ?_, fun o ho b off off' hb hb' => ?_⟩, fun b off hb => ?_, fun b off hb => ?_, fun b off off' hb hb' => ?_, fun o ho b off off' hb hb' => ?_⟩
  · rcases c2 b off hb with ⟨_, y⟩ | y
    · exact J.d23 b _ _ y hx
    · have := (J.o3.lt _ _ hx).1; omega
  · rw [List.length_append, List.length_append, J.im.len]; rfl
  · have keep : ∀ (sx : Slc) (bs : Tx), Own 1 dF h sx bs → (∀ b off, sx.a = some (b, off) → (∀ off, s2.a ≠ some (b, off)) ∧ ∀ off, s3.a ≠ some (b, off)) → Own 1 dF h3 sx bs := fun sx bs ox hx => ox.ext E fun ⟨b, off, hb, hy⟩ => hy.elim (fun ⟨off', z⟩ => (hx b off hb).1 off' z) fun ⟨off', z⟩ => (hx b off hb).2 off' z
    have hlen := J.im.len
    by_cases hk : k < os.length
    · rw [List.getElem?_append_left hk] at ho
      rw [List.getElem?_append_left (by omega)] at hn'
      obtain ⟨a1, a2, a3⟩ := J.im.at_ k o n' ho hn'
      have hm := List.mem_of_getElem? ho
      exact ⟨a1, keep _ _ a2 fun b off hb => (lo o (List.mem_append_left _ hm) b off hb).2.2, a3⟩
    · have hk1 := ltOf ho
      rw [List.length_append, List.length_singleton] at hk1
      have hk' : k = os.length := by omega
      subst hk'
      rw [List.getElem?_append_right (Nat.le_refl _), Nat.sub_self] at ho
      rw [hlen, List.getElem?_append_right (Nat.le_refl _), Nat.sub_self] at hn'
      cases ho; cases hn'
      exact ⟨hn.1, keep _ _ hn.2.1 fun b off hb => (lo nd (by simp) b off hb).2.2, hn.2.2⟩
  · have last : ∀ (q : Nat) (p : NdS), (os ++ [nd])[q]? = some p → (q < os.length ∧ os[q]? = some p) ∨ (q = os.length ∧ p = nd) := fun q p hp => by
      by_cases hq : q < os.length
      · rw [List.getElem?_append_left hq] at hp; exact .inl ⟨hq, hp⟩
      · have h1 := ltOf hp
        rw [List.length_append, List.length_singleton] at h1
        have hq' : q = os.length := by omega
        subst hq'
        rw [List.getElem?_append_right (Nat.le_refl _), Nat.sub_self] at hp
        cases hp; exact .inr ⟨rfl, rfl⟩
    rcases last k o ho with ⟨_, x1⟩ | ⟨rfl, rfl⟩ <;> rcases last k' o' ho' with ⟨_, y1⟩ | ⟨rfl, rfl⟩
    · exact J.im.dj k k' o o' b off off' x1 y1 hb hb'
    · exact absurd hb ((gn b off' hb').2.no o (List.mem_of_getElem? x1) off)
    · exact absurd hb' ((gn b off hb).2.no o' (List.mem_of_getElem? y1) off')
    · rfl
  · obtain ⟨_, y1, y2, _⟩ := lo o ho b off' hb'
    rcases c2 b off hb with ⟨_, y⟩ | y
    · exact y2 _ y
    · omega
  · rcases c2 b off hb with ⟨_, y⟩ | y
    · exact J.g2 _ _ y
    · omega
  · rcases c3 b off hb with ⟨_, y⟩ | y
    · exact J.g3 _ _ y
    · omega
  · rcases c3 b off' hb' with ⟨_, y⟩ | y
    · rcases c2 b off hb with ⟨_, z⟩ | z
      · exact J.d23 _ _ _ z y
      · have := (J.o3.lt _ _ y).1; omega
    · have := l2 b off hb; omega
  · obtain ⟨_, y1, _, y3⟩ := lo o ho b off' hb'
    rcases c3 b off hb with ⟨_, y⟩ | y
    · exact y3 _ y
    · omega
end

theorem DN.add {h h1 h2 h3 : Heap} {s2 s3 s2' s3' : Slc} {os : List NdS} {b : Nat} {nd : NdS} (n : DN s2 s3 os b) (hb : b < h.size) (g2 : Grow s2 h s2' h1) (g3 : Grow s3 h2 s3' h3) (hz : h.size ≤ h2.size) (hnd : ∀ off, nd.2.1.a ≠ some (b, off)) : DN s2' s3' (os ++ [nd]) b := by
  refine ⟨fun off hx => ?_, fun off hx => ?_, fun o ho off hx => ?_⟩
  · rcases g2.new with y | ⟨b', y, hb'⟩
    · exact n.n2 off (y ▸ hx)
    · rw [hx] at y; cases y; omega
  · rcases g3.new with y | ⟨b', y, hb'⟩
    · exact n.n3 off (y ▸ hx)
    · rw [hx] at y; cases y; omega
  · rcases List.mem_append.1 ho with ho | ho
    · exact n.no o ho off hx
    · rw [List.mem_singleton.1 ho] at hx; exact hnd off hx

theorem t93 {B : Nat} {h : Heap} {s11 s18 s19 : Slc} {os : List NdS} {W pre rest : List (Tx × Nat)} {nd : Tx × Nat → Nd} (hnd : ∀ e, (nd e).2.2.2 = firstOf W e.2) {path : Tx} {x : Nat} (hW : W = pre ++ (path, x) :: rest) (J : DI B h s18 s19 os (pre.map nd) (pre.map (·.2))) (hB : B ≤ h.size)
    {b50 b13 : Nat} {s46 : Slc} {u : Int} {bs : Tx} (hn1 : nd (path, x) = (path, bs, u, firstOf W x)) (k50 : Blk h b50 34 [.str (tx path), .slc s46, .int .i64 u, .str (tx path)]) {t42 t45 : ByteArray} (hp : t42 ++ ByteArray.mk #[(47 : UInt8)] ++ t45 = tx path) (hB5 : B ≤ b50) (n50 : DN s18 s19 os b50) (s50 : ∀ off, s46.a ≠ some (b50, off))
    (o46 : Own 1 dF h s46 bs) (n46 : ∀ b off, s46.a = some (b, off) → B ≤ b ∧ DN s18 s19 os b) (hB13 : B ≤ b13) (b13l : b13 < h.size) (n13 : DN s18 s19 os b13) {l11 : List Nat} (A11 : Arr 1 jF h s11 l11) (m11 : ∀ b off, s11.a = some (b, off) → b < B) {i : Nat} (h11 : l11[i]? = some x) (hl : pre.length ≤ 65536)
    {I : Slc → Slc → Heap → Prop} (k : ∀ s2 s3 os' h', DI B h' s2 s3 os' ((pre ++ [(path, x)]).map nd) ((pre ++ [(path, x)]).map (·.2)) → Ext (fun b => B ≤ b) h h' → (∀ b, DN s18 s19 os b → b < h.size → (∀ off, s46.a ≠ some (b, off)) → DN s2 s3 os' b) → I s2 s3 h') :
    T93 s11 s18 s19 (i : Int) b13 b50 t42 t45 s46 u h I := by
  unfold T93
  rw [hp]
  have l19 := J.o3.len
  rw [List.length_map] at l19
  have hol : os.length = pre.length := by rw [J.im.len, List.length_map]
  refine ⟨fun i56 t57 s58 i59 t60 h61 b62 => ∃ j : Nat, i56 = (j : Int) ∧ j ≤ pre.length ∧ t57 = tx path ∧ s58 = s46 ∧ i59 = u ∧ t60 = tx (if x ∈ (pre.take j).map (·.2) then firstOf W x else path) ∧ Ext (fun b => b = b50) h h61 ∧ b62 = pre.length - j, ⟨_, 0, rfl, Nat.zero_le _, rfl, rfl, rfl, rfl, Ext.refl _ _, rfl⟩, ?_⟩
  rintro i56 t57 s58 i59 t60 h61 b62 ⟨j, rfl, hj, rfl, rfl, rfl, rfl, e61, rfl⟩
  have J61 := J.ext e61 fun b hb => by rw [show b = b50 from hb]; exact n50
  have A61 := A11.ext e61 fun ⟨b, off, hb, hx⟩ => by have := m11 b off hb; have : b = b50 := hx; omega
  have z61 := e61.size
  refine Br.dec (fun hlt => ?_) fun hge => ?_
  · have hlt' : j < pre.length := by omega
    have hget := List.getElem?_eq_getElem hlt'
    generalize pre[j] = e at hget
    have htk : ((pre.take (j + 1)).map (·.2)) = (pre.take j).map (·.2) ++ [e.2] := by rw [List.take_add_one, hget]; simp
    have hgo : os[j]? = some (os[j]'(by omega)) := List.getElem?_eq_getElem (by omega)
    refine (J61.o3.arr jF_sized).ix rfl (x := e.2) (by rw [List.getElem?_map, hget]; rfl) fun b63 b64 hc => ⟨_, hc, A61.ix rfl h11 fun b66 b67 hc' => ⟨_, hc', Br.eq (fun he => ?_) fun he => ?_⟩⟩
    · obtain ⟨a1, a2, a3⟩ := J61.im.at_ j _ (nd e) hgo (by rw [List.getElem?_map, hget]; rfl)
      have he' : e.2 = x := by omega
      refine (J61.o2.arr nF_sized).ix rfl hgo fun b69 b70 hc2 => ⟨_, ⟨hc2.2.2.2.1, trivial⟩, Set.mk fun h72 hs72 e72 k72 => ⟨pre.length - (j + 1), by omega, j + 1, by rw [wi64 (by omega) (by omega)]; rfl, by omega, rfl, rfl, rfl, ?_, e61.trans e72, rfl⟩⟩
      rw [htk, if_pos (by simp [he']), show (os[j]'(by omega)).2.2.2 = firstOf W x from by rw [a3, hnd, he']]
    · have hne : e.2 ≠ x := fun hx => he (by rw [hx])
      refine ⟨pre.length - (j + 1), by omega, j + 1, by rw [wi64 (by omega) (by omega)]; rfl, by omega, rfl, rfl, rfl, ?_, e61, rfl⟩
      congr 1
      rw [htk]
      by_cases hm : x ∈ (pre.take j).map (·.2)
      · rw [if_pos hm, if_pos (List.mem_append_left _ hm)]
      · rw [if_neg hm, if_neg fun z => (List.mem_append.1 z).elim hm fun w => hne (List.mem_singleton.1 w).symm]
  · have hjl : j = pre.length := by omega
    subst hjl
    rw [List.take_length]
    have hfo : (if x ∈ pre.map (·.2) then firstOf W x else path) = firstOf W x := by
      split
      · rfl
      · rename_i hx; rw [hW, firstOf_new hx]
    rw [hfo]
    have o61 := o46.ext e61 fun ⟨b, off, hb, hx⟩ => s50 off (by rw [← show b = b50 from hx]; exact hb)
    have lb50 : b50 < h61.size := by have := k50.lt; omega
    have fin : ∀ (hA h1 h2 h3 : Heap) (s2' s3' : Slc), Ext0 h61 hA → Own 4 nF h1 s2' (os ++ [(path, s58, i59, firstOf W x)]) → Grow s18 hA s2' h1 → Ext0 h1 h2 → Own 1 jF h3 s3' (pre.map (·.2) ++ [x]) → Grow s19 h2 s3' h3 → I s2' s3' h3 := fun hA h1 h2 h3 s2' s3' eA o1 g1 e12 o3 g3 => by
      have JA := (J61.ext0 eA).add (nd := (path, s58, i59, firstOf W x)) (n := nd (path, x)) ⟨by rw [hn1], by rw [hn1]; exact o61.ext0 eA, by rw [hn1]⟩ n46 (by have := eA.size; omega) o1 g1 e12 o3 g3
      refine k s2' s3' _ h3 (by simpa using JA) ?_ fun b hn hb hs => DN.add hn (by have := eA.size; omega) g1 g3 (by have := g1.ext.size; have := e12.size; omega) hs
      refine (((e61.mono fun b hb => by rw [show b = b50 from hb]; exact hB5).trans eA.of0).trans (g1.ext.mono fun b ⟨off, hb⟩ => J.g2 b off hb)).trans (e12.of0.trans (g3.ext.mono fun b ⟨off, hb⟩ => J.g3 b off hb))
    have sz4 : ∀ {hh : Heap} {b : Nat}, Blk hh b 34 [.str (tx path), .slc s58, .int .i64 i59, .str (tx (firstOf W x))] → Arr 4 nF hh ⟨some (b, 0), 1, 1⟩ [((path, s58, i59, firstOf W x) : NdS)] := fun kb => (Own.new nF_sized (l := [((path, s58, i59, firstOf W x) : NdS)]) kb).arr nF_sized
    have sz1 : ∀ {hh : Heap} {b : Nat}, Blk hh b 3 [.int .i64 (x : Int)] → Arr 1 jF hh ⟨some (b, 0), 1, 1⟩ [x] := fun kb => (Own.new jF_sized (l := [x]) kb).arr jF_sized
    have bd2 : ((os.length + ([((path, s58, i59, firstOf W x) : NdS)] : List NdS).length) * 64) ≤ 140737488355328 := by simp; omega
    have bd3 : (((pre.map (·.2)).length + ([x] : List Nat).length) * 8) ≤ 140737488355328 := by simp; omega
    refine A61.ixa rfl h11 fun b75 b76 ⟨o75, ha75⟩ hc75 => ⟨_, hc75, ⟨New.mk fun b78 h79 hb78 hs79 e79 k79 => ⟨cellsAt.ext e79 id hc75, ⟨?_, New.mk fun b86 h87 hb86 hs87 e87 k87 => ?_⟩⟩, New.mk fun b92 h93 hb92 hs93 e93 k93 => New.mk fun b94 h95 hb94 hs95 e95 k95 => ?_⟩⟩
    · have J79 := J61.ext0 e79
      refine AppC.grow nF_sized (by decide) rfl J79.o2 (sz4 k79) bd2 fun s80 h81 o81 g81 => ?_
      have z81 := g81.ext.size
      refine ⟨g81.ext.keep2 (by omega) (by omega) (fun ⟨off, hx⟩ => n13.n2 off hx) (fun ⟨off, hx⟩ => n50.n2 off hx), cellsAt.ext g81.ext (fun ⟨off, hx⟩ => by have := m11 _ _ ha75; have := J.g2 _ _ hx; omega) (cellsAt.ext e79 id hc75), New.mk fun b82 h83 hb82 hs83 e83 k83 => ?_⟩
      exact AppC.grow jF_sized (by decide) rfl ((J79.o3.ext g81.ext fun ⟨b, off, hb, off', hx⟩ => J.d23 b off' off hx hb).ext0 e83) (sz1 k83) bd3 fun s84 h85 o85 g85 => ⟨g85.ext.keep2 (by omega) (by omega) (fun ⟨off, hx⟩ => n13.n3 off hx) (fun ⟨off, hx⟩ => n50.n3 off hx), fin h79 h81 h83 h85 s80 s84 e79 o81 g81 e83 o85 g85⟩
    · have E87 := e79.trans e87
      have J87 := J61.ext0 E87
      refine AppC.grow nF_sized (by decide) rfl J87.o2 ((sz4 k79).ext0 e87) bd2 fun s88 h89 o89 g89 => ?_
      have z89 := g89.ext.size
      refine ⟨g89.ext.keep2 (by omega) (by omega) (fun ⟨off, hx⟩ => n13.n2 off hx) (fun ⟨off, hx⟩ => n50.n2 off hx), ?_⟩
      exact AppC.grow jF_sized (by decide) rfl (J87.o3.ext g89.ext fun ⟨b, off, hb, off', hx⟩ => J.d23 b off' off hx hb) ((sz1 k87).ext g89.ext fun ⟨b, off, hb, off', hx⟩ => by cases hb; have := (J61.o2.lt _ _ hx).1; omega) bd3 fun s90 h91 o91 g91 => ⟨g91.ext.keep2 (by omega) (by omega) (fun ⟨off, hx⟩ => n13.n3 off hx) (fun ⟨off, hx⟩ => n50.n3 off hx), fin h87 h89 h89 h91 s88 s90 E87 o89 g89 (Ext.refl _ _) o91 g91⟩
    · have E95 := e93.trans e95
      have J95 := J61.ext0 E95
      refine AppC.grow nF_sized (by decide) rfl J95.o2 (sz4 k95) bd2 fun s96 h97 o97 g97 => ?_
      have z97 := g97.ext.size
      refine ⟨g97.ext.keep2 (by omega) (by omega) (fun ⟨off, hx⟩ => n13.n2 off hx) (fun ⟨off, hx⟩ => n50.n2 off hx), ?_⟩
      exact AppC.grow jF_sized (by decide) rfl (J95.o3.ext g97.ext fun ⟨b, off, hb, off', hx⟩ => J.d23 b off' off hx hb) (((sz1 k93).ext0 e95).ext g97.ext fun ⟨b, off, hb, off', hx⟩ => by cases hb; have := (J61.o2.lt _ _ hx).1; omega) bd3 fun s98 h99 o99 g99 => ⟨g99.ext.keep2 (by omega) (by omega) (fun ⟨off, hx⟩ => n13.n3 off hx) (fun ⟨off, hx⟩ => n50.n3 off hx), fin h95 h97 h97 h99 s96 s98 E95 o97 g97 (Ext.refl _ _) o99 g99⟩

end Go.V.YtdeihieblljfcaaGreat
/-! The document's Image. -/
namespace Go.V.YtdeihieblljfcaaGreat
open Go Go.V

def ndD (δ : Dc) (w : List (Tx × Nat)) (e : Tx × Nat) : Nd := (e.1, ((δ.files[e.2]?).map bytesD).getD [], ((δ.files[e.2]?).map fun c => unsW c.2).getD 0, firstOf w e.2)
def imageD (δ : Dc) : List Nd := (docWalk δ).map (ndD δ (docWalk δ))
def namesAt (δ : Dc) (i : Nat) : List (Tx × Nat) := ((nowD δ i).getD []).map fun p => (nameD δ i ++ 47 :: p.1, p.2)
def walkTo (δ : Dc) (i : Nat) : List (Tx × Nat) := ((List.range i).map (namesAt δ)).flatten
theorem walkTo_succ (δ : Dc) (i : Nat) : walkTo δ (i + 1) = walkTo δ i ++ namesAt δ i := by
  unfold walkTo; rw [List.range_succ, List.map_append, List.flatten_append]; simp
theorem walkTo_all (δ : Dc) : walkTo δ δ.dirs.length = docWalk δ := rfl
theorem walkTo_pre (δ : Dc) {i n : Nat} (h : i ≤ n) : ∃ r, walkTo δ n = walkTo δ i ++ r := by
  induction n with
  | zero => exact ⟨[], by rw [show i = 0 by omega]; simp⟩
  | succ n ih =>
    by_cases hi : i = n + 1
    · exact ⟨[], by rw [hi]; simp⟩
    · obtain ⟨r, hr⟩ := ih (by omega)
      exact ⟨r ++ namesAt δ n, by rw [walkTo_succ, hr, List.append_assoc]⟩
theorem keep0 {h h' : Heap} (e : Ext0 h h') : ∀ l : List Nat, (∀ b ∈ l, b < h.size) → keepB h h' l
  | [], _ => trivial
  | b :: l, hl => ⟨e.same b (hl b List.mem_cons_self) id, keep0 e l fun x hx => hl x (List.mem_cons_of_mem _ hx)⟩

theorem c93 {h : Heap} {M : Bl} {d : Nat} {δ : Dc} (X : DD h M d δ) (W : WD δ) (F : FilesAt δ) (hnm : ∀ q ∈ δ.dirs, q.1.length ≤ 1000 ∧ ∀ l ∈ q.2, ∀ p ∈ l, p.1.length ≤ 1000) (hwl : (docWalk δ).length ≤ 65536) {R : Slc → Heap → Prop}
    (k : ∀ s h', ImgR h h' s (imageD δ) → R s h') : Call Go.Proofs.Tryz.prog 93 [.lf (.ptr (some (d, 0)))] h [.one .slc] R := by
  have few := W.few
  refine ok93b ⟨fun s2 s3 i4 hh dd => ∃ (i : Nat) (os : List NdS), i4 = (i : Int) ∧ i ≤ δ.dirs.length ∧ Ext0 h hh ∧ DI h.size hh s2 s3 os ((walkTo δ i).map (ndD δ (docWalk δ))) ((walkTo δ i).map (·.2)) ∧ dd = δ.dirs.length - i,
    ⟨_, 0, [], rfl, Nat.zero_le _, Ext.refl _ _, ⟨Own.nil _ _ _, Own.nil _ _ _, ⟨rfl, fun k o n h => by simp at h, fun o h => by (cases h), fun k k' o o' b off off' h => by simp at h, fun o h => by (cases h)⟩, fun b off x => (by cases x), fun b off x => (by cases x), fun b off off' x => (by cases x), fun o h => (by cases h)⟩, rfl⟩, ?_⟩
  rintro s2 s3 i4 h5 dd ⟨i, os, rfl, hi, E5, J5, rfl⟩
  have X5 := X.ext0 E5
  obtain ⟨sd, sf, kb, A, B⟩ := X5.ex
  have hal := Lst.len A
  have z5 := E5.size
  refine NilC.mk rfl ⟨sd, kb.cell rfl, Br.dec (fun hlt => ?_) fun hge => ?_⟩
  rotate_left 1
  · have hil : i = δ.dirs.length := by omega
    subst hil
    exact k s2 h5 ⟨⟨os, J5.o2, J5.im⟩, J5.g2, E5⟩
  have hlt' : i < δ.dirs.length := by omega
  have hdir := List.getElem?_eq_getElem hlt'
  have hdm := List.getElem_mem hlt'
  generalize δ.dirs[i] = q at hdir hdm
  obtain ⟨dn, ws⟩ := q
  have hne := W.ways _ hdm
  obtain ⟨l, hlast⟩ : ∃ l, ws.getLast? = some l := ⟨ws.getLast hne, List.getLast?_eq_some_getLast hne⟩
  have hlm := List.mem_of_getLast? hlast
  have hnow : nowD δ i = some l := by unfold nowD; rw [hdir]; exact hlast
  have hname : nameD δ i = dn := by unfold nameD; rw [hdir]; rfl
  have hna : namesAt δ i = l.map fun p => (dn ++ 47 :: p.1, p.2) := by unfold namesAt; rw [hnow, hname]; rfl
  have hll := W.nl _ hdm l hlm
  obtain ⟨hdn, hpn⟩ := hnm _ hdm
  refine c130 X5 hnow W.bw fun p h12 Np e12 => New.mk fun b13 h14 hb13 hs14 e14 k14 => Set.mk fun h15 hs15 e15 k15 => ?_
  have z12 := e12.size
  have E15 : Ext0 h5 h15 := (e12.trans e14).tmp e15 (by omega)
  have Np15 : NmR h15 M p l := NmR.stab.go ((e14.of0 (S := fun b => b = b13)).trans e15) (fun b hb hm => by have := X.lt _ hm; have : b = b13 := hb; omega) (fun _ x => x) Np
  have J15 := J5.ext0 E15
  refine ⟨fun s18 s19 i20 hh dd => ∃ (j : Nat) (os : List NdS), i20 = (j : Int) ∧ j ≤ l.length ∧ Ext0 h hh ∧ DI h.size hh s18 s19 os ((walkTo δ i ++ (namesAt δ i).take j).map (ndD δ (docWalk δ))) ((walkTo δ i ++ (namesAt δ i).take j).map (·.2)) ∧ DN s18 s19 os b13 ∧ NmR hh M p l ∧ b13 < hh.size ∧ dd = l.length - j,
    ⟨_, 0, os, rfl, Nat.zero_le _, E5.trans E15, by rw [List.take_zero, List.append_nil]; exact J15, J5.new (by omega), Np15, by omega, rfl⟩, ?_⟩
  rintro s18 s19 i20 h21 dd ⟨j, os1, rfl, hj, E21, J21, N13, Np21, z13, rfl⟩
  have z21 := E21.size
  have pal := Np21.a.len
  rw [List.length_map] at pal
  refine Br.dec (fun hlt2 => ?_) fun hge2 => ?_
  rotate_left 1
  · have hjl : j = l.length := by omega
    have htk : walkTo δ i ++ (namesAt δ i).take j = walkTo δ (i + 1) := by rw [walkTo_succ, List.take_of_length_le (by rw [hna, List.length_map]; omega)]
    exact ⟨δ.dirs.length - (i + 1), by omega, i + 1, os1, by rw [wi64 (by omega) (by omega)]; rfl, by omega, E21, by rw [← htk]; exact J21, rfl⟩
  have hj' : j < l.length := by omega
  have hget := List.getElem?_eq_getElem hj'
  have hpm := List.getElem_mem hj'
  generalize l[j] = e at hget hpm
  obtain ⟨nm, x⟩ := e
  obtain ⟨c, hc, fo⟩ := F i l (nm, x) hnow hpm
  have hc : δ.files[x]? = some c := hc
  have X21 := X.ext0 E21
  obtain ⟨sd2, sf2, kb2, A2, B2⟩ := X21.ex
  have fewc := fo.few
  have lt21 : ∀ i, M i → i < h21.size := fun i hi => Nat.lt_of_lt_of_le (X.lt i hi) z21
  have hnb : p.2.a = p.2.a := rfl
  have hnap : (namesAt δ i)[j]? = some (dn ++ 47 :: nm, x) := by rw [hna, List.getElem?_map, hget]; rfl
  have htk : (namesAt δ i).take (j + 1) = (namesAt δ i).take j ++ [(dn ++ 47 :: nm, x)] := by rw [List.take_add_one, hnap]; rfl
  have hW : ∃ rest, docWalk δ = (walkTo δ i ++ (namesAt δ i).take j) ++ (dn ++ 47 :: nm, x) :: rest := by
    obtain ⟨r, hr⟩ := walkTo_pre δ (i := i + 1) (n := δ.dirs.length) (by omega)
    refine ⟨(namesAt δ i).drop (j + 1) ++ r, ?_⟩
    rw [walkTo_all, walkTo_succ] at hr
    rw [hr]
    have hh : namesAt δ i = (namesAt δ i).take j ++ (dn ++ 47 :: nm, x) :: (namesAt δ i).drop (j + 1) := by
      conv => lhs; rw [← List.take_append_drop (j + 1) (namesAt δ i), htk]
      simp
    conv => lhs; rw [hh]
    simp
  obtain ⟨rest, hW⟩ := hW
  have hpl : (walkTo δ i ++ (namesAt δ i).take j).length ≤ 65536 := by
    rw [hW, List.length_append] at hwl; omega
  have hpath : tx dn ++ ByteArray.mk #[(47 : UInt8)] ++ tx nm = tx (dn ++ 47 :: nm) := by
    show tx dn ++ tx [47] ++ tx nm = _
    rw [tx_app, tx_app]; simp
  have hnn := hpn l hlm _ hpm
  simp only at hnn hdn
  refine ⟨fun s18' s19' h69 => ∃ os', Ext0 h h69 ∧ DI h.size h69 s18' s19' os' ((walkTo δ i ++ (namesAt δ i).take (j + 1)).map (ndD δ (docWalk δ))) ((walkTo δ i ++ (namesAt δ i).take (j + 1)).map (·.2)) ∧ DN s18' s19' os' b13 ∧ NmR h69 M p l ∧ b13 < h69.size, ?_, ?_⟩
  rotate_left 1
  · rintro s67 s68 h69 ⟨os', g1, g2, g3, g4, g5⟩
    exact ⟨l.length - (j + 1), by omega, j + 1, os', by rw [wi64 (by omega) (by omega)]; rfl, by omega, g1, g2, g3, g4, g5, rfl⟩
  have Bj : (l.map (·.2))[j]? = some x := by rw [List.getElem?_map, hget]; rfl
  have Aj : (l.map (·.1))[j]? = some nm := by rw [List.getElem?_map, hget]; rfl
  refine NilC.mk rfl ⟨sf2, kb2.cell rfl, Np21.b.ix rfl Bj fun b27 b28 hc27 => ⟨_, hc27, Lst.ix B2 rfl hc fun qq b30 b31 hq hc30 => ⟨_, _, hc30, New.mk fun b34 h35 hb34 hs35 e35 k35 => ⟨cellsAt.ext e35 id hc30, cellsAt.ext e35 id hc27, (kb2.ext e35).cell rfl, Set.mk fun h36 hs36 e36 k36 => ?_⟩⟩⟩⟩
  have E36 : Ext0 h21 h36 := e35.tmp e36 (by omega)
  have X36 := X21.ext0 E36
  obtain ⟨sd3, sf3, kb3, A3, B3⟩ := X36.ex
  have Np36 : NmR h36 M p l := NmR.stab.go E36 (fun _ x => x.elim) (fun _ x => x) Np21
  have Q36 : FilQ h36 M qq c := FilQ.stab.go E36 (fun _ x => x.elim) (fun _ x => x) hq
  have z36 := E36.size
  have lt36 : ∀ i, M i → i < h36.size := fun i hi => Nat.lt_of_lt_of_le (lt21 i hi) z36
  have tail : ∀ (hX : Heap) (bX : Nat) (sX : Slc), Ext0 h36 hX → Blk hX bX 34 [.str (tx (dn ++ 47 :: nm)), .slc sX, .int .i64 (unsW c.2), .str (tx (dn ++ 47 :: nm))] → h36.size ≤ bX → Own 1 dF hX sX (appl c.1 c.2) → (∀ b off, sX.a = some (b, off) → h36.size ≤ b ∧ b ≠ bX) →
      T93 p.2 s18 s19 (j : Int) b13 bX (tx dn) (tx nm) sX (unsW c.2) hX fun s18' s19' h69 => ∃ os', Ext0 h h69 ∧ DI h.size h69 s18' s19' os' ((walkTo δ i ++ (namesAt δ i).take (j + 1)).map (ndD δ (docWalk δ))) ((walkTo δ i ++ (namesAt δ i).take (j + 1)).map (·.2)) ∧ DN s18' s19' os' b13 ∧ NmR h69 M p l ∧ b13 < h69.size := fun hX bX sX eX kX hbX oX nX => by
    have eA := E36.trans eX
    have JX := J21.ext0 eA
    have zX := eX.size
    have J36 := J21.ext0 E36
    refine t93 (nd := ndD δ (docWalk δ)) (fun _ => rfl) hW JX (by omega) (u := unsW c.2) (bs := appl c.1 c.2) ?_ kX hpath (by omega) (J36.new hbX) (fun off hx => (nX _ _ hx).2 rfl) oX (fun b off hb => ⟨by have := (nX _ _ hb).1; omega, J36.new (nX _ _ hb).1⟩) (by omega) (by omega) N13 (NmR.stab.go eX (fun _ x => x.elim) (fun _ x => x) Np36).b (fun b off hb => X.lt _ (Np21.mb b off hb)) Bj hpl fun s2' s3' os' h' J' e' n' => ?_
    · unfold ndD; simp only [hc, Option.map_some, Option.getD_some]; rfl
    · refine ⟨os', (E21.trans eA).trans' e' fun b hb hx => by omega, by rw [htk, ← List.append_assoc]; exact J', n' b13 N13 (by omega) fun off hx => by have := (nX _ _ hx).1; omega, NmR.stab.go (eX.of0.trans e') (fun b hb hm => by have := X.lt _ hm; omega) (fun _ x => x) Np36, by have := e'.size; omega⟩
  have cz : (↑(ByteArray.size (tx dn) + 1) : Int) ≤ 9223372036854775807 := by rw [tx_size]; omega
  have cz2 : (↑(ByteArray.size (tx dn ++ ByteArray.mk #[(47 : UInt8)]) + ByteArray.size (tx nm)) : Int) ≤ 9223372036854775807 := by
    show (↑(ByteArray.size (tx dn ++ tx [47]) + ByteArray.size (tx nm)) : Int) ≤ _
    rw [tx_app, tx_size, tx_size, List.length_append]; simp; omega
  refine NilC.mk rfl ⟨sd3, kb3.cell rfl, Lst.ix A3 rfl hdir fun qd b40 b41 hqd hcd => ?_⟩
  have hcd1 : cellsAt h36 b40 (b41 + 0) [.str (tx dn)] := by
    have : qd.1 = dn := hqd.1
    rw [← this]; exact ⟨hcd.1, trivial⟩
  refine ⟨_, hcd1, cz, Np36.a.ix rfl Aj fun b43 b44 hcn => ⟨_, hcn, cz2, ⟨?_, ?_⟩⟩⟩
  · refine c139 Q36 lt36 fo.ch fo.len (by omega) fun s46 h47 o46 f47 => ⟨keep0 f47.ext _ (by simp; omega), cellsAt.ext f47.ext id hcn, cellsAt.ext f47.ext id hcd1, (kb3.ext f47.ext).cell rfl, ⟨?_, ?_⟩⟩
    · have Q47 : FilQ h47 M qq c := FilQ.stab.go f47.ext (fun _ x => x.elim) (fun _ x => x) Q36
      have z47 := f47.ext.size
      refine c152 Q47 (fun i hi => Nat.lt_of_lt_of_le (lt36 i hi) z47) (by omega) fun h49 e49 => ⟨keep0 e49 _ (by simp; omega), cellsAt.ext e49 id (cellsAt.ext f47.ext id hcn), cellsAt.ext e49 id (cellsAt.ext f47.ext id hcd1), ((kb3.ext f47.ext).ext e49).cell rfl, New.mk fun b50 h51 hb50 hs51 e51 k51 => ?_⟩
      have z49 := e49.size
      have e4951 := (f47.ext.trans e49).trans e51
      refine ⟨cellsAt.ext e4951 id hcn, cellsAt.ext e4951 id hcd1, (kb3.ext e4951).cell rfl, Set.mk fun h52 hs52 e52 k52 => Set.mk fun h53 hs53 e53 k53 => ?_⟩
      rw [hpath] at k53
      exact tail h53 b50 s46 ((e4951.tmp e52 (by omega)).tmp e53 (by omega)) (k53 (by omega)) (by omega) (((((o46.ext0 e49).ext0 e51).ext e52 fun ⟨b, off, hb, hx⟩ => by have := (o46.lt _ _ hb).1; have : b = b50 := hx; omega).ext e53 fun ⟨b, off, hb, hx⟩ => by have := (o46.lt _ _ hb).1; have : b = b50 := hx; omega)) fun b off hb => ⟨f47.new _ _ hb, by have := (o46.lt _ _ hb).1; omega⟩
    · refine New.mk fun b100 h101 hb100 hs101 e101 k101 => ?_
      have z47 := f47.ext.size
      have e47101 := f47.ext.trans e101
      have Q101 : FilQ h101 M qq c := FilQ.stab.go e47101 (fun _ x => x.elim) (fun _ x => x) Q36
      refine ⟨cellsAt.ext e47101 id hcn, cellsAt.ext e47101 id hcd1, (kb3.ext e47101).cell rfl, c152 Q101 (fun i hi => Nat.lt_of_lt_of_le (lt36 i hi) e47101.size) (by omega) fun h103 e103 => ⟨keep0 e103 _ (by simp; omega), cellsAt.ext e103 id (cellsAt.ext e47101 id hcn), cellsAt.ext e103 id (cellsAt.ext e47101 id hcd1), ((kb3.ext e47101).ext e103).cell rfl, Set.mk fun h52 hs52 e52 k52 => Set.mk fun h53 hs53 e53 k53 => ?_⟩⟩
      have z103 := e103.size
      rw [hpath] at k53
      exact tail h53 b100 s46 (((e47101.trans e103).tmp e52 (by omega)).tmp e53 (by omega)) (k53 (by omega)) (by omega) (((((o46.ext0 e101).ext0 e103).ext e52 fun ⟨b, off, hb, hx⟩ => by have := (o46.lt _ _ hb).1; have : b = b100 := hx; omega).ext e53 fun ⟨b, off, hb, hx⟩ => by have := (o46.lt _ _ hb).1; have : b = b100 := hx; omega)) fun b off hb => ⟨f47.new _ _ hb, by have := (o46.lt _ _ hb).1; omega⟩
  · refine New.mk fun b59 h60 hb59 hs60 e60 k60 => ?_
    have Q60 : FilQ h60 M qq c := FilQ.stab.go e60 (fun _ x => x.elim) (fun _ x => x) Q36
    have lt60 : ∀ i, M i → i < h60.size := fun i hi => Nat.lt_of_lt_of_le (lt36 i hi) e60.size
    refine ⟨cellsAt.ext e60 id hcn, cellsAt.ext e60 id hcd1, (kb3.ext e60).cell rfl, c139 Q60 lt60 fo.ch fo.len (by omega) fun s46 h47 o46 f47 => ⟨keep0 f47.ext _ (by simp; omega), cellsAt.ext f47.ext id (cellsAt.ext e60 id hcn), cellsAt.ext f47.ext id (cellsAt.ext e60 id hcd1), ((kb3.ext e60).ext f47.ext).cell rfl, ?_⟩⟩
    have z47 := f47.ext.size
    have Q47 : FilQ h47 M qq c := FilQ.stab.go f47.ext (fun _ x => x.elim) (fun _ x => x) Q60
    have e47 := e60.trans f47.ext
    refine c152 Q47 (fun i hi => Nat.lt_of_lt_of_le (lt60 i hi) z47) (by omega) fun h103 e103 => ⟨keep0 e103 _ (by simp; omega), cellsAt.ext e103 id (cellsAt.ext e47 id hcn), cellsAt.ext e103 id (cellsAt.ext e47 id hcd1), ((kb3.ext e47).ext e103).cell rfl, Set.mk fun h52 hs52 e52 k52 => Set.mk fun h53 hs53 e53 k53 => ?_⟩
    have z103 := e103.size
    rw [hpath] at k53
    exact tail h53 b59 s46 (((e47.trans e103).tmp e52 (by omega)).tmp e53 (by omega)) (k53 (by omega)) (by omega) ((((o46.ext0 e103).ext e52 fun ⟨b, off, hb, hx⟩ => by have := f47.new _ _ hb; have : b = b59 := hx; omega).ext e53 fun ⟨b, off, hb, hx⟩ => by have := f47.new _ _ hb; have : b = b59 := hx; omega)) fun b off hb => ⟨by have := f47.new _ _ hb; omega, by have := f47.new _ _ hb; omega⟩

end Go.V.YtdeihieblljfcaaGreat
