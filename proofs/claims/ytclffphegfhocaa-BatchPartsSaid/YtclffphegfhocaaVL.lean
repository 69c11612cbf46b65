/- This text proves a part of the laws of seat Ytclffphegfhocaa, under no condition: VL. -/
import Derived.Test.YtclffphegfhocaaVMain
import Derived.IntWalk
set_option linter.unusedVariables false
set_option linter.unusedSimpArgs false
/-! Words for what is left to prove: heaps that grow, rows of elements, branches. -/
namespace Go.V

/-- From h on to h': nothing that was there has turned but the blocks of S. -/
structure Ext (S : Nat → Prop) (h h' : Heap) : Prop where
  size : h.size ≤ h'.size
  same : ∀ b, b < h.size → ¬ S b → h'[b]? = h[b]?

def none' : Nat → Prop := fun _ => False
abbrev Ext0 (h h' : Heap) : Prop := Ext none' h h'

theorem Ext.refl (S : Nat → Prop) (h : Heap) : Ext S h h := ⟨Nat.le_refl _, fun _ _ _ => rfl⟩
theorem Ext.trans {S : Nat → Prop} {a b c : Heap} (h : Ext S a b) (k : Ext S b c) : Ext S a c :=
  ⟨Nat.le_trans h.size k.size, fun i hi hs => (k.same i (Nat.lt_of_lt_of_le hi h.size) hs).trans (h.same i hi hs)⟩
theorem Ext.mono {S T : Nat → Prop} {a b : Heap} (h : Ext S a b) (hs : ∀ i, S i → T i) : Ext T a b := ⟨h.size, fun i hi ht => h.same i hi fun x => ht (hs i x)⟩
theorem Ext.of0 {S : Nat → Prop} {a b : Heap} (h : Ext0 a b) : Ext S a b := h.mono fun _ x => x.elim
/-- What is written lies in S, or wasn't there at the start. -/
theorem Ext.trans' {S T : Nat → Prop} {a b c : Heap} (h : Ext S a b) (k : Ext T b c) (hs : ∀ i, i < a.size → T i → S i) : Ext S a c :=
  ⟨Nat.le_trans h.size k.size, fun i hi hn => (k.same i (Nat.lt_of_lt_of_le hi h.size) fun x => hn (hs i hi x)).trans (h.same i hi hn)⟩
theorem Ext.then0 {S : Nat → Prop} {a b c : Heap} (h : Ext S a b) (k : Ext0 b c) : Ext S a c := h.trans k.of0
theorem Ext.keep {S : Nat → Prop} {h h' : Heap} (e : Ext S h h') {b : Nat} (hb : b < h.size) (hs : ¬ S b := by exact id) : keepB h h' [b] := ⟨e.same b hb hs, trivial⟩
theorem Ext.keep2 {S : Nat → Prop} {h h' : Heap} (e : Ext S h h') {b c : Nat} (hb : b < h.size) (hc : c < h.size) (hs : ¬ S b := by exact id) (hs' : ¬ S c := by exact id) : keepB h h' [b, c] := ⟨e.same b hb hs, e.same c hc hs', trivial⟩

/-- A block known whole. -/
def Blk (h : Heap) (b : Nat) (t : TypeId) (cs : List Lf) : Prop := h[b]? = some (.cells (cs.map Lf.val).toArray t (0, 0))

theorem Blk.lt {h : Heap} {b : Nat} {t : TypeId} {cs : List Lf} (k : Blk h b t cs) : b < h.size := size_pos_of_getElem? k
theorem Blk.ext {S : Nat → Prop} {h h' : Heap} {b : Nat} {t : TypeId} {cs : List Lf} (k : Blk h b t cs) (e : Ext S h h') (hs : ¬ S b := by exact id) : Blk h' b t cs := (e.same b k.lt hs).trans k
theorem Blk.cell {h : Heap} {b : Nat} {t : TypeId} {cs : List Lf} (k : Blk h b t cs) {off : Nat} {x : Lf} (hx : cs[off]? = some x) : cellsAt h b off [x] :=
  ⟨⟨_, _, _, k, by simp [hx]⟩, trivial⟩

theorem cellsAt.ext {S : Nat → Prop} {h h' : Heap} (e : Ext S h h') {b : Nat} (hs : ¬ S b) : ∀ {l : List Lf} {off : Nat}, cellsAt h b off l → cellsAt h' b off l
  | [], _, _ => trivial
  | x :: l, off, ⟨⟨c, t, fz, hb, hx⟩, hr⟩ => ⟨⟨c, t, fz, (e.same b (size_pos_of_getElem? hb) hs).trans hb, hx⟩, cellsAt.ext e hs hr⟩

theorem cellsAt.lt {h : Heap} {b off : Nat} {x : Lf} {l : List Lf} (k : cellsAt h b off (x :: l)) : b < h.size := let ⟨⟨_, _, _, hb, _⟩, _⟩ := k; size_pos_of_getElem? hb

/-! ### Steps -/

theorem Br.mk {b : Bool} {X Y : Prop} (ht : b = true → X) (hf : b = false → Y) : Br b X Y := by
  cases b
  · exact hf rfl
  · exact ht rfl
theorem Br.dec {c : Prop} [Decidable c] {X Y : Prop} (ht : c → X) (hf : ¬ c → Y) : Br (decide c) X Y :=
  Br.mk (fun h => ht (of_decide_eq_true h)) (fun h => hf (of_decide_eq_false h))
theorem Br.eq {a b : Int} {X Y : Prop} (ht : a = b → X) (hf : a ≠ b → Y) : Br (a == b) X Y :=
  Br.mk (fun h => ht (by simpa using h)) (fun h => hf (by simpa using h))
theorem Br.ne {a b : Int} {X Y : Prop} (ht : a ≠ b → X) (hf : a = b → Y) : Br (a != b) X Y :=
  Br.mk (fun h => ht (by simpa using h)) (fun h => hf (by simpa using h))
theorem Br.not {a : Bool} {X Y : Prop} (ht : a = false → X) (hf : a = true → Y) : Br (!a) X Y :=
  Br.mk (fun h => ht (by simpa using h)) (fun h => hf (by simpa using h))
theorem Br.t {X Y : Prop} {b : Bool} (h : b = true) (x : X) : Br b X Y := by subst h; exact x
theorem Br.f {X Y : Prop} {b : Bool} (h : b = false) (y : Y) : Br b X Y := by subst h; exact y

theorem NilC.mk {p : Option (Nat × Nat)} {b off : Nat} {K : Nat → Nat → Prop} (h : p = some (b, off)) (k : K b off) : NilC p K := by subst h; exact k

theorem hnew_get (h : Heap) (t : TypeId) (cs : List Lf) : (hnew h t cs)[h.size]? = some (.cells (cs.map Lf.val).toArray t (0, 0)) := by simp [hnew]
theorem push_ext (h : Heap) (o : Obj) : Ext0 h (h.push o) := ⟨by simp, fun b hb _ => by rw [Array.getElem?_push, if_neg (by omega)]⟩

/-- A new block. -/
theorem New.mk {t : TypeId} {cs : List Lf} {h : Heap} {K : Nat → Heap → Prop} (k : ∀ b h', b = h.size → h'.size = h.size + 1 → Ext0 h h' → Blk h' b t cs → K b h') : New t cs h K := by
  rintro b h' rfl rfl
  exact k _ _ rfl (by simp [hnew]) (push_ext h _) (hnew_get h t cs)

theorem set_ext (h : Heap) (b : Nat) (o : Obj) : Ext (fun x => x = b) h (h.setIfInBounds b o) :=
  ⟨by simp, fun i hi hs => by rw [Array.getElem?_setIfInBounds_ne (fun e => hs e.symm)]⟩

/-- A variable that is followed is written. -/
theorem Set.mk {b : Nat} {t : TypeId} {cs : List Lf} {h : Heap} {K : Heap → Prop} (k : ∀ h', h'.size = h.size → Ext (fun x => x = b) h h' → (b < h.size → Blk h' b t cs) → K h') : Set b t cs h K := by
  rintro h' rfl
  exact k _ (by simp [hset]) (set_ext h b _) (fun hb => by simp [Blk, hset, hb])

/-- What a call comes to, weakened. -/
def CurImp : (ts : List LT) → Cur ts (Heap → Prop) → Cur ts (Heap → Prop) → Prop
  | [], R, R' => ∀ h, R h → R' h
  | t :: ts, R, R' => ∀ x : t.den, CurImp ts (R x) (R' x)

theorem app_imp : ∀ {ts : List LT} {R R' : Cur ts (Heap → Prop)} {l : List Lf} {h : Heap}, CurImp ts R R' → app ts R l (fun p => p h) → app ts R' l fun p => p h
  | [], _, _, [], _, k, a => k _ a
  | t :: ts, R, R', x :: l, h, k, a => by
    simp only [app] at a ⊢
    split at a
    · rename_i d hd; exact app_imp (k d) a
    · exact a
  | [], _, _, _ :: _, _, _, a => a.elim
  | _ :: _, _, _, [], _, _, a => a.elim

theorem ExL_mono : ∀ {ts : List LT} {A B : List Lf → Prop}, (∀ l, A l → B l) → ExL ts A → ExL ts B
  | [], _, _, k, a => k _ a
  | _ :: ts, _, _, k, ⟨x, a⟩ => ⟨x, ExL_mono (ts := ts) (fun l => k _) a⟩

theorem Call.mono {P : Program} {f : FuncId} {args : List VV} {h : Heap} {vts : List VT} {R R' : Cur (lts vts) (Heap → Prop)} (c : Call P f args h vts R) (k : CurImp (lts vts) R R') : Call P f args h vts R' :=
  fun W hW => (c W hW).mono fun e W' ⟨o, x⟩ => ⟨o, ExL_mono (fun l ⟨e, a⟩ => ⟨e, app_imp k a⟩) x⟩

/-! ### Numbers -/
theorem wi64 {n : Int} (h1 : -9223372036854775808 ≤ n) (h2 : n ≤ 9223372036854775807) : IntKind.wrap .i64 n = n := IntWalk.i64_in n ⟨h1, h2⟩
theorem wu64 {n : Int} (h1 : 0 ≤ n) (h2 : n ≤ 18446744073709551615) : IntKind.wrap .u64 n = n := IntWalk.u64_in n ⟨h1, h2⟩
theorem wu32 {n : Int} (h1 : 0 ≤ n) (h2 : n ≤ 4294967295) : IntKind.wrap .u32 n = n := IntWalk.u32_in n ⟨h1, h2⟩
theorem wu8 {n : Int} (h1 : 0 ≤ n) (h2 : n ≤ 255) : IntKind.wrap .u8 n = n := IntWalk.u8_in n ⟨h1, h2⟩

/-! ### Rows of elements -/

/-- A slice reads as a list: each element lies in sz cells, as f tells. -/
structure Arr {α : Type} (sz : Nat) (f : α → List Lf) (h : Heap) (s : Slc) (l : List α) : Prop where
  len : s.len = l.length
  ne : l ≠ [] → ∃ b off, s.a = some (b, off)
  at_ : ∀ b off, s.a = some (b, off) → ∀ i x, l[i]? = some x → cellsAt h b (off + i * sz) (f x)

/-- Where a slice's cells lie. -/
def Slc.inS (s : Slc) (S : Nat → Prop) : Prop := ∃ b off, s.a = some (b, off) ∧ S b

theorem Arr.ext {α : Type} {sz : Nat} {f : α → List Lf} {S : Nat → Prop} {h h' : Heap} {s : Slc} {l : List α} (a : Arr sz f h s l) (e : Ext S h h') (hs : ¬ s.inS S) : Arr sz f h' s l :=
  ⟨a.len, a.ne, fun b off hb i x hx => (a.at_ b off hb i x hx).ext e fun k => hs ⟨b, off, hb, k⟩⟩
theorem Arr.ext0 {α : Type} {sz : Nat} {f : α → List Lf} {h h' : Heap} {s : Slc} {l : List α} (a : Arr sz f h s l) (e : Ext0 h h') : Arr sz f h' s l :=
  a.ext e fun ⟨_, _, _, k⟩ => k
theorem Arr.nil {α : Type} (sz : Nat) (f : α → List Lf) (h : Heap) (c : Nat) : Arr sz f h ⟨none, 0, c⟩ ([] : List α) := ⟨rfl, fun x => absurd rfl x, fun b off e => by cases e⟩

/-- An element is read. -/
theorem Arr.ix {α : Type} {sz : Nat} {f : α → List Lf} {h : Heap} {s : Slc} {l : List α} (a : Arr sz f h s l) {i : Int} {k : Nat} (hi : i = (k : Int)) {x : α} (hx : l[k]? = some x)
    {K : Nat → Nat → Prop} (c : ∀ b off, cellsAt h b off (f x) → K b off) : IxC s i sz K := by
  have hk : k < l.length := by
    rcases Nat.lt_or_ge k l.length with h' | h'
    · exact h'
    · rw [List.getElem?_eq_none h'] at hx; cases hx
  obtain ⟨b, off, hb⟩ := a.ne (by intro e; rw [e] at hk; simp at hk)
  subst hi
  refine ⟨by omega, by rw [a.len]; omega, NilC.mk hb (c _ _ ?_)⟩
  have := a.at_ b off hb k x hx
  simpa using this

/-- A piece of a row. -/
theorem Arr.sub {α : Type} {sz : Nat} {f : α → List Lf} {h : Heap} {s : Slc} {l : List α} (a : Arr sz f h s l) {lo hi m : Nat} (h1 : lo ≤ hi) (h2 : hi ≤ l.length) (h3 : hi ≤ m) :
    Arr sz f h (s.sub sz lo hi m) ((l.take hi).drop lo) := by
  refine ⟨?_, fun hne => ?_, fun b off hb i x hx => ?_⟩
  · simp [Slc.sub]; omega
  · have : l ≠ [] := by rintro rfl; simp at hne
    obtain ⟨b, off, hb⟩ := a.ne this
    unfold Slc.sub
    by_cases e : m = lo
    · exact ⟨b, off, by simp [e, hb]⟩
    · exact ⟨b, off + lo * sz, by simp [e, hb]⟩
  · have hx' : l[lo + i]? = some x ∧ lo + i < hi := by
      simp only [List.getElem?_drop, List.getElem?_take] at hx
      split at hx
      · rename_i hlt; exact ⟨hx, hlt⟩
      · cases hx
    unfold Slc.sub at hb
    simp only at hb
    by_cases e : m = lo
    · exfalso; omega
    · rw [if_neg e] at hb
      cases hsa : s.a with
      | none => rw [hsa] at hb; cases hb
      | some p =>
        obtain ⟨b0, o0⟩ := p
        rw [hsa] at hb
        simp only [Option.some.injEq, Prod.mk.injEq] at hb
        obtain ⟨rfl, rfl⟩ := hb
        have := a.at_ b0 o0 hsa (lo + i) x hx'.1
        rw [Nat.add_mul, ← Nat.add_assoc] at this
        exact this


/-- A slice of the call's own: it is nil, or the whole of a block of its own. -/
structure Own {α : Type} (sz : Nat) (f : α → List Lf) (h : Heap) (s : Slc) (l : List α) : Prop where
  len : s.len = l.length
  lec : s.len ≤ s.cap
  blk : (s.a = none ∧ s.cap = 0) ∨ ∃ b c e, s.a = some (b, 0) ∧ h[b]? = some (.cells c e (0, 0)) ∧ c.size = s.cap * sz ∧ c.toList.take (l.length * sz) = (l.flatMap f).map Lf.val

/-- Each element lies in sz cells. -/
def Sized {α : Type} (sz : Nat) (f : α → List Lf) : Prop := ∀ x, (f x).length = sz

theorem flat_len {α : Type} {sz : Nat} {f : α → List Lf} (hf : Sized sz f) : ∀ l : List α, (l.flatMap f).length = l.length * sz
  | [] => by simp
  | x :: l => by simp [flat_len hf l, hf x, Nat.add_mul]; omega

theorem flat_get {α : Type} {sz : Nat} {f : α → List Lf} (hf : Sized sz f) : ∀ (l : List α) (i : Nat) (x : α), l[i]? = some x → ((l.flatMap f).drop (i * sz)).take sz = f x
  | [], i, x, h => by simp at h
  | y :: l, 0, x, h => by
    simp at h; subst h
    simp [← hf y]
  | y :: l, i + 1, x, h => by
    have := flat_get hf l i x (by simpa using h)
    rw [List.flatMap_cons, Nat.add_mul, Nat.one_mul, Nat.add_comm, ← List.drop_drop, show (f y ++ l.flatMap f).drop sz = l.flatMap f by rw [← hf y]; simp]
    exact this

theorem cells_of_take {h : Heap} {b : Nat} {c : Array Value} {e : TypeId} {fz : Nat × Nat} (hb : h[b]? = some (.cells c e fz)) : ∀ (xs : List Lf) (off : Nat),
    (∀ j y, xs[j]? = some y → c[off + j]? = some y.val) → cellsAt h b off xs
  | [], _, _ => trivial
  | x :: xs, off, k => ⟨⟨c, e, fz, hb, by simpa using k 0 x rfl⟩, cells_of_take hb xs (off + 1) fun j y hy => by
      have := k (j + 1) y (by simpa using hy)
      rwa [show off + (j + 1) = off + 1 + j by omega] at this⟩

theorem Own.arr {α : Type} {sz : Nat} {f : α → List Lf} (hf : Sized sz f) {h : Heap} {s : Slc} {l : List α} (o : Own sz f h s l) : Arr sz f h s l := by
  refine ⟨o.len, fun hne => ?_, fun b off hb i x hx => ?_⟩
  · rcases o.blk with ⟨ha, hc⟩ | ⟨b, c, e, ha, _⟩
    · have := o.len; have := o.lec
      have : l.length = 0 := by omega
      exact absurd (List.length_eq_zero_iff.1 this) hne
    · exact ⟨b, 0, ha⟩
  · rcases o.blk with ⟨ha, hc⟩ | ⟨b', c, e, ha, hblk, hsz, htk⟩
    · rw [ha] at hb; cases hb
    · rw [ha] at hb; cases hb
      have hi : i < l.length := by
        rcases Nat.lt_or_ge i l.length with h' | h'
        · exact h'
        · rw [List.getElem?_eq_none h'] at hx; cases hx
      have hfl := flat_get hf l i x hx
      refine cells_of_take hblk _ _ fun j y hy => ?_
      have hj : j < sz := by
        have := hf x
        rcases Nat.lt_or_ge j (f x).length with h' | h'
        · omega
        · rw [List.getElem?_eq_none h'] at hy; cases hy
      have h1 : (l.flatMap f)[i * sz + j]? = some y := by
        rw [← hfl] at hy
        simp only [List.getElem?_take, List.getElem?_drop] at hy
        rw [if_pos hj] at hy; exact hy
      have h2 : ((l.flatMap f).map Lf.val)[i * sz + j]? = some y.val := by simp [h1]
      rw [← htk, List.getElem?_take] at h2
      split at h2
      · simpa using h2
      · cases h2

theorem Own.ext {α : Type} {sz : Nat} {f : α → List Lf} {S : Nat → Prop} {h h' : Heap} {s : Slc} {l : List α} (o : Own sz f h s l) (e : Ext S h h') (hs : ¬ s.inS S) : Own sz f h' s l := by
  refine ⟨o.len, o.lec, o.blk.imp id ?_⟩
  rintro ⟨b, c, t, ha, hb, hsz, htk⟩
  exact ⟨b, c, t, ha, (e.same b (size_pos_of_getElem? hb) fun x => hs ⟨b, 0, ha, x⟩).trans hb, hsz, htk⟩
theorem Own.ext0 {α : Type} {sz : Nat} {f : α → List Lf} {h h' : Heap} {s : Slc} {l : List α} (o : Own sz f h s l) (e : Ext0 h h') : Own sz f h' s l := o.ext e fun ⟨_, _, _, k⟩ => k
theorem Own.nil {α : Type} (sz : Nat) (f : α → List Lf) (h : Heap) : Own sz f h ⟨none, 0, 0⟩ ([] : List α) := ⟨rfl, Nat.le_refl _, .inl ⟨rfl, rfl⟩⟩
theorem Own.lt {α : Type} {sz : Nat} {f : α → List Lf} {h : Heap} {s : Slc} {l : List α} (o : Own sz f h s l) : ∀ b off, s.a = some (b, off) → b < h.size ∧ off = 0 := by
  intro b off hb
  rcases o.blk with ⟨ha, _⟩ | ⟨b', c, t, ha, hb', _⟩
  · rw [ha] at hb; cases hb
  · rw [ha] at hb; cases hb; exact ⟨size_pos_of_getElem? hb', rfl⟩

/-- A row that was just laid down. -/
theorem Own.new {α : Type} {sz : Nat} {f : α → List Lf} {h : Heap} {b : Nat} {t : TypeId} {l : List α} (hf : Sized sz f) (k : Blk h b t (l.flatMap f)) : Own sz f h ⟨some (b, 0), l.length, l.length⟩ l :=
  ⟨rfl, Nat.le_refl _, .inr ⟨b, _, t, rfl, k, by simp [← flat_len hf l], by
    have := flat_len hf l
    rw [List.take_of_length_le (by simp [this])]⟩⟩

/-- The first elements of a row of the call's own. -/
theorem Own.take {α : Type} {sz : Nat} {f : α → List Lf} (hf : Sized sz f) {h : Heap} {s : Slc} {l : List α} (o : Own sz f h s l) {n : Nat} (hn : n ≤ l.length) : Own sz f h (s.sub sz 0 n s.cap) (l.take n) := by
  have hlen := o.len
  have hlec := o.lec
  refine ⟨by simp [Slc.sub]; omega, by simp [Slc.sub]; omega, ?_⟩
  rcases o.blk with ⟨ha, hc⟩ | ⟨b, c, t, ha, hb, hsz, htk⟩
  · exact .inl ⟨by simp [Slc.sub, ha], by simp [Slc.sub, hc]⟩
  · refine .inr ⟨b, c, t, by simp [Slc.sub, ha], hb, by simp [Slc.sub, hsz], ?_⟩
    have h1 : (l.take n).length = n := by simp; omega
    have h2 : n * sz ≤ l.length * sz := Nat.mul_le_mul_right _ hn
    rw [h1, show c.toList.take (n * sz) = (c.toList.take (l.length * sz)).take (n * sz) by rw [List.take_take, Nat.min_eq_left h2], htk]
    have h3 : (l.flatMap f) = (l.take n).flatMap f ++ (l.drop n).flatMap f := by rw [← List.flatMap_append, List.take_append_drop]
    rw [h3, List.map_append]
    have h4 : (((l.take n).flatMap f).map Lf.val).length = n * sz := by simp [flat_len hf, h1]
    rw [← h4, List.take_left]

theorem vals_of_cells {h : Heap} {b : Nat} : ∀ {l : List Lf} {off : Nat}, cellsAt h b off l → valsAt h b off (l.map Lf.val)
  | [], _, _ => trivial
  | _ :: _, _, ⟨x, hr⟩ => ⟨x, vals_of_cells hr⟩

theorem valsAt_append {h : Heap} {b : Nat} : ∀ {l m : List Value} {off : Nat}, valsAt h b off l → valsAt h b (off + l.length) m → valsAt h b off (l ++ m)
  | [], _, _, _, k => by simpa using k
  | x :: l, m, off, ⟨y, hr⟩, k => ⟨y, valsAt_append hr (by rw [List.length_cons] at k; rwa [show off + 1 + l.length = off + (l.length + 1) by omega])⟩

/-- A row's cells, one behind the other. -/
theorem Arr.src {α : Type} {sz : Nat} {f : α → List Lf} (hf : Sized sz f) {h : Heap} {s : Slc} {l : List α} (a : Arr sz f h s l) : srcAt h s.a (s.len * sz) ((l.flatMap f).map Lf.val) := by
  refine ⟨by simp [flat_len hf, a.len], ?_⟩
  cases hs : s.a with
  | none =>
    have : l = [] := by
      apply Classical.byContradiction
      intro hne
      obtain ⟨b, off, hb⟩ := a.ne hne
      rw [hs] at hb; cases hb
    subst this; rfl
  | some p =>
    obtain ⟨b, off⟩ := p
    have key : ∀ (m : List α) (k : Nat), (∀ i x, m[i]? = some x → cellsAt h b (off + (k + i) * sz) (f x)) → valsAt h b (off + k * sz) ((m.flatMap f).map Lf.val) := by
      intro m
      induction m with
      | nil => intro k _; exact trivial
      | cons x m ih =>
        intro k hk
        rw [List.flatMap_cons, List.map_append]
        refine valsAt_append (vals_of_cells (by simpa using hk 0 x rfl)) ?_
        have := ih (k + 1) fun i y hy => by
          have := hk (i + 1) y (by simpa using hy)
          rwa [show k + (i + 1) = k + 1 + i by omega] at this
        rw [Nat.add_mul, Nat.one_mul, ← Nat.add_assoc] at this
        simpa [hf x] using this
    have := key l 0 fun i x hx => by simpa using a.at_ b off hs i x hx
    simpa using this

theorem vals_one (l : List Lf) : ∀ v ∈ l.map Lf.val, v.oneCell' = true := fun v hv => by
  obtain ⟨y, _, rfl⟩ := List.mem_map.1 hv; exact Lf.val_one y

theorem zeroCells_size (z : Array Value) (n : Nat) : (Builtin.zeroCells z n).size = n * z.size := by simp [Builtin.zeroCells]

/-- **append onto a slice of the call's own.** -/
theorem AppV.own {α : Type} {sz bytes : Nat} {f : α → List Lf} (hf : Sized sz f) (hb0 : 0 < bytes) {e : TypeId} {zc : List Value} (hz : zc.length = sz) {h : Heap} {s : Slc} {l m : List α} (o : Own sz f h s l)
    (hbound : (l.length + m.length) * bytes ≤ 140737488355328) {n : Nat} (hn : n = m.length) {news : List Value} (hnews : news = (m.flatMap f).map Lf.val) {K : Slc → Heap → Prop}
    (k : ∀ s' h', Own sz f h' s' (l ++ m) → Ext (fun b => ∃ off, s.a = some (b, off)) h h' → (s'.a = s.a ∨ ∃ b, s'.a = some (b, 0) ∧ h.size ≤ b) → (s'.a = none → s.a = none ∧ m = []) → K s' h') :
    AppV e zc sz bytes s n news h K := by
  subst hn; subst hnews
  refine ⟨vals_one _, fun hle => ?_, fun hlt => ⟨hb0, growslice_fits hlt (by rw [o.len]; exact hbound), _, (o.arr hf).src hf, fun c b h' hc hb hh => ?_⟩⟩
  · rcases o.blk with ⟨ha, hcap⟩ | ⟨b, c, t, ha, hb, hsz, htk⟩
    · rw [ha]
      have h0 : m = [] := List.length_eq_zero_iff.1 (by omega)
      subst h0
      have hs : (⟨none, s.len + ([] : List α).length, s.cap⟩ : Slc) = s := by cases s; simp_all
      rw [hs]
      exact k s h (by simpa using o) (Ext.refl _ _) (.inl rfl) fun x => ⟨x, rfl⟩
    · rw [ha]
      have hmul : (s.len + m.length) * sz ≤ s.cap * sz := Nat.mul_le_mul_right _ hle
      rw [Nat.add_mul] at hmul
      have hml : ((m.flatMap f).map Lf.val).length = m.length * sz := by simp [flat_len hf]
      refine ⟨fun hm => ?_, fun _ => ⟨c, t, (0, 0), hb, by rw [hml, hsz]; omega, .inl (Nat.le_refl _), ?_⟩⟩
      · have hfl : m.flatMap f = [] := by simpa using hm
        refine k _ h ⟨by simp [o.len], hle, .inr ⟨b, c, t, rfl, hb, hsz, ?_⟩⟩ (Ext.refl _ _) (.inl ha.symm) (fun x => by cases x)
        have : m.length * sz = 0 := by rw [← flat_len hf m, hfl]; rfl
        rw [List.length_append, Nat.add_mul, this, Nat.add_zero, htk, List.flatMap_append, hfl, List.append_nil]
      · rintro h' rfl
        refine k _ _ ⟨by simp [o.len], hle, .inr ⟨b, wr c (0 + s.len * sz) ((m.flatMap f).map Lf.val), t, rfl, by simp [size_pos_of_getElem? hb], ?_, ?_⟩⟩ ((set_ext h b _).mono fun i hi => ⟨0, by rw [show i = b from hi]; first | exact ha | rfl⟩) (.inl ha.symm) (fun x => by cases x)
        · rw [← Array.toArray_toList (xs := c), wr_splice _ _ _ (by rw [hml]; simp [hsz]; omega)]
          simp only [Nat.zero_add, List.size_toArray, List.length_append, List.length_take, List.length_drop, hml, Array.length_toList, hsz]
          omega
        · rw [← Array.toArray_toList (xs := c), wr_splice _ _ _ (by rw [hml]; simp [hsz]; omega)]
          simp only [Nat.zero_add, o.len, htk]
          rw [List.length_append, Nat.add_mul, ← List.append_assoc]
          rw [List.take_left' (by simp [flat_len hf])]
          simp
  · subst hb; subst hh
    refine k _ _ ⟨by simp [o.len], by simpa [o.len] using hc, .inr ⟨h.size, _, e, rfl, by simp; rfl, ?_, ?_⟩⟩ ((push_ext h _).of0) (.inr ⟨_, rfl, Nat.le_refl _⟩) (fun x => by cases x)
    · have h1 : (s.len + m.length) * sz ≤ c * sz := Nat.mul_le_mul_right _ hc
      have h2 : (c - (s.len + m.length)) * sz = c * sz - (s.len + m.length) * sz := Nat.sub_mul _ _ _
      rw [o.len] at *
      simp only [Array.size_append, List.size_toArray, List.length_append, List.length_map, flat_len hf, zeroCells_size, hz]
      rw [h2]
      have h3 := Nat.add_mul l.length m.length sz
      show l.length * sz + m.length * sz + (c * sz - (l.length + m.length) * sz) = c * sz
      omega
    · simp only [Array.toList_append, List.length_append, Nat.add_mul]
      rw [List.take_left' (by simp [flat_len hf])]
      simp

theorem AppC.own {α : Type} {sz bytes : Nat} {f : α → List Lf} (hf : Sized sz f) (hb0 : 0 < bytes) {e : TypeId} {zc : List Lf} (hz : zc.length = sz) {h : Heap} {s x : Slc} {l m : List α} (o : Own sz f h s l) (a : Arr sz f h x m)
    (hbound : (l.length + m.length) * bytes ≤ 140737488355328) {K : Slc → Heap → Prop}
    (k : ∀ s' h', Own sz f h' s' (l ++ m) → Ext (fun b => ∃ off, s.a = some (b, off)) h h' → (s'.a = s.a ∨ ∃ b, s'.a = some (b, 0) ∧ h.size ≤ b) → (s'.a = none → s.a = none ∧ m = []) → K s' h') :
    AppC e zc sz bytes s x h K :=
  ⟨_, a.src hf, AppV.own hf hb0 (by simpa using hz) o hbound a.len rfl k⟩

end Go.V
