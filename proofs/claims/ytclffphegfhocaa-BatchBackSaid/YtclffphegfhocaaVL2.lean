/- This text proves a part of the laws of seat Ytclffphegfhocaa, under no condition: VL2. -/
import Derived.Test.YtclffphegfhocaaVL
set_option linter.unusedVariables false
set_option linter.unusedSimpArgs false
/-! More words: slices that grow, slices made, elements written. -/
namespace Go.V

/-- A slice of the call's own has become another: in its place, or in new memory. -/
structure Grow (s : Slc) (h : Heap) (s' : Slc) (h' : Heap) : Prop where
  ext : Ext (fun b => ∃ off, s.a = some (b, off)) h h'
  new : s'.a = s.a ∨ ∃ b, s'.a = some (b, 0) ∧ h.size ≤ b

/-- A slice that was not there at the start, and a heap that has kept all that was. -/
structure Fresh (h0 h : Heap) (s : Slc) : Prop where
  ext : Ext0 h0 h
  new : ∀ b off, s.a = some (b, off) → h0.size ≤ b

theorem Fresh.nil {h : Heap} (c : Nat) : Fresh h h ⟨none, 0, c⟩ := ⟨Ext.refl _ _, fun b off e => by cases e⟩
theorem Fresh.ext0 {h0 h h' : Heap} {s : Slc} (f : Fresh h0 h s) (e : Ext0 h h') : Fresh h0 h' s := ⟨f.ext.trans e, f.new⟩
theorem Fresh.grow {h0 h h' : Heap} {s s' : Slc} (f : Fresh h0 h s) (g : Grow s h s' h') : Fresh h0 h' s' :=
  ⟨f.ext.trans' g.ext fun i hi ⟨off, hx⟩ => absurd (f.new _ _ hx) (by omega), fun b off hb => by
    rcases g.new with h1 | ⟨b', h1, h2⟩
    · exact f.new b off (h1 ▸ hb)
    · rw [h1] at hb; cases hb; have := f.ext.size; omega⟩
theorem Grow.trans {s s' s'' : Slc} {h h' h'' : Heap} (a : Grow s h s' h') (b : Grow s' h' s'' h'') : Grow s h s'' h'' := by
  refine ⟨a.ext.trans' b.ext fun i hi ⟨off, hx⟩ => ?_, ?_⟩
  · rcases a.new with h1 | ⟨b', h1, h2⟩
    · exact ⟨off, h1 ▸ hx⟩
    · rw [h1] at hx; cases hx; omega
  · rcases b.new with h1 | ⟨b', h1, h2⟩
    · rw [h1]; exact a.new
    · exact .inr ⟨b', h1, Nat.le_trans a.ext.size h2⟩
theorem Grow.pre {s s' : Slc} {h0 h h' : Heap} (e : Ext0 h0 h) (a : Grow s h s' h') : Grow s h0 s' h' :=
  ⟨e.of0.trans a.ext, a.new.imp id fun ⟨b, x, y⟩ => ⟨b, x, Nat.le_trans e.size y⟩⟩
theorem Grow.post {s s' : Slc} {h h' h'' : Heap} (a : Grow s h s' h') (e : Ext0 h' h'') : Grow s h s' h'' := ⟨a.ext.then0 e, a.new⟩
theorem Grow.keep {s s' : Slc} {h h' : Heap} (g : Grow s h s' h') {b : Nat} (hb : b < h.size) (hs : ∀ off, s.a ≠ some (b, off)) : keepB h h' [b] := g.ext.keep hb fun ⟨off, x⟩ => hs off x
theorem Fresh.keep {h0 h h' : Heap} {s s' : Slc} (f : Fresh h0 h s) (g : Grow s h s' h') {b : Nat} (hb : b < h0.size) : keepB h h' [b] :=
  g.keep (Nat.lt_of_lt_of_le hb f.ext.size) fun off x => absurd (f.new _ _ x) (by omega)

/-- append onto a slice of the call's own, told short. -/
theorem AppC.grow {α : Type} {sz bytes : Nat} {f : α → List Lf} (hf : Sized sz f) (hb0 : 0 < bytes) {e : TypeId} {zc : List Lf} (hz : zc.length = sz) {h : Heap} {s x : Slc} {l m : List α} (o : Own sz f h s l) (a : Arr sz f h x m)
    (hbound : (l.length + m.length) * bytes ≤ 140737488355328) {K : Slc → Heap → Prop}
    (k : ∀ s' h', Own sz f h' s' (l ++ m) → Grow s h s' h' → K s' h') : AppC e zc sz bytes s x h K :=
  AppC.own hf hb0 hz o a hbound fun s' h' o' e' n' _ => k s' h' o' ⟨e', n'⟩
theorem AppV.grow {α : Type} {sz bytes : Nat} {f : α → List Lf} (hf : Sized sz f) (hb0 : 0 < bytes) {e : TypeId} {zc : List Value} (hz : zc.length = sz) {h : Heap} {s : Slc} {l m : List α} (o : Own sz f h s l)
    (hbound : (l.length + m.length) * bytes ≤ 140737488355328) {n : Nat} (hn : n = m.length) {news : List Value} (hnews : news = (m.flatMap f).map Lf.val) {K : Slc → Heap → Prop}
    (k : ∀ s' h', Own sz f h' s' (l ++ m) → Grow s h s' h' → K s' h') : AppV e zc sz bytes s n news h K :=
  AppV.own hf hb0 hz o hbound hn hnews fun s' h' o' e' n' _ => k s' h' o' ⟨e', n'⟩

theorem zeroCells_list (z : List Value) (n : Nat) : (Builtin.zeroCells z.toArray n).toList = (List.replicate n z).flatten := by
  have key : ∀ n : Nat, (List.range (n * z.length)).map (fun i => z[i % z.length]?.getD default) = (List.replicate n z).flatten := by
    intro n
    induction n with
    | zero => simp
    | succ n ih =>
      rw [Nat.add_mul, Nat.one_mul, Nat.add_comm, List.range_add, List.map_append, List.map_map, List.replicate_succ, List.flatten_cons, ← ih]
      congr 1
      · apply List.ext_getElem?
        intro i
        by_cases hi : i < z.length
        · simp [hi, Nat.mod_eq_of_lt hi]
        · simp [hi]
      · apply List.map_congr_left
        intro i _
        simp
  simpa [Builtin.zeroCells] using key n

theorem flat_rep {α : Type} (f : α → List Lf) (x : α) : ∀ n : Nat, ((List.replicate n x).flatMap f).map Lf.val = (List.replicate n ((f x).map Lf.val)).flatten
  | 0 => rfl
  | n + 1 => by simp [List.replicate_succ, flat_rep f x n]

/-- make of a slice. -/
theorem MkC.own {α : Type} {sz bytes : Nat} {f : α → List Lf} (hf : Sized sz f) {e : TypeId} {z : α} {zc : List Lf} (hz : zc = f z) {n : Nat} {i j : Int} (hi : i = n) (hj : j = n) (hb : bytes * n ≤ 140737488355328) (hn : n ≤ 140737488355328) {h : Heap} {K : Slc → Heap → Prop}
    (k : ∀ s h', Own sz f h' s (List.replicate n z) → s.a = some (h.size, 0) → Ext0 h h' → K s h') : MkC e zc sz bytes i j h K := by
  subst hi hj hz
  have hc : ((bytes : Int) * (n : Int)) = ((bytes * n : Nat) : Int) := by simp
  refine ⟨by omega, Int.le_refl _, by omega, by rw [hc]; omega, ?_⟩
  rintro b h' rfl rfl
  refine k _ _ ⟨by simp, Nat.le_refl _, .inr ⟨_, _, e, rfl, by simp; rfl, ?_, ?_⟩⟩ rfl (push_ext h _)
  · rw [zeroCells_size]; simp [hf z]
  · rw [zeroCells_list, flat_rep, List.length_replicate, List.take_of_length_le]
    have := flat_len hf (List.replicate n z)
    rw [← flat_rep, List.length_map, this]; simp

theorem flat_set {α : Type} {sz : Nat} {f : α → List Lf} (hf : Sized sz f) : ∀ (l : List α) (k : Nat) (x : α), k < l.length → (l.set k x).flatMap f = (l.flatMap f).take (k * sz) ++ f x ++ (l.flatMap f).drop ((k + 1) * sz)
  | [], k, x, h => by simp at h
  | y :: l, 0, x, h => by
    have := hf y
    simp [← this]
  | y :: l, k + 1, x, h => by
    have ih := flat_set hf l k x (by simpa using h)
    have hy := hf y
    rw [List.set_cons_succ, List.flatMap_cons, ih, List.flatMap_cons]
    have e1 : (k + 1) * sz = (f y).length + k * sz := by rw [hy, Nat.add_mul]; omega
    have e2 : (k + 1 + 1) * sz = (f y).length + (k + 1) * sz := by rw [hy, Nat.add_mul (k + 1)]; omega
    rw [e2, List.drop_length_add_append, show (f y ++ l.flatMap f).take ((k + 1) * sz) = f y ++ (l.flatMap f).take (k * sz) by rw [e1, List.take_length_add_append]]
    simp only [List.append_assoc]

/-- An element of a slice of the call's own is written. -/
theorem IxC.set {α : Type} {sz : Nat} {f : α → List Lf} (hf : Sized sz f) {h : Heap} {s : Slc} {l : List α} (o : Own sz f h s l) {i : Int} {k : Nat} (hi : i = (k : Int)) (hk : k < l.length) {cs : List Lf} {x : α} (hx : cs = f x) {K : Heap → Prop}
    (c : ∀ h', h'.size = h.size → Own sz f h' s (l.set k x) → Ext (fun b => ∃ off, s.a = some (b, off)) h h' → K h') : IxC s i sz fun b off => StC h b off cs K := by
  subst hi hx
  refine ⟨by omega, by rw [o.len]; omega, ?_⟩
  rcases o.blk with ⟨ha, hc⟩ | ⟨b, cc, t, ha, hb, hsz, htk⟩
  · have := o.len; have := o.lec; omega
  · refine NilC.mk ha ?_
    have hlec := o.lec
    have hlen := o.len
    have h1 : (k + 1) * sz ≤ l.length * sz := Nat.mul_le_mul_right _ hk
    have h2 : l.length * sz ≤ s.cap * sz := Nat.mul_le_mul_right _ (by omega)
    rw [Nat.add_mul, Nat.one_mul] at h1
    have hlx : ((f x).map Lf.val).length = sz := by simp [hf x]
    refine ⟨cc, t, (0, 0), hb, by rw [hlx]; simp; omega, .inl (Nat.le_refl _), ?_⟩
    rintro h' rfl
    refine c _ (by simp) ⟨by simpa using hlen, hlec, .inr ⟨b, _, t, ha, by simp [size_pos_of_getElem? hb]; rfl, ?_, ?_⟩⟩ ((set_ext h b _).mono fun i hi => ⟨0, by rw [show i = b from hi]; exact ha⟩)
    · rw [← Array.toArray_toList (xs := cc), wr_splice _ _ _ (by rw [hlx]; simp; omega)]
      simp only [Nat.zero_add, List.size_toArray, List.length_append, List.length_take, List.length_drop, hlx, Array.length_toList, hsz, Int.toNat_natCast]
      omega
    · rw [← Array.toArray_toList (xs := cc), wr_splice _ _ _ (by rw [hlx]; simp; omega)]
      simp only [Nat.zero_add, Int.toNat_natCast, hlx, List.length_set]
      rw [flat_set hf l k x hk, List.map_append, List.map_append, List.map_take, List.map_drop, ← htk]
      rw [List.take_append, List.take_append, List.append_assoc]
      congr 1
      · rw [List.take_take, List.take_take]
        congr 1; omega
      · simp only [List.length_take, Array.length_toList, hlx]
        rw [List.take_of_length_le (by rw [hlx]; omega)]
        congr 1
        rw [List.drop_take, Nat.add_mul, Nat.one_mul]
        congr 1
        omega

/-- One cell of a block that is known whole is written. -/
theorem StC.one {h : Heap} {b : Nat} {t : TypeId} {cs : List Lf} (k : Blk h b t cs) {off : Nat} {x : Lf} (ho : off < cs.length) {K : Heap → Prop}
    (c : ∀ h', h'.size = h.size → Blk h' b t (cs.set off x) → Ext (fun i => i = b) h h' → K h') : StC h b off [x] K := by
  refine ⟨_, t, (0, 0), k, by simp; omega, .inl (Nat.le_refl _), ?_⟩
  rintro h' rfl
  refine c _ (by simp) ?_ (set_ext h b _)
  have : wr (cs.map Lf.val).toArray off [x.val] = ((cs.set off x).map Lf.val).toArray := by
    simp [wr, List.map_set]
  simp [Blk, List.map_cons, this, k.lt]

/-- What is written wasn't there at the start. -/
theorem Ext.tmp {a b c : Heap} {x : Nat} (e : Ext0 a b) (k : Ext (fun i => i = x) b c) (hx : a.size ≤ x) : Ext0 a c :=
  e.trans' k fun i hi h => by have : i = x := h; omega

/-- What a new footprint may hold. -/
def Sub (F F' : Nat → Prop) (h : Heap) : Prop := ∀ b, F' b → F b ∨ h.size ≤ b
theorem Sub.refl (F : Nat → Prop) (h : Heap) : Sub F F h := fun _ hb => .inl hb
theorem Sub.trans {F F' F'' : Nat → Prop} {h h' : Heap} (a : Sub F F' h) (b : Sub F' F'' h') (e : h.size ≤ h'.size) : Sub F F'' h := fun i hi => (b i hi).elim (a i) fun x => .inr (Nat.le_trans e x)
theorem Ext.sub {F F' : Nat → Prop} {a b c : Heap} (e : Ext F a b) (k : Ext F' b c) (s : Sub F F' a) : Ext F a c := e.trans' k fun i hi hx => (s i hx).elim id fun y => by omega

theorem cellsAt_append {h : Heap} {b : Nat} : ∀ {l m : List Lf} {off : Nat}, cellsAt h b off l → cellsAt h b (off + l.length) m → cellsAt h b off (l ++ m)
  | [], _, _, _, k => by simpa using k
  | x :: l, m, off, ⟨y, hr⟩, k => ⟨y, cellsAt_append hr (by rw [List.length_cons] at k; rwa [show off + 1 + l.length = off + (l.length + 1) by omega])⟩

theorem Arr.cells {α : Type} {sz : Nat} {f : α → List Lf} (hf : Sized sz f) {h : Heap} {s : Slc} {l : List α} (a : Arr sz f h s l) {b off : Nat} (hs : s.a = some (b, off)) : cellsAt h b off (l.flatMap f) := by
  have key : ∀ (m : List α) (k : Nat), (∀ i x, m[i]? = some x → cellsAt h b (off + (k + i) * sz) (f x)) → cellsAt h b (off + k * sz) (m.flatMap f) := by
    intro m
    induction m with
    | nil => intro k _; exact trivial
    | cons x m ih =>
      intro k hk
      rw [List.flatMap_cons]
      refine cellsAt_append (by simpa using hk 0 x rfl) ?_
      have := ih (k + 1) fun i y hy => by
        have := hk (i + 1) y (by simpa using hy)
        rwa [show k + (i + 1) = k + 1 + i by omega] at this
      rw [Nat.add_mul, Nat.one_mul, ← Nat.add_assoc] at this
      simpa [hf x] using this
  have := key l 0 fun i x hx => by simpa using a.at_ b off hs i x hx
  simpa using this

/-- A row of bytes, read as a text. -/
theorem Arr.bytes {f : UInt8 → List Lf} (hf : ∀ c, f c = [.int .u8 (c.toNat : Int)]) {h : Heap} {s : Slc} {l : List UInt8} (a : Arr 1 f h s l) : bytesAt h s ⟨l.toArray⟩ := by
  refine ⟨by simp [ByteArray.size, a.len], ?_⟩
  by_cases hl : l = []
  · left; rw [a.len, hl]; rfl
  · right
    obtain ⟨b, off, hb⟩ := a.ne hl
    refine ⟨b, off, hb, ?_⟩
    have := a.cells (fun c => by rw [hf]; rfl) hb
    rw [show f = fun c => [.int .u8 (c.toNat : Int)] from funext hf, ← List.map_eq_flatMap] at this
    simpa using this

theorem Sub.not {F F' : Nat → Prop} {h : Heap} {s : Slc} {α : Type} {sz : Nat} {f : α → List Lf} {l : List α} (o : Own sz f h s l) (sub : Sub F F' h) (hn : ¬ s.inS F) : ¬ s.inS F' := by
  rintro ⟨b, off, hb, hx⟩
  rcases sub b hx with h1 | h1
  · exact hn ⟨b, off, hb, h1⟩
  · have := (o.lt b off hb).1; omega
theorem Ext.to0 {F : Nat → Prop} {a b c : Heap} (e : Ext0 a b) (k : Ext F b c) (hF : ∀ b, F b → a.size ≤ b) : Ext0 a c := e.trans' k fun i hi hx => by have := hF i hx; omega
theorem Sub.new {F F' : Nat → Prop} {a b : Heap} (s : Sub F F' b) (hF : ∀ i, F i → a.size ≤ i) (e : a.size ≤ b.size) : ∀ i, F' i → a.size ≤ i := fun i hi => (s i hi).elim (hF i) (Nat.le_trans e)

end Go.V
