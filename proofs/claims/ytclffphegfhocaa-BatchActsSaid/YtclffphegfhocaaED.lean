/- This text proves a part of the laws of seat Ytclffphegfhocaa, under no condition: VL3 VL4 VTop. -/
import Derived.Test.YtclffphegfhocaaEC
import Derived.ProofKit
import Derived.Deep.Slices
import Derived.Lib.SmallJoins
set_option linter.unusedVariables false
set_option linter.unusedSimpArgs false
/-! Words for maps. -/
namespace Go.V

/-- A map reads as a list of keys and values; each key once. -/
structure MapR {β : Type} (h : Heap) (r : Nat) (kt : LT) (vt : VT) (f : β → List Lf) (l : List (kt.den × β)) : Prop where
  rep : ∃ (es : List (ME kt)) (clock : Nat), h[r]? = some (mobj kt vt es clock) ∧ (es.map fun e => (e.key, e.val)) = (l.map fun x => (x.1, f x.2)) ∧ (∀ e ∈ es, e.born < clock) ∧ (es.map (·.born)).Nodup
  nodup : (l.map (·.1)).Nodup

theorem MapR.lt {β : Type} {h : Heap} {r : Nat} {kt : LT} {vt : VT} {f : β → List Lf} {l : List (kt.den × β)} (M : MapR h r kt vt f l) : r < h.size := by
  obtain ⟨es, clock, hr, _⟩ := M.rep; exact size_pos_of_getElem? hr
theorem MapR.ext {β : Type} {S : Nat → Prop} {h h' : Heap} {r : Nat} {kt : LT} {vt : VT} {f : β → List Lf} {l : List (kt.den × β)} (M : MapR h r kt vt f l) (e : Ext S h h') (hs : ¬ S r := by exact id) : MapR h' r kt vt f l :=
  ⟨let ⟨es, clock, hr, x⟩ := M.rep; ⟨es, clock, (e.same r M.lt hs).trans hr, x⟩, M.nodup⟩
theorem MapR.new {β : Type} {h : Heap} {kt : LT} {vt : VT} {f : β → List Lf} {b : Nat} (hb : h[b]? = some (.map #[] 0)) : MapR h b kt vt f ([] : List (kt.den × β)) :=
  ⟨⟨[], 0, hb, rfl, by simp, by simp⟩, by simp⟩

theorem NewM.mk {h : Heap} {K : Nat → Heap → Prop} (k : ∀ b h', b = h.size → h'.size = h.size + 1 → Ext0 h h' → h'[b]? = some (.map #[] 0) → K b h') : NewM h K := by
  rintro b h' rfl rfl
  exact k _ _ rfl (by simp) (push_ext h _) (by simp)

/-- Keys that can be told apart from this one. -/
def KeysOk {β : Type} (h : Heap) : (kt : LT) → kt.den → List (kt.den × β) → Prop
  | .ptr, k, l => ∀ x ∈ l, PEq h k x.1
  | _, _, _ => True

theorem KeysOk.kok {β : Type} {h : Heap} {kt : LT} {k : kt.den} {l : List (kt.den × β)} {f : β → List Lf} (o : KeysOk h kt k l) {es : List (ME kt)} (he : (es.map fun e => (e.key, e.val)) = (l.map fun x => (x.1, f x.2))) : KOk h kt k es := by
  cases kt <;> try trivial
  intro e hm
  have : (e.key, e.val) ∈ (l.map fun x => (x.1, f x.2)) := by rw [← he]; exact List.mem_map.2 ⟨e, hm, rfl⟩
  obtain ⟨x, hx, hxe⟩ := List.mem_map.1 this
  have := o x hx
  rw [show x.1 = e.key from congrArg Prod.fst hxe] at this
  exact this

theorem mlook_none {kt : LT} (hk : KeyLT kt) {k : kt.den} : ∀ {es : List (ME kt)} {i : Nat}, (∀ e ∈ es, e.key ≠ k) → mlook kt k es i = none
  | [], _, _ => rfl
  | e :: es, i, h => by
    have : keq kt k e.key = false := by
      cases hh : keq kt k e.key with
      | false => rfl
      | true => exact absurd ((keq_iff hk _ _).1 hh).symm (h e (List.mem_cons_self ..))
    simp only [mlook, this, Bool.false_eq_true, if_false]
    exact mlook_none hk fun x hx => h x (List.mem_cons_of_mem _ hx)

theorem mlook_hit {kt : LT} (hk : KeyLT kt) {k : kt.den} : ∀ {es : List (ME kt)} {i : Nat} {e : ME kt}, e ∈ es → e.key = k → (es.map (·.key)).Nodup → ∃ j, mlook kt k es i = some (i + j, e) ∧ es[j]? = some e
  | [], _, _, h, _, _ => by simp at h
  | x :: es, i, e, h, he, hn => by
    simp only [List.map_cons, List.nodup_cons] at hn
    by_cases hx : keq kt k x.key = true
    · have hxk := (keq_iff hk _ _).1 hx
      have : e = x := by
        rcases List.mem_cons.1 h with h | h
        · exact h
        · exfalso; exact hn.1 (List.mem_map.2 ⟨e, h, by rw [he, hxk]⟩)
      subst this
      exact ⟨0, by simp [mlook, hx], rfl⟩
    · have hne : e ≠ x := by rintro rfl; exact hx ((keq_iff hk _ _).2 he.symm)
      obtain ⟨j, h1, h2⟩ := mlook_hit hk (i := i + 1) ((List.mem_cons.1 h).resolve_left hne) he hn.2
      refine ⟨j + 1, ?_, by simpa using h2⟩
      rw [mlook, if_neg hx, h1, show i + 1 + j = i + (j + 1) by omega]

theorem keys_nodup {β : Type} {kt : LT} {f : β → List Lf} {es : List (ME kt)} {l : List (kt.den × β)} (he : (es.map fun e => (e.key, e.val)) = (l.map fun x => (x.1, f x.2))) (hn : (l.map (·.1)).Nodup) : (es.map (·.key)).Nodup := by
  have h1 : es.map (·.key) = l.map (·.1) := by
    have := congrArg (List.map Prod.fst) he
    simpa [List.map_map, Function.comp_def] using this
  rw [h1]; exact hn

theorem key_mem {β : Type} {kt : LT} {f : β → List Lf} {es : List (ME kt)} {l : List (kt.den × β)} (he : (es.map fun e => (e.key, e.val)) = (l.map fun x => (x.1, f x.2))) {k : kt.den} {v : β} (hm : (k, v) ∈ l) :
    ∃ e ∈ es, e.key = k ∧ e.val = f v := by
  have : (k, f v) ∈ (es.map fun e => (e.key, e.val)) := by rw [he]; exact List.mem_map.2 ⟨(k, v), hm, rfl⟩
  obtain ⟨e, h1, h2⟩ := List.mem_map.1 this
  exact ⟨e, h1, congrArg Prod.fst h2, congrArg Prod.snd h2⟩
theorem key_not {β : Type} {kt : LT} {f : β → List Lf} {es : List (ME kt)} {l : List (kt.den × β)} (he : (es.map fun e => (e.key, e.val)) = (l.map fun x => (x.1, f x.2))) {k : kt.den} (hm : ∀ x ∈ l, x.1 ≠ k) :
    ∀ e ∈ es, e.key ≠ k := by
  intro e h1 h2
  have : (e.key, e.val) ∈ (l.map fun x => (x.1, f x.2)) := by rw [← he]; exact List.mem_map.2 ⟨e, h1, rfl⟩
  obtain ⟨x, hx, hxe⟩ := List.mem_map.1 this
  exact hm x hx ((congrArg Prod.fst hxe).trans h2)

section
variable {β : Type} {h : Heap} {r : Nat} {kt : LT} {vt : VT} {f : β → List Lf} {l : List (kt.den × β)}

theorem MapR.hit (M : MapR h r kt vt f l) (hk : KeyLT kt) {k : kt.den} {v : β} (hm : (k, v) ∈ l) (o : KeysOk h kt k l) (z : List Lf) {x : List Lf} (hx : x = f v) : LookR h kt vt z (some r) k x true := by
  subst hx
  obtain ⟨es, clock, hr, he, hb, hn⟩ := M.rep
  obtain ⟨e, h1, h2, h3⟩ := key_mem he hm
  obtain ⟨j, h4, _⟩ := mlook_hit hk (i := 0) h1 h2 (keys_nodup he M.nodup)
  exact ⟨es, clock, hr, o.kok he, by simp [mget, h4, h3]⟩
theorem MapR.miss (M : MapR h r kt vt f l) (hk : KeyLT kt) {k : kt.den} (hm : ∀ x ∈ l, x.1 ≠ k) (o : KeysOk h kt k l) (z : List Lf) : LookR h kt vt z (some r) k z false := by
  obtain ⟨es, clock, hr, he, hb, hn⟩ := M.rep
  exact ⟨es, clock, hr, o.kok he, by simp [mget, mlook_none hk (key_not he hm)]⟩
theorem MapR.len (M : MapR h r kt vt f l) : LenR h (some r) (l.length : Int) := by
  obtain ⟨es, clock, hr, he, hb, hn⟩ := M.rep
  refine ⟨_, clock, hr, ?_⟩
  have := congrArg List.length he
  simp at this
  simp [this]

/-- A key's value is put. -/
def aput (kt : LT) (k : kt.den) (v : β) : List (kt.den × β) → List (kt.den × β)
  | [] => [(k, v)]
  | x :: l => if keq kt k x.1 = true then (k, v) :: l else x :: aput kt k v l

theorem aput_new (hk : KeyLT kt) {k : kt.den} {v : β} : ∀ {l : List (kt.den × β)}, (∀ x ∈ l, x.1 ≠ k) → aput kt k v l = l ++ [(k, v)]
  | [], _ => rfl
  | x :: l, hm => by
    have : ¬ keq kt k x.1 = true := fun hh => hm x (List.mem_cons_self ..) ((keq_iff hk _ _).1 hh).symm
    simp only [aput, this, if_false, List.cons_append, aput_new hk fun y hy => hm y (List.mem_cons_of_mem _ hy), Bool.false_eq_true]

theorem aput_keys (hk : KeyLT kt) {k : kt.den} {v : β} : ∀ {l : List (kt.den × β)}, (∃ x ∈ l, x.1 = k) → (aput kt k v l).map (·.1) = l.map (·.1)
  | [], h => by obtain ⟨x, hx, _⟩ := h; simp at hx
  | x :: l, h => by
    by_cases hx : keq kt k x.1 = true
    · have := (keq_iff hk _ _).1 hx
      rw [aput, if_pos hx, List.map_cons, List.map_cons, ← this]
    · rw [aput, if_neg hx, List.map_cons, List.map_cons]
      congr 1
      apply aput_keys hk
      obtain ⟨y, hy, hyk⟩ := h
      rcases List.mem_cons.1 hy with rfl | hy
      · exact absurd ((keq_iff hk _ _).2 hyk.symm) hx
      · exact ⟨y, hy, hyk⟩

theorem aput_nodup (hk : KeyLT kt) {k : kt.den} {v : β} (hn : (l.map (·.1)).Nodup) : ((aput kt k v l).map (·.1)).Nodup := by
  by_cases hm : ∃ x ∈ l, x.1 = k
  · rw [aput_keys hk hm]; exact hn
  · have hm' : ∀ x ∈ l, x.1 ≠ k := fun x hx he => hm ⟨x, hx, he⟩
    rw [aput_new hk hm', List.map_append, List.nodup_append]
    refine ⟨hn, by simp, ?_⟩
    intro a ha b hb
    simp at hb
    subst hb
    obtain ⟨x, hx, rfl⟩ := List.mem_map.1 ha
    exact hm' x hx

theorem set_born {es : List (ME kt)} {i : Nat} {e y : ME kt} (he : es[i]? = some e) (hb : y.born = e.born) : (es.set i y).map (·.born) = es.map (·.born) := by
  apply List.ext_getElem?
  intro j
  rw [List.getElem?_map, List.getElem?_map, List.getElem?_set]
  split
  · rename_i hij; subst hij
    split
    · rw [he]; simp [hb]
    · rename_i hlt; rw [List.getElem?_eq_none (by omega)] at he; cases he
  · rfl

theorem aput_rep (hk : KeyLT kt) {k : kt.den} {v : β} : ∀ {es : List (ME kt)} {l : List (kt.den × β)}, (es.map fun e => (e.key, e.val)) = (l.map fun x => (x.1, f x.2)) → ∀ {n : Nat},
    (∀ {i e}, mlook kt k es n = some (i, e) → ((es.set (i - n) (⟨k, f v, e.born⟩ : ME kt)).map fun e : ME kt => (e.key, e.val)) = ((aput kt k v l).map fun x => (x.1, f x.2))) ∧
    (mlook kt k es n = none → ∀ c, ((es ++ [(⟨k, f v, c⟩ : ME kt)]).map fun e : ME kt => (e.key, e.val)) = ((aput kt k v l).map fun x => (x.1, f x.2)))
  | [], [], _, n => ⟨fun h => (by cases h), fun _ c => rfl⟩
  | [], _ :: _, he, _ => by simp at he
  | _ :: _, [], he, _ => by simp at he
  | e :: es, x :: l, he, n => by
    simp only [List.map_cons, List.cons.injEq, Prod.mk.injEq] at he
    obtain ⟨⟨hx, hv⟩, he⟩ := he
    obtain ⟨h1, h2⟩ := aput_rep hk (k := k) (v := v) he (n := n + 1)
    by_cases hq : keq kt k e.key = true
    · have hq' : keq kt k x.1 = true := by rw [← hx]; exact hq
      refine ⟨fun {i e'} h => ?_, fun h => ?_⟩
      · simp only [mlook, hq, if_true, Option.some.injEq, Prod.mk.injEq] at h
        obtain ⟨rfl, rfl⟩ := h
        simp [aput, hq', he]
      · simp [mlook, hq] at h
    · have hq' : ¬ keq kt k x.1 = true := by rw [← hx]; exact hq
      refine ⟨fun {i e'} h => ?_, fun h c => ?_⟩
      · simp only [mlook, hq, if_false, Bool.false_eq_true] at h
        have hle := (mlook_some h).1
        have := h1 h
        rw [show i - n = (i - (n + 1)) + 1 by omega]
        simp only [List.set_cons_succ, List.map_cons, aput, hq', if_false, this, hx, hv, Bool.false_eq_true]
      · simp only [mlook, hq, if_false, Bool.false_eq_true] at h
        have := h2 h c
        simp only [List.cons_append, List.map_cons, aput, hq', if_false, this, hx, hv, Bool.false_eq_true]

theorem MapR.put (M : MapR h r kt vt f l) (hk : KeyLT kt) {k : kt.den} {v : β} (o : KeysOk h kt k l) {x : List Lf} (hx : x = f v) {K : Heap → Prop}
    (c : ∀ h', h'.size = h.size → MapR h' r kt vt f (aput kt k v l) → Ext (fun i => i = r) h h' → K h') : UpdC kt vt h (some r) k x K := by
  subst hx
  obtain ⟨es, clock, hr, he, hb, hn⟩ := M.rep
  refine ⟨r, es, clock, rfl, hr, o.kok he, ?_⟩
  rintro h' rfl
  obtain ⟨h1, h2⟩ := aput_rep hk (k := k) (v := v) he (n := 0)
  refine c _ (by simp) ⟨⟨_, _, by simp [M.lt]; rfl, ?_, ?_, ?_⟩, aput_nodup hk M.nodup⟩ (set_ext h r _)
  all_goals unfold mput
  · cases hl : mlook kt k es 0 with
    | none => exact h2 hl clock
    | some x => obtain ⟨i, e⟩ := x; exact h1 hl
  · cases hl : mlook kt k es 0 with
    | none =>
      intro e hm
      rcases List.mem_append.1 hm with hm | hm
      · have := hb e hm; simp only; omega
      · simp at hm; subst hm; simp
    | some x =>
      obtain ⟨i, e⟩ := x
      obtain ⟨_, h3, _⟩ := mlook_some hl
      intro e' hm
      have hbb : e'.born ∈ (es.set i ⟨k, f v, e.born⟩).map (·.born) := List.mem_map.2 ⟨e', hm, rfl⟩
      rw [set_born (e := e) (y := ⟨k, f v, e.born⟩) (by simpa using h3) rfl] at hbb
      obtain ⟨e2, h4, h5⟩ := List.mem_map.1 hbb
      rw [← h5]; exact hb e2 h4
  · cases hl : mlook kt k es 0 with
    | none =>
      simp only [List.map_append, List.nodup_append]
      refine ⟨hn, by simp, ?_⟩
      intro a ha b hb'
      simp at hb'
      subst hb'
      obtain ⟨e2, h4, rfl⟩ := List.mem_map.1 ha
      have := hb e2 h4
      omega
    | some x =>
      obtain ⟨i, e⟩ := x
      obtain ⟨_, h3, _⟩ := mlook_some hl
      simp only
      rw [set_born (e := e) (y := ⟨k, f v, e.born⟩) (by simpa using h3) rfl]; exact hn

/-- A key is taken away. -/
def adel (kt : LT) (k : kt.den) : List (kt.den × β) → List (kt.den × β)
  | [] => []
  | x :: l => if keq kt k x.1 = true then l else x :: adel kt k l

theorem adel_none (hk : KeyLT kt) {k : kt.den} : ∀ {l : List (kt.den × β)}, (∀ x ∈ l, x.1 ≠ k) → adel kt k l = l
  | [], _ => rfl
  | x :: l, hm => by
    have : ¬ keq kt k x.1 = true := fun hh => hm x (List.mem_cons_self ..) ((keq_iff hk _ _).1 hh).symm
    simp only [adel, this, if_false, adel_none hk fun y hy => hm y (List.mem_cons_of_mem _ hy), Bool.false_eq_true]
theorem adel_sub {k : kt.den} : ∀ (l : List (kt.den × β)), (adel kt k l).Sublist l
  | [] => List.Sublist.refl _
  | x :: l => by
    simp only [adel]
    split
    · exact List.sublist_cons_self ..
    · exact (adel_sub l).cons_cons _

theorem adel_rep {k : kt.den} : ∀ {es : List (ME kt)} {l : List (kt.den × β)}, (es.map fun e => (e.key, e.val)) = (l.map fun x => (x.1, f x.2)) → ∀ {n : Nat},
    (∀ {i e}, mlook kt k es n = some (i, e) → ((es.eraseIdx (i - n)).map fun e => (e.key, e.val)) = ((adel kt k l).map fun x => (x.1, f x.2))) ∧
    (mlook kt k es n = none → (es.map fun e => (e.key, e.val)) = ((adel kt k l).map fun x => (x.1, f x.2)))
  | [], [], _, n => ⟨fun h => (by cases h), fun _ => rfl⟩
  | [], _ :: _, he, _ => by simp at he
  | _ :: _, [], he, _ => by simp at he
  | e :: es, x :: l, he, n => by
    simp only [List.map_cons, List.cons.injEq, Prod.mk.injEq] at he
    obtain ⟨⟨hx, hv⟩, he⟩ := he
    obtain ⟨h1, h2⟩ := adel_rep (k := k) he (n := n + 1)
    by_cases hq : keq kt k e.key = true
    · have hq' : keq kt k x.1 = true := by rw [← hx]; exact hq
      refine ⟨fun {i e'} h => ?_, fun h => ?_⟩
      · simp only [mlook, hq, if_true, Option.some.injEq, Prod.mk.injEq] at h
        obtain ⟨rfl, rfl⟩ := h
        simp [adel, hq', he]
      · simp [mlook, hq] at h
    · have hq' : ¬ keq kt k x.1 = true := by rw [← hx]; exact hq
      refine ⟨fun {i e'} h => ?_, fun h => ?_⟩
      · simp only [mlook, hq, if_false, Bool.false_eq_true] at h
        have hle := (mlook_some h).1
        have := h1 h
        rw [show i - n = (i - (n + 1)) + 1 by omega]
        simp only [List.eraseIdx_cons_succ, List.map_cons, adel, hq', if_false, this, hx, hv, Bool.false_eq_true]
      · simp only [mlook, hq, if_false, Bool.false_eq_true] at h
        have := h2 h
        simp only [List.map_cons, adel, hq', if_false, this, hx, hv, Bool.false_eq_true]

theorem MapR.del (M : MapR h r kt vt f l) {k : kt.den} (o : KeysOk h kt k l) {K : Heap → Prop}
    (c : ∀ h', h'.size = h.size → MapR h' r kt vt f (adel kt k l) → Ext (fun i => i = r) h h' → K h') : DelC kt vt h (some r) k K := by
  obtain ⟨es, clock, hr, he, hb, hn⟩ := M.rep
  refine ⟨es, clock, hr, o.kok he, ?_⟩
  rintro h' rfl
  obtain ⟨h1, h2⟩ := adel_rep (k := k) he (n := 0)
  have hsub : (mdel kt k es).Sublist es := by
    unfold mdel
    split
    · exact List.eraseIdx_sublist ..
    · exact List.Sublist.refl _
  refine c _ (by simp) ⟨⟨_, _, by simp [M.lt], ?_, fun e hm => hb e (hsub.subset hm), (hsub.map _).nodup hn⟩, ((adel_sub l).map _).nodup M.nodup⟩ (set_ext h r _)
  unfold mdel
  cases hl : mlook kt k es 0 with
  | none => exact h2 hl
  | some x => obtain ⟨i, e⟩ := x; exact h1 hl

theorem msto_set {n : Nat} {v : List Lf} : ∀ {es : List (ME kt)} {i : Nat} {e : ME kt}, es[i]? = some e → e.born = n → (es.map (·.born)).Nodup → msto n v es = es.set i { e with val := v }
  | [], i, e, h, _, _ => by simp at h
  | x :: es, 0, e, h, hb, hn => by
    simp at h; subst h
    simp [msto, hb]
  | x :: es, i + 1, e, h, hb, hn => by
    simp only [List.map_cons, List.nodup_cons] at hn
    have h' : es[i]? = some e := by simpa using h
    have hne : x.born ≠ n := fun hx => hn.1 (List.mem_map.2 ⟨e, List.mem_of_getElem? h', by rw [hb, hx]⟩)
    simp [msto, hne, msto_set h' hb hn.2]

theorem msto_new {v z : List Lf} {k : kt.den} {n : Nat} : ∀ {es : List (ME kt)}, (∀ e ∈ es, e.born < n) → msto n v (es ++ [⟨k, z, n⟩]) = es ++ [⟨k, v, n⟩]
  | [], _ => by simp [msto]
  | x :: es, h => by
    have : x.born ≠ n := by have := h x (List.mem_cons_self ..); omega
    simp [msto, this, msto_new fun e he => h e (List.mem_cons_of_mem _ he)]

/-- m[k] = v, in two steps. -/
theorem MapR.ent (M : MapR h r kt vt f l) (hk : KeyLT kt) {k : kt.den} {v : β} (o : KeysOk h kt k l) (ht : ∀ v : β, ExL vt.lts fun l => l = f v) {y z : List Lf} (hy : y = f v) (hz : ExL vt.lts fun l => l = z) {K : Heap → Prop}
    (c : ∀ h', h'.size = h.size → MapR h' r kt vt f (aput kt k v l) → Ext (fun i => i = r) h h' → K h') : EntC kt vt z h (some r) k fun x n h' => StoE kt vt h' (some r) (n : Int) y K := by
  subst hy
  obtain ⟨es, clock, hr, he, hb, hn⟩ := M.rep
  obtain ⟨h1, h2⟩ := aput_rep hk (k := k) (v := v) he (n := 0)
  have hlt := M.lt
  refine ⟨r, es, clock, rfl, hr, o.kok he, ?_⟩
  have hval : ExL vt.lts fun l' => l' = (ment kt k z es clock).1 := by
    unfold ment
    cases hl : mlook kt k es 0 with
    | none => exact hz
    | some p =>
      obtain ⟨i, e⟩ := p
      have hm := List.mem_of_getElem? (mlook_some hl).2.1
      have : (e.key, e.val) ∈ (l.map fun x => (x.1, f x.2)) := by rw [← he]; exact List.mem_map.2 ⟨e, hm, rfl⟩
      obtain ⟨x, _, hx⟩ := List.mem_map.1 this
      have hxe : f x.2 = e.val := congrArg Prod.snd hx
      simp only
      rw [← hxe]; exact ht x.2
  refine ExL_mono (fun l' hl' => ⟨hl', ?_⟩) hval
  rintro n h' rfl rfl
  unfold ment
  have wset : ∀ o o' : Obj, (h.setIfInBounds r o).setIfInBounds r o' = h.setIfInBounds r o' := fun o o' => Array.setIfInBounds_setIfInBounds _
  cases hl : mlook kt k es 0 with
  | none =>
    simp only
    refine ⟨r, es ++ [⟨k, z, clock⟩], clock + 1, clock, rfl, rfl, by simp [hlt], ⟨_, List.mem_append.2 (.inr (List.mem_singleton_self _)), rfl⟩, ?_⟩
    rintro h'' rfl
    rw [wset, msto_new hb]
    refine c _ (by simp) ⟨⟨_, _, by simp [hlt]; rfl, h2 hl clock, ?_, ?_⟩, aput_nodup hk M.nodup⟩ (set_ext h r _)
    · intro e hm
      rcases List.mem_append.1 hm with hm | hm
      · have := hb e hm; omega
      · simp at hm; subst hm; simp
    · simp only [List.map_append, List.nodup_append]
      refine ⟨hn, by simp, ?_⟩
      intro a ha b hb'
      simp at hb'
      subst hb'
      obtain ⟨e2, h4, rfl⟩ := List.mem_map.1 ha
      have := hb e2 h4
      omega
  | some p =>
    obtain ⟨i, e⟩ := p
    obtain ⟨_, h3, hke⟩ := mlook_some hl
    rw [Nat.sub_zero] at h3
    have hke' := (keq_iff hk _ _).1 hke
    simp only
    refine ⟨r, es, clock, e.born, rfl, rfl, by simp [hlt], ⟨e, List.mem_of_getElem? h3, rfl⟩, ?_⟩
    rintro h'' rfl
    rw [wset, msto_set h3 rfl hn, show ({ e with val := f v } : ME kt) = ⟨k, f v, e.born⟩ by rw [hke']]
    have h1' := h1 hl
    rw [Nat.sub_zero] at h1'
    refine c _ (by simp) ⟨⟨_, _, by simp [hlt]; rfl, h1', ?_, ?_⟩, aput_nodup hk M.nodup⟩ (set_ext h r _)
    · intro e' hm
      have hbb : e'.born ∈ (es.set i ⟨k, f v, e.born⟩).map (·.born) := List.mem_map.2 ⟨e', hm, rfl⟩
      rw [set_born (e := e) (y := ⟨k, f v, e.born⟩) h3 rfl] at hbb
      obtain ⟨e2, h4, h5⟩ := List.mem_map.1 hbb
      rw [← h5]; exact hb e2 h4
    · rw [set_born (e := e) (y := ⟨k, f v, e.born⟩) h3 rfl]; exact hn

theorem pair_up : ∀ {es : List (ME kt)} {l : List (kt.den × β)}, (es.map fun e => (e.key, e.val)) = (l.map fun x => (x.1, f x.2)) →
    ∃ ps : List (ME kt × (kt.den × β)), ps.map (·.1) = es ∧ ps.map (·.2) = l ∧ ∀ p ∈ ps, p.1.key = p.2.1 ∧ p.1.val = f p.2.2
  | [], [], _ => ⟨[], rfl, rfl, by simp⟩
  | [], _ :: _, he => by simp at he
  | _ :: _, [], he => by simp at he
  | e :: es, x :: l, he => by
    simp only [List.map_cons, List.cons.injEq, Prod.mk.injEq] at he
    obtain ⟨⟨hx, hv⟩, he⟩ := he
    obtain ⟨ps, h1, h2, h3⟩ := pair_up he
    refine ⟨(e, x) :: ps, by simp [h1], by simp [h2], fun p hp => ?_⟩
    rcases List.mem_cons.1 hp with rfl | hp
    · exact ⟨hx, hv⟩
    · exact h3 p hp

/-- An iterator has come to some of a map's entries. -/
structure Iter (h : Heap) (b r : Nat) (kt : LT) (vt : VT) (f : β → List Lf) (l seen : List (kt.den × β)) : Prop where
  rep : ∃ (ps done rest : List (ME kt × (kt.den × β))) (clock : Nat) (sn : Array Nat), h[b]? = some (.mapIter (some r) clock sn clock) ∧ h[r]? = some (mobj kt vt (ps.map (·.1)) clock) ∧
    l = ps.map (·.2) ∧ (∀ p ∈ ps, p.1.key = p.2.1 ∧ p.1.val = f p.2.2) ∧ (∀ p ∈ ps, p.1.born < clock) ∧ (ps.map (·.1.born)).Nodup ∧ sn.toList = done.map (·.1.born) ∧ ps.Perm (done ++ rest) ∧ seen = done.map (·.2)

theorem find_born' : ∀ (es : List (ME kt)), (es.map (·.born)).Nodup → ∀ e ∈ es, es.find? (fun x => x.born == e.born) = some e
  | [], _, e, he => by simp at he
  | x :: es, hn, e, he => by
    simp only [List.map_cons, List.nodup_cons] at hn
    rcases List.mem_cons.1 he with rfl | he
    · simp
    · have : x.born ≠ e.born := fun hx => hn.1 (List.mem_map.2 ⟨e, he, hx.symm⟩)
      rw [List.find?_cons_of_neg (by simpa using this)]
      exact find_born' es hn.2 e he

theorem Iter.start (M : MapR h r kt vt f l) {K : Nat → Heap → Prop} (c : ∀ b h', b = h.size → h'.size = h.size + 1 → Ext0 h h' → Iter h' b r kt vt f l [] → K b h') : RngC h (some r) K := by
  obtain ⟨es, clock, hr, he, hb, hn⟩ := M.rep
  obtain ⟨ps, rfl, rfl, h3⟩ := pair_up he
  refine ⟨_, clock, hr, ?_⟩
  rintro b h' rfl rfl
  refine c _ _ rfl (by simp) (push_ext h _) ⟨ps, [], ps, clock, #[], by simp, (by rw [Array.getElem?_push, if_neg (by have := M.lt; omega)]; exact hr), rfl, h3, fun p hp => hb _ (List.mem_map.2 ⟨p, hp, rfl⟩), ?_, rfl, List.Perm.refl _, rfl⟩
  simpa [List.map_map, Function.comp_def] using hn

theorem Iter.ext {S : Nat → Prop} {h' : Heap} {b : Nat} {seen : List (kt.den × β)} (I : Iter h b r kt vt f l seen) (e : Ext S h h') (hb : ¬ S b) (hr : ¬ S r) : Iter h' b r kt vt f l seen := by
  obtain ⟨ps, done, rest, clock, sn, h1, h2, x⟩ := I.rep
  exact ⟨ps, done, rest, clock, sn, (e.same b (size_pos_of_getElem? h1) hb).trans h1, (e.same r (size_pos_of_getElem? h2) hr).trans h2, x⟩

theorem Iter.lt {b : Nat} {seen : List (kt.den × β)} (I : Iter h b r kt vt f l seen) : b < h.size ∧ r < h.size := by
  obtain ⟨ps, done, rest, clock, sn, h1, h2, x⟩ := I.rep
  exact ⟨size_pos_of_getElem? h1, size_pos_of_getElem? h2⟩

/-- It steps. -/
theorem Iter.next {b : Nat} {seen : List (kt.den × β)} (I : Iter h b r kt vt f l seen) {over : Heap → Prop} {K : kt.den → List Lf → Heap → Prop}
    (c0 : seen.Perm l → over h)
    (c1 : ∀ x rest h', l.Perm (seen ++ x :: rest) → h'.size = h.size → Ext (fun i => i = b) h h' → Iter h' b r kt vt f l (seen ++ [x]) → EntryR h' b kt vt x.1 (f x.2) → K x.1 (f x.2) h') : NextC kt vt h b over K := by
  obtain ⟨ps, done, rest, clock, sn, h1, h2, hl, h3, h4, h5, h6, h7, rfl⟩ := I.rep
  have hbr : b ≠ r := fun e => by rw [e, h2] at h1; cases h1
  have hmem : ∀ p, p ∈ ps ↔ p ∈ done ∨ p ∈ rest := fun p => by rw [h7.mem_iff, List.mem_append]
  have hbn : ((done ++ rest).map (·.1.born)).Nodup := (h7.map _).nodup h5
  have hsn : ∀ n, n ∈ sn ↔ ∃ p ∈ done, p.1.born = n := fun n => by rw [← Array.mem_toList_iff, h6, List.mem_map]
  refine .inr ⟨r, clock, sn, clock, _, clock, h1, h2, ?_, Nat.le_refl _, fun hall => c0 ?_, ?_⟩
  · intro e he
    obtain ⟨p, hp, rfl⟩ := List.mem_map.1 he
    exact h4 p hp
  · have hrest : rest = [] := by
      cases rest with
      | nil => rfl
      | cons q rest =>
        exfalso
        have hq : q ∈ ps := (hmem q).2 (.inr (List.mem_cons_self ..))
        have := hall q.1 (List.mem_map.2 ⟨q, hq, rfl⟩)
        obtain ⟨p, hp, hpb⟩ := (hsn _).1 this
        rw [List.map_append, List.nodup_append] at hbn
        exact hbn.2.2 _ (List.mem_map.2 ⟨p, hp, rfl⟩) _ (List.mem_map.2 ⟨q, List.mem_cons_self .., rfl⟩) hpb
    subst hrest
    rw [List.append_nil] at h7
    rw [hl]
    exact (h7.map _).symm
  · intro e he hns h' hh
    subst hh
    obtain ⟨p, hp, rfl⟩ := List.mem_map.1 he
    have hpr : p ∈ rest := ((hmem p).1 hp).resolve_left fun hd => hns ((hsn _).2 ⟨p, hd, rfl⟩)
    obtain ⟨r1, r2, hrr⟩ := List.append_of_mem hpr
    obtain ⟨hk, hv⟩ := h3 p hp
    have hperm : ps.Perm (done ++ p :: (r1 ++ r2)) := by
      refine h7.trans (List.Perm.append_left _ ?_)
      rw [hrr]
      exact List.perm_middle
    have e1 : Ext (fun i => i = b) h (h.setIfInBounds b (.mapIter (some r) clock (sn.push p.1.born) clock)) := set_ext h b _
    have hr' : (h.setIfInBounds b (.mapIter (some r) clock (sn.push p.1.born) clock))[r]? = some (mobj kt vt (ps.map (·.1)) clock) := (e1.same r (size_pos_of_getElem? h2) fun x => hbr x.symm).trans h2
    have hb' : (h.setIfInBounds b (.mapIter (some r) clock (sn.push p.1.born) clock))[b]? = some (.mapIter (some r) clock (sn.push p.1.born) clock) := by simp [size_pos_of_getElem? h1]
    have := c1 p.2 ((r1 ++ r2).map (·.2)) _ (by rw [hl]; simpa using hperm.map (·.2)) (by simp) e1
      ⟨ps, done ++ [p], r1 ++ r2, clock, sn.push p.1.born, hb', hr', hl, h3, h4, h5, by simp [h6], by simpa using hperm, by simp⟩
      ⟨r, clock, sn, p.1, _, clock, hb', hr', find_born' _ (by simpa [List.map_map, Function.comp_def] using h5) _ he, hk, hv⟩
    rw [hk, hv]; exact this

end
/-- The bytes of a text in new memory. -/
theorem S2B.mk {f : UInt8 → List Lf} (hf : ∀ c, f c = [.int .u8 (c.toNat : Int)]) {e : TypeId} {t : ByteArray} {h : Heap} {K : Slc → Heap → Prop}
    (k : ∀ s h', Arr 1 f h' s t.data.toList → Ext0 h h' → s.a = some (h.size, 0) → K s h') : S2B e t h K := by
  rintro c b h' hc rfl rfl
  refine k _ _ ⟨rfl, fun _ => ⟨_, _, rfl⟩, ?_, fun _ => rfl⟩ (push_ext h _) rfl
  intro b off hb i x hx
  simp only [Option.some.injEq, Prod.mk.injEq] at hb
  obtain ⟨rfl, rfl⟩ := hb
  rw [hf]
  refine ⟨⟨_, _, _, Array.getElem?_push_size, ?_⟩, trivial⟩
  have hi : i < t.data.toList.length := by
    rcases Nat.lt_or_ge i t.data.toList.length with h' | h'
    · exact h'
    · rw [List.getElem?_eq_none h'] at hx; cases hx
  rw [Nat.mul_one, Nat.zero_add, List.getElem?_toArray, List.getElem?_append_left (by simpa using hi), List.getElem?_map, hx]
  rfl

theorem flat_take {α : Type} {sz : Nat} {f : α → List Lf} (hf : Sized sz f) (l : List α) {n : Nat} (hn : n ≤ l.length) : (l.take n).flatMap f = (l.flatMap f).take (n * sz) := by
  have h3 : l.flatMap f = (l.take n).flatMap f ++ (l.drop n).flatMap f := by rw [← List.flatMap_append, List.take_append_drop]
  have h4 : ((l.take n).flatMap f).length = n * sz := by rw [flat_len hf, List.length_take, Nat.min_eq_left hn]
  rw [h3, ← h4, List.take_left]

/-- The end of a slice of the call's own is cleared; what is ahead stays. -/
theorem ClrC.tail {α : Type} {sz : Nat} {f : α → List Lf} (hf : Sized sz f) {h : Heap} {s : Slc} {l : List α} (o : Own sz f h s l) {n : Nat} (hn : n ≤ l.length) {zc : List Lf} (hz : zc.length = sz) {K : Heap → Prop}
    (k : ∀ h', h'.size = h.size → Own sz f h' (s.sub sz 0 n s.cap) (l.take n) → Ext (fun b => ∃ off, s.a = some (b, off)) h h' → K h') : ClrC zc (s.sub sz n s.len s.cap) h K := by
  have hlen := o.len
  have hlec := o.lec
  have k0 := k h rfl (o.take hf hn) (Ext.refl _ _)
  rcases o.blk with ⟨ha, hc⟩ | ⟨b, cc, t, ha, hb, hsz, htk⟩
  · have : (s.sub sz n s.len s.cap).a = none := by unfold Slc.sub; simp [ha]
    unfold ClrC
    rw [this]; exact k0
  · by_cases hnl : n = s.len
    · have hl0 : (s.sub sz n s.len s.cap).len = 0 := by simp [Slc.sub, hnl]
      unfold ClrC
      cases hh : (s.sub sz n s.len s.cap).a with
      | none => exact k0
      | some p => exact ⟨fun _ => k0, fun hne => absurd hl0 hne⟩
    · have hcap : ¬ s.cap = n := by omega
      have hpl : (s.sub sz n s.len s.cap).plain := Slc.plain_sub o.pl _ _ _ _
      have hsa : (s.sub sz n s.len s.cap).a = some (b, 0 + n * sz) := by simp [Slc.sub, ha, hcap]
      have hsl : (s.sub sz n s.len s.cap).len = s.len - n := rfl
      unfold ClrC
      rw [hsa, hsl]
      refine ⟨fun h0 => by omega, fun _ => ⟨hpl, ?_⟩⟩
      have hzl : ((List.replicate (s.len - n) (zc.map Lf.val)).flatten).length = (s.len - n) * sz := by simp [hz]
      have h1 : s.len * sz ≤ s.cap * sz := Nat.mul_le_mul_right _ hlec
      have h2 : n * sz ≤ s.len * sz := Nat.mul_le_mul_right _ (by omega)
      have h3 : (s.len - n) * sz = s.len * sz - n * sz := Nat.sub_mul _ _ _
      refine ⟨cc, t, (0, 0), hb, by rw [hzl]; omega, .inl (Nat.le_refl _), ?_⟩
      rintro h' rfl
      have hw := wr_splice ((List.replicate (s.len - n) (zc.map Lf.val)).flatten) cc.toList (0 + n * sz) (by rw [hzl]; simp; omega)
      rw [Array.toArray_toList] at hw
      rw [Nat.zero_add] at hw
      refine k _ (by simp) ⟨by simp [Slc.sub]; omega, by simp [Slc.sub]; omega, .inr ⟨b, _, t, by simp [Slc.sub, ha], by simp [size_pos_of_getElem? hb]; rfl, ?_, ?_⟩, Slc.plain_sub o.pl _ _ _ _⟩ ((set_ext h b _).mono fun i hi => ⟨0, by rw [show i = b from hi]; exact ha⟩)
      · rw [hw]
        simp only [Nat.zero_add, List.size_toArray, List.length_append, List.length_take, List.length_drop, hzl, Array.length_toList, hsz, Slc.sub, Nat.sub_zero]
        rw [h3]
        omega
      · rw [hw, flat_take hf l hn, List.map_take, ← htk]
        simp only [Nat.zero_add, List.length_take, Nat.min_eq_left hn]
        rw [List.take_append_of_le_length (by simp; omega), List.take_take, List.take_take, Nat.min_self, Nat.min_eq_left (by rw [← hlen]; exact h2)]

end Go.V
set_option linter.unusedVariables false
set_option linter.unusedSimpArgs false
/-! Words for ranges over functions. -/
namespace Go.V

/-- A block holds a map's iterator; a block holds neither a map nor an iterator. -/
def IsIt (h : Heap) (b : Nat) : Prop := ∃ m s sn c, h[b]? = some (.mapIter m s sn c)
def NoMap (h : Heap) (b : Nat) : Prop := (∀ es c, h[b]? ≠ some (.map es c)) ∧ ¬ IsIt h b

theorem LoopC.mk {lp : Loop} {h : Heap} {K : Nat → Nat → Heap → Prop}
    (k : ∀ D l h', D = h.size → l = h.size + 1 → h'.size = h.size + 2 → Ext0 h h' → h'[D]? = some (.deferred (some [])) → LAt h' l lp → K D l h') : LoopC lp h K := by
  rintro D l h' rfl rfl _ rfl
  refine k _ _ _ rfl rfl (by simp) ((push_ext _ _).trans (push_ext _ _)) ?_ ?_
  · rw [Array.getElem?_push, if_neg (by simp)]; simp
  · unfold LAt
    rw [Array.getElem?_push, if_pos (by simp)]

theorem lset {h : Heap} {l : Nat} {o o' : Obj} (hl : h[l]? = some o) : (h.setIfInBounds l o').size = h.size ∧ Ext (fun b => b = l) h (h.setIfInBounds l o') ∧ (h.setIfInBounds l o')[l]? = some o' :=
  ⟨by simp, set_ext h l o', by have := size_pos_of_getElem? hl; simp [this]⟩

theorem LBusy.mk {h : Heap} {l : Nat} {lp : Loop} {K : Heap → Prop} (ha : LAt h l lp) (k : ∀ h', h'.size = h.size → Ext (fun b => b = l) h h' → h'[l]? = some (lobj lp .busy) → K h') : LBusy h l lp K := by
  refine ⟨ha, ?_⟩
  rintro h' rfl
  obtain ⟨h1, h2, h3⟩ := lset (o' := lobj lp .busy) ha
  exact k _ h1 h2 h3
theorem LReady.mk {h : Heap} {l : Nat} {lp : Loop} {K : Heap → Prop} (ha : h[l]? = some (lobj lp .busy)) (k : ∀ h', h'.size = h.size → Ext (fun b => b = l) h h' → LAt h' l lp → K h') : LReady h l lp K := by
  refine ⟨ha, ?_⟩
  rintro h' rfl
  obtain ⟨h1, h2, h3⟩ := lset (o' := lobj lp .ready) ha
  exact k _ h1 h2 h3
theorem LEnd.mk {h : Heap} {l : Nat} {lp : Loop} {K : Heap → Prop} (ha : LAt h l lp) (k : ∀ h', h'.size = h.size → Ext (fun b => b = l) h h' → K h') : LEnd h l lp K := by
  refine ⟨ha, ?_⟩
  rintro h' rfl
  obtain ⟨h1, h2, h3⟩ := lset (o' := lobj lp .exhausted) ha
  exact k _ h1 h2
theorem CollC.mk {h : Heap} {D : Nat} {K : Heap → Prop} (ha : h[D]? = some (.deferred (some []))) (k : ∀ h', h'.size = h.size → Ext (fun b => b = D) h h' → K h') : CollC h D K := by
  refine ⟨ha, ?_⟩
  rintro h' rfl
  obtain ⟨h1, h2, h3⟩ := lset (o' := .deferred none) ha
  exact k _ h1 h2

theorem LAt.lt {h : Heap} {l : Nat} {lp : Loop} (a : LAt h l lp) : l < h.size := size_pos_of_getElem? a
theorem LAt.ext {S : Nat → Prop} {h h' : Heap} {l : Nat} {lp : Loop} (a : LAt h l lp) (e : Ext S h h') (hs : ¬ S l) : LAt h' l lp := (e.same l a.lt hs).trans a
theorem LAt.noIt {h : Heap} {l : Nat} {lp : Loop} (a : LAt h l lp) : NoMap h l := ⟨fun es c e => (by rw [a] at e; cases e), fun ⟨_, _, _, _, e⟩ => by rw [a] at e; cases e⟩
theorem Blk.noIt {h : Heap} {b : Nat} {t : TypeId} {cs : List Lf} (k : Blk h b t cs) : NoMap h b := ⟨fun es c e => (by unfold Blk at k; rw [k] at e; cases e), fun ⟨_, _, _, _, e⟩ => by unfold Blk at k; rw [k] at e; cases e⟩
theorem Own.noIt {α : Type} {sz : Nat} {f : α → List Lf} {h : Heap} {s : Slc} {l : List α} (o : Own sz f h s l) {b off : Nat} (hs : s.a = some (b, off)) : NoMap h b := by
  rcases o.blk with ⟨hn, _⟩ | ⟨b', c, e, ha, hb, _⟩
  · rw [hn] at hs; cases hs
  · rw [ha] at hs; cases hs
    exact ⟨fun es c e => (by rw [hb] at e; cases e), fun ⟨_, _, _, _, e⟩ => by rw [hb] at e; cases e⟩

/-- []byte(x): the block's cells stand. -/
theorem MarkC.mk {h : Heap} {b off : Nat} {t : TypeId} {cs : List Lf} {a : Option (Nat × Nat)} (ha : a = some (b, off)) (k : Blk h b t cs) {K : Heap → Prop}
    (c : ∀ h', h'.size = h.size → Ext (fun i => i = b) h h' → (∀ o l, cellsAt h b o l → cellsAt h' b o l) → K h') : MarkC h a K := by
  subst ha
  have hb := size_pos_of_getElem? k
  refine ⟨_, _, k, ?_⟩
  rintro h' rfl
  refine c _ (by simp) (set_ext _ _ _) fun o l => ?_
  induction l generalizing o with
  | nil => exact fun _ => trivial
  | cons x l ih =>
    rintro ⟨⟨c', t', fz, hc, hx⟩, hr⟩
    rw [show h[b]? = _ from k] at hc
    cases hc
    exact ⟨⟨_, _, _, by rw [Array.getElem?_setIfInBounds_self, if_pos hb], hx⟩, ih _ hr⟩

end Go.V
set_option linter.unusedVariables false
set_option linter.unusedSimpArgs false
/-! From what is read of the arguments to rows of elements; from a call's end to the row's. -/
namespace Go.V
open Go.ChangeShapes Go.WideShapes

theorem cells_cellsAt {w : World} {base b off : Nat} {n : Nat} {xs : List Lf} (hn : n = xs.length) (h : w.cells? base ⟨b, off, none⟩ n = some (xs.map Lf.val)) : cellsAt w.heap b off xs := by
  subst hn
  obtain ⟨_, _, hc⟩ := World.cells?_some h
  have key : ∀ (l : List Lf) (k : Nat), (∀ i x, l[i]? = some x → w.cell? ⟨b, off + (k + i), none⟩ = some x.val) → cellsAt w.heap b (off + k) l := by
    intro l
    induction l with
    | nil => intro k _; exact trivial
    | cons x l ih =>
      intro k hk
      refine ⟨?_, ?_⟩
      · have := hk 0 x rfl
        unfold World.cell? at this
        simp only [Nat.add_zero] at this
        split at this
        · rename_i c e fz hb
          exact ⟨c, e, fz, hb, by simpa using this⟩
        · cases this
      · have := ih (k + 1) fun i y hy => by
          have := hk (i + 1) y (by simpa using hy)
          rwa [show k + (i + 1) = k + 1 + i by omega] at this
        exact this
  have := key xs 0 fun i x hx => by
    have hi : i < xs.length := by
      rcases Nat.lt_or_ge i xs.length with h' | h'
      · exact h'
      · rw [List.getElem?_eq_none h'] at hx; cases hx
    have := hc i hi
    rw [List.getElem?_map, hx] at this
    rw [Nat.zero_add]
    refine Eq.trans ?_ this
    congr 1
    unfold Addr.add
    split
    · rename_i h0; subst h0; rfl
    · rfl
  simpa using this

theorem list_of {α : Type} {p : Nat → α → Prop} : ∀ n : Nat, (∀ i, i < n → ∃ x, p i x) → ∃ l : List α, l.length = n ∧ ∀ i x, l[i]? = some x → p i x
  | 0, _ => ⟨[], rfl, fun i x h => by simp at h⟩
  | n + 1, h => by
    obtain ⟨l, hl, hp⟩ := list_of n fun i hi => h i (by omega)
    obtain ⟨x, hx⟩ := h n (by omega)
    refine ⟨l ++ [x], by simp [hl], fun i y hy => ?_⟩
    rw [List.getElem?_append] at hy
    split at hy
    · exact hp i y hy
    · rename_i hi
      rw [List.getElem?_singleton] at hy
      split at hy
      · rename_i h0
        have : i = n := by omega
        subst this
        cases hy; exact hx
      · cases hy

section
variable {H : Type} {enc : TypeId × Value → H} {P : Program} {W : World}

/-- A slice among the arguments is a row. -/
theorem open_arr {α : Type} {sz : Nat} {f : α → List Lf} {Q : α → Prop} {t e : TypeId} {base : Nat} {v : Value} {d : DataW H} {p : List MemPlace} (ht : P.underlying t = some (.slice e)) (hsz : P.cellsOf e = sz) (hf : Sized sz f)
    (hel : ∀ n cs y, cs.length = sz → DataW.trod enc P W 0 (fun _ => true) true n e cs = some y → ∃ x : α, cs = (f x).map Lf.val ∧ Q x)
    (hval : Value.okWide P W .any base t v) (h : DataW.Trod enc P W 0 (fun _ => true) true t v d p) :
    ∃ s l, v = (Lf.slc s).val ∧ Arr sz f W.heap s l ∧ (∀ x ∈ l, Q x) ∧ l.length ≤ 9223372036854775807 := by
  have hspot : ∀ a len cap, v = .slice (some a) len cap → a.spot = none := by
    rintro a len cap rfl
    simp only [Value.okWide, ht, Cell.okWide, Cell.ok] at hval
    exact hval.2.2.2.1
  obtain ⟨fuel, hf'⟩ := h
  have hone : ∃ a len cap, v = .slice a len cap := by
    simp only [Value.okWide, ht, Cell.okWide] at hval
    unfold Cell.ok at hval
    rw [ht] at hval
    split at hval <;> first | exact ⟨_, _, _, rfl⟩ | simp_all
  obtain ⟨a, len, cap, rfl⟩ := hone
  have hcs : (Value.slice a len cap).cells.toList = [.slice a len cap] := rfl
  rw [hcs] at hf'
  rcases Deep.open_slice ht hf' with ⟨h1, _⟩ | ⟨a', len', cap', m, n, D, Pl, h1, hb, hl, hm, hmm, _, hx⟩
  · simp only [List.cons.injEq, Value.slice.injEq, and_true] at h1
    obtain ⟨rfl, rfl, rfl⟩ := h1
    exact ⟨⟨none, 0, 0⟩, [], rfl, Arr.nil _ _ _ _, by simp, by simp⟩
  · simp only [List.cons.injEq, Value.slice.injEq, and_true] at h1
    obtain ⟨rfl, rfl, rfl⟩ := h1
    obtain ⟨b, off, spot⟩ := a'
    have hs : spot = none := hspot _ _ _ rfl
    subst hs
    simp only [if_true] at hmm
    have hel' : ∀ i, i < len → ∃ x : α, cellsAt W.heap b (off + i * sz) (f x) ∧ Q x := by
      intro i hi
      obtain ⟨cs, h2, h3⟩ := hx i (by omega)
      rw [hsz] at h2
      obtain ⟨x, rfl, hq⟩ := hel n cs _ (World.cells?_some h2).2.1 h3
      refine ⟨x, cells_cellsAt (base := 0) (n := sz) (hf x).symm ?_, hq⟩
      have he : (⟨b, off, none⟩ : Addr).add (i * sz) = ⟨b, off + i * sz, none⟩ := by
        unfold Addr.add
        split
        · rename_i h0; rw [h0]; rfl
        · rfl
      rw [he] at h2
      exact h2
    obtain ⟨l, hll, hlp⟩ := list_of len hel'
    have hmax : maxLen = 9223372036854775807 := by decide
    refine ⟨⟨some (b, off), len, cap⟩, l, rfl, ⟨hll.symm, fun _ => ⟨b, off, rfl⟩, fun b' off' hb' i x hix => ?_, fun _ => rfl⟩, fun x hx => ?_, by omega⟩
    · simp only [Option.some.injEq, Prod.mk.injEq] at hb'
      obtain ⟨rfl, rfl⟩ := hb'
      exact (hlp i x hix).1
    · obtain ⟨i, hi⟩ := List.mem_iff_getElem?.1 hx
      exact (hlp i x hi).2

/-- The same, and what the row weighs. -/
theorem open_arrW {α : Type} {sz : Nat} {f : α → List Lf} {Q : α → Prop} {t e : TypeId} {base : Nat} {v : Value} {d : DataW H} {p : List MemPlace} (ht : P.underlying t = some (.slice e)) (hsz : P.cellsOf e = sz) (hf : Sized sz f)
    (hel : ∀ n cs y, cs.length = sz → DataW.trod enc P W 0 (fun _ => true) true n e cs = some y → ∃ x : α, cs = (f x).map Lf.val ∧ Q x)
    (hval : Value.okWide P W .any base t v) (h : DataW.Trod enc P W 0 (fun _ => true) true t v d p) :
    ∃ s l, v = (Lf.slc s).val ∧ Arr sz f W.heap s l ∧ (∀ x ∈ l, Q x) ∧ l.length ≤ 9223372036854775807 ∧ (l = [] ∨ ∃ k, (l.length + k) * P.bytesOf e ∈ d.weights P t) := by
  have hspot : ∀ a len cap, v = .slice (some a) len cap → a.spot = none := by
    rintro a len cap rfl
    simp only [Value.okWide, ht, Cell.okWide, Cell.ok] at hval
    exact hval.2.2.2.1
  obtain ⟨fuel, hf'⟩ := h
  have hone : ∃ a len cap, v = .slice a len cap := by
    simp only [Value.okWide, ht, Cell.okWide] at hval
    unfold Cell.ok at hval
    rw [ht] at hval
    split at hval <;> first | exact ⟨_, _, _, rfl⟩ | simp_all
  obtain ⟨a, len, cap, rfl⟩ := hone
  have hcs : (Value.slice a len cap).cells.toList = [.slice a len cap] := rfl
  rw [hcs] at hf'
  rcases Deep.open_slice ht hf' with ⟨h1, _⟩ | ⟨a', len', cap', m, n, D, Pl, h1, hb, hl, hm, hmm, hd, hx⟩
  · simp only [List.cons.injEq, Value.slice.injEq, and_true] at h1
    obtain ⟨rfl, rfl, rfl⟩ := h1
    exact ⟨⟨none, 0, 0⟩, [], rfl, Arr.nil _ _ _ _, by simp, by simp, .inl rfl⟩
  · simp only [List.cons.injEq, Value.slice.injEq, and_true] at h1
    obtain ⟨rfl, rfl, rfl⟩ := h1
    obtain ⟨b, off, spot⟩ := a'
    have hs : spot = none := hspot _ _ _ rfl
    subst hs
    simp only [if_true] at hmm
    have hel' : ∀ i, i < len → ∃ x : α, cellsAt W.heap b (off + i * sz) (f x) ∧ Q x := by
      intro i hi
      obtain ⟨cs, h2, h3⟩ := hx i (by omega)
      rw [hsz] at h2
      obtain ⟨x, rfl, hq⟩ := hel n cs _ (World.cells?_some h2).2.1 h3
      refine ⟨x, cells_cellsAt (base := 0) (n := sz) (hf x).symm ?_, hq⟩
      have he : (⟨b, off, none⟩ : Addr).add (i * sz) = ⟨b, off + i * sz, none⟩ := by
        unfold Addr.add
        split
        · rename_i h0; rw [h0]; rfl
        · rfl
      rw [he] at h2
      exact h2
    obtain ⟨l, hll, hlp⟩ := list_of len hel'
    have hmax : maxLen = 9223372036854775807 := by decide
    refine ⟨⟨some (b, off), len, cap⟩, l, rfl, ⟨hll.symm, fun _ => ⟨b, off, rfl⟩, fun b' off' hb' i x hix => ?_, fun _ => rfl⟩, fun x hx => ?_, by omega, .inr ⟨m - len, ?_⟩⟩
    · simp only [Option.some.injEq, Prod.mk.injEq] at hb'
      obtain ⟨rfl, rfl⟩ := hb'
      exact (hlp i x hix).1
    · obtain ⟨i, hi⟩ := List.mem_iff_getElem?.1 hx
      exact (hlp i x hi).2
    · have hd' : d = .slice ((List.range len).map D) ((List.range (m - len)).map fun j => D (len + j)) := congrArg Prod.fst hd
      subst hd'
      unfold DataW.weights
      rw [ht]
      simp [hll]

theorem cells?_spot {W : World} {base b off n : Nat} {q : Nat} {cs : List Value} (hn : 0 < n) (h : W.cells? base ⟨b, off, some q⟩ n = some cs) : False := by
  obtain ⟨h1, h2, h3⟩ := World.cells?_some h
  have h0 := h3 0 (by omega)
  have : W.cell? ((⟨b, off, some q⟩ : Addr).add 0) = none := by
    simp only [Addr.add, World.cell?]
    split <;> simp
  simp_all

/-- A slice in a cell: a slice without room may bear a spot. -/
theorem open_slc {α : Type} {sz : Nat} {f : α → List Lf} {Q : α → Prop} {t e : TypeId} {fuel : Nat} {v : Value} {y : DataW H × List MemPlace} (ht : P.underlying t = some (.slice e)) (hsz : P.cellsOf e = sz) (hsz0 : 0 < sz) (hf : Sized sz f)
    (hel : ∀ n cs y, cs.length = sz → DataW.trod enc P W 0 (fun _ => true) true n e cs = some y → ∃ x : α, cs = (f x).map Lf.val ∧ Q x)
    (h : DataW.trod enc P W 0 (fun _ => true) true fuel t [v] = some y) :
    ∃ s l, v = (Lf.slc s).val ∧ Arr sz f W.heap s l ∧ (∀ x ∈ l, Q x) ∧ l.length ≤ 9223372036854775807 ∧ (l = [] ∨ ∃ k, (l.length + k) * P.bytesOf e ∈ y.1.weights P t) := by
  rcases Deep.open_slice ht h with ⟨h1, _⟩ | ⟨a', len, cap, m, n, D, Pl, h1, hb, hl, hm, hmm, hd, hx⟩
  · simp only [List.cons.injEq, and_true] at h1
    subst h1
    exact ⟨⟨none, 0, 0⟩, [], rfl, Arr.nil _ _ _ _, by simp, by simp, .inl rfl⟩
  · simp only [List.cons.injEq, and_true] at h1
    subst h1
    obtain ⟨b, off, spot⟩ := a'
    simp only [if_true] at hmm
    subst hmm
    have hmax : maxLen = 9223372036854775807 := by decide
    cases spot with
    | some q =>
      have hc : m = 0 := by
        cases m with
        | zero => rfl
        | succ m =>
          exfalso
          obtain ⟨cs, h2, _⟩ := hx 0 (by omega)
          rw [hsz, Nat.zero_mul] at h2
          have : (⟨b, off, some q⟩ : Addr).add 0 = ⟨b, off, some q⟩ := rfl
          rw [this] at h2
          exact cells?_spot hsz0 h2
      subst hc
      have hl0 : len = 0 := by omega
      subst hl0
      exact ⟨@Slc.mk ⟨some q⟩ (some (b, off)) 0 0, [], rfl, ⟨rfl, fun h => absurd rfl h, fun _ _ _ i x hx => by simp at hx, fun h => absurd rfl h⟩, by simp, by simp, .inl rfl⟩
    | none =>
      have hel' : ∀ i, i < len → ∃ x : α, cellsAt W.heap b (off + i * sz) (f x) ∧ Q x := by
        intro i hi
        obtain ⟨cs, h2, h3⟩ := hx i (by omega)
        rw [hsz] at h2
        obtain ⟨x, rfl, hq⟩ := hel n cs _ (World.cells?_some h2).2.1 h3
        refine ⟨x, cells_cellsAt (base := 0) (n := sz) (hf x).symm ?_, hq⟩
        have he : (⟨b, off, none⟩ : Addr).add (i * sz) = ⟨b, off + i * sz, none⟩ := by
          unfold Addr.add
          split
          · rename_i h0; rw [h0]; rfl
          · rfl
        rw [he] at h2
        exact h2
      obtain ⟨l, hll, hlp⟩ := list_of len hel'
      refine ⟨⟨some (b, off), len, m⟩, l, rfl, ⟨hll.symm, fun _ => ⟨b, off, rfl⟩, fun b' off' hb' i x hix => ?_, fun _ => rfl⟩, fun x hx => ?_, by omega, .inr ⟨m - len, ?_⟩⟩
      · simp only [Option.some.injEq, Prod.mk.injEq] at hb'
        obtain ⟨rfl, rfl⟩ := hb'
        exact (hlp i x hix).1
      · obtain ⟨i, hi⟩ := List.mem_iff_getElem?.1 hx
        exact (hlp i x hi).2
      · rw [hd]
        unfold DataW.weights
        rw [ht]
        simp [hll]

theorem wf_int {k : IntKind} {n : Int} (h : (Lit.int k n).wf = true) : k.min ≤ n ∧ n ≤ k.max := by
  simpa [Lit.wf, Bool.and_eq_true, decide_eq_true_eq] using h

/-- A number among the arguments. -/
theorem open_int {k : IntKind} {t : TypeId} {base : Nat} {v : Value} {d : DataW H} {p : List MemPlace} (ht : P.underlying t = some (.int k)) (hval : Value.okWide P W .any base t v) (h : DataW.Trod enc P W 0 (fun _ => true) true t v d p) :
    ∃ n, v = (Lf.int k n).val ∧ k.min ≤ n ∧ n ≤ k.max := by
  have hone : ∃ k' n, v = .int k' n := by
    simp only [Value.okWide, ht, Cell.okWide] at hval
    unfold Cell.ok at hval
    rw [ht] at hval
    split at hval <;> first | exact ⟨_, _, rfl⟩ | simp_all
  obtain ⟨k', n, rfl⟩ := hone
  obtain ⟨fuel, h⟩ := h
  have hcs : (Value.int k' n).cells.toList = [.int k' n] := rfl
  rw [hcs] at h
  obtain ⟨m, e, _, w⟩ := DataW.trod_int ht h
  simp only [List.cons.injEq, Value.int.injEq, and_true] at e
  obtain ⟨rfl, rfl⟩ := e
  exact ⟨n, rfl, wf_int w⟩
/-- A text among the arguments. -/
theorem open_str {t : TypeId} {base : Nat} {v : Value} {d : DataW H} {p : List MemPlace} (ht : P.underlying t = some .string) (hval : Value.okWide P W .any base t v) (h : DataW.Trod enc P W 0 (fun _ => true) true t v d p) :
    ∃ s, v = (Lf.str s).val ∧ s.size ≤ 9223372036854775807 := by
  have hone : ∃ s, v = .string s := by
    simp only [Value.okWide, ht, Cell.okWide] at hval
    unfold Cell.ok at hval
    rw [ht] at hval
    split at hval <;> first | exact ⟨_, rfl⟩ | simp_all
  obtain ⟨s, rfl⟩ := hone
  obtain ⟨fuel, h⟩ := h
  have hcs : (Value.string s).cells.toList = [.string s] := rfl
  rw [hcs] at h
  obtain ⟨m, e, _, w⟩ := DataW.trod_string ht h
  simp only [List.cons.injEq, Value.string.injEq, and_true] at e
  subst e
  have hmax : maxLen = 9223372036854775807 := by decide
  exact ⟨s, rfl, by omega⟩
theorem open_agg {t : TypeId} {fs : Array Field} {base : Nat} {v : Value} (ht : P.underlying t = some (.struct fs)) (hval : Value.okWide P W .any base t v) : ∃ cs, v = .agg cs := by
  unfold Value.okWide at hval
  rw [ht] at hval
  obtain ⟨cs, h, _⟩ := hval
  exact ⟨cs, h⟩

/-- What the call leaves, as the kit says it. -/
theorem below_of {W W' : World} (o : Out W W') (e : Ext0 W.heap W'.heap) : RowKit.Below W.heap.size W W' := ⟨o.os, o.tape, o.output, e.size, fun k hk => e.same k hk id⟩

theorem frozen_of {W W' : World} (e : Ext0 W.heap W'.heap) : True := trivial

end
end Go.V
namespace Go.V
open Go.ChangeShapes Go.WideShapes
section
variable {H : Type} {enc : TypeId × Value → H} {P : Program} {W : World}

theorem shut_bool {w : World} {base : Nat} {spare : Nat → Bool} {held : Bool} {t : TypeId} {b : Bool} (ht : P.underlying t = some .bool) : DataW.Trod enc P w base spare held t (.bool b) (.lit (.bool b)) [] := by
  refine ⟨1, ?_⟩
  have : (Value.bool b).cells.toList = [.bool b] := rfl
  rw [this]
  unfold DataW.trod
  rw [ht]

theorem trodAll_below (hl : laidOutB P = true) {W' : World} (hb : RowKit.Below W.heap.size W W') : ∀ {ts : List TypeId} {vs : List Value} {ds : List (DataW H)} {ps : List MemPlace},
    (ts.all fun t => P.readableRec t && decide (t < P.types.size)) = true → (∀ x ∈ ps, x.block < W.heap.size) → DataW.TrodAll enc P W 0 (fun _ => true) true ts vs ds ps →
    DataW.TrodAll enc P W' 0 (fun b => decide (b < W.heap.size)) true ts vs ds ps
  | [], _, _, _, _, _, h => by
    obtain ⟨rfl, rfl, rfl⟩ := trodAll_nil h
    exact rfl
  | t :: ts, _, _, _, ha, hlt, h => by
    obtain ⟨v, vs, d, ds, p, q, rfl, rfl, rfl, h1, h2⟩ := trodAll_cons h
    simp only [List.all_cons, Bool.and_eq_true, decide_eq_true_eq] at ha
    exact ⟨p, q, RowKit.Below.trod hl ha.1.1 ha.1.2 h1 hb fun x hx => hlt x (by simp [hx]), trodAll_below hl hb (by simpa using ha.2) (fun x hx => hlt x (by simp [hx])) h2, rfl⟩

/-- The law's end: it returned true, and nothing that was there has turned. -/
theorem post_true {f : Func} {s : ChangeSpec} {apart fresh handsOn : Bool} {W' : World} {args : Array Value} {ds gs : List (DataW H)} {before : List MemPlace} {tb : TypeId} (hl : laidOutB P = true)
    (hvars : s.vars = []) (hrt : f.resultTypes = #[tb]) (htb : P.underlying tb = some .bool) (hps : (f.params.toList.all fun t => P.readableRec t && decide (t < P.types.size)) = true)
    (hW : DataW.Whole enc P f.params.toList s.vars apart W args.toList ds gs before) (hfn : s.fn H (ds ++ gs) = { results := [.lit (.bool true)], args := ds })
    (o : Out W W') (e : Ext0 W.heap W'.heap) : s.post enc P f apart fresh handsOn false W args (.bool true) W' := by
  have hb := below_of o e
  have hlt := hW.lt
  obtain ⟨p, q, hA, hV, he, hz, hn⟩ := id hW
  have hq : gs = [] ∧ q = [] := by rw [hvars] at hV; exact trodVars_none hV
  obtain ⟨rfl, rfl⟩ := hq
  rw [List.append_nil] at he
  subst he
  refine ⟨ds, [], before, [], before, [], hW, ?_, ?_, ?_, hb.frame _, fun h => by cases h⟩
  · rw [hfn, hrt]
    exact trodAll_mk1 (shut_bool htb)
  · rw [hfn]
    exact trodAll_below hl hb hps hlt hA
  · rw [hvars, hfn]
    exact rfl

/-- The lifted law, from what its call does. -/
theorem lift {C : Checked} {os : Os} {f : FuncId} {fn : Func} {s : ChangeSpec} {conds : List PathCond} {apart fresh handsOn : Bool} {tb : TypeId}
    (own : ownKnob C.prog.godebug = none) (started : os.Started) (noInit : C.prog.inits.idxOf? f = none) (hfn : C.prog.funcs[f]? = some fn)
    (witness : ∃ (w : World) (tape : Tape) (i : Input), w.os = os ∧ (w.forCall tape i).Shaped C.prog ∧ i.vars = [] ∧ Input.okWide C.prog (w.forCall tape i) .any w.heap.size f i ∧
      s.pre6 enc C.prog fn conds apart (w.forCall tape i).memory i.args ∧ ({} : Assume).holds C.prog (lone (Frame.enter C.prog f i.args .normal) [] (w.forCall tape i)))
    (hl : laidOutB C.prog = true) (hvars : s.vars = []) (hrt : fn.resultTypes = #[tb]) (htb : C.prog.underlying tb = some .bool) (hps : (fn.params.toList.all fun t => C.prog.readableRec t && decide (t < C.prog.types.size)) = true)
    (hspec : ∀ (ds : List (DataW H)), ds.length = fn.params.toList.length → s.fn H ds = { results := [.lit (.bool true)], args := ds })
    (law : ∀ (W : World) (base : Nat) (args : Array Value) (ds : List (DataW H)) (p : List MemPlace),
      (∀ (j : Nat) t v, fn.params[j]? = some t → args[j]? = some v → Value.okWide C.prog W .any base t v) →
      DataW.TrodAll enc C.prog W 0 (fun _ => true) true fn.params.toList args.toList ds p → W.noneFrozen p →
      (DataW.weightsEach C.prog (fn.params.toList ++ s.plain.varTypes C.prog) ds).all (· ≤ reachBytes) = true →
      conds.all (PathCond.test C.prog ⟨fn.params.toList, ds, s.plain.varTypes C.prog, []⟩) = true →
      Calls C.prog f args W fun e W' => e = .returned (.bool true) ∧ Out W W' ∧ Ext0 W.heap W'.heap) :
    ReturnsInHanded {} C os f .any (s.pre6 enc C.prog fn conds apart) (s.post enc C.prog fn apart fresh handsOn false) := by
  refine returnsInHanded_of_change_sized own started noInit hfn witness ?_
  intro W base args ds gs before hval hW hcnd hwt _
  obtain ⟨p, q, hA, hV, he, hz, hn⟩ := id hW
  have hq : gs = [] ∧ q = [] := by rw [hvars] at hV; exact trodVars_none hV
  obtain ⟨rfl, rfl⟩ := hq
  rw [List.append_nil] at he
  subst he
  have hlen : ∀ {ts : List TypeId} {vs : List Value} {ds : List (DataW H)} {ps : List MemPlace}, DataW.TrodAll enc C.prog W 0 (fun _ => true) true ts vs ds ps → ds.length = ts.length := by
    intro ts
    induction ts with
    | nil => intro vs ds ps h; obtain ⟨rfl, rfl, rfl⟩ := trodAll_nil h; rfl
    | cons t ts ih => intro vs ds ps h; obtain ⟨v, vs, d, ds, p, q, rfl, rfl, rfl, h1, h2⟩ := trodAll_cons h; simp [ih h2]
  rw [List.append_nil] at hwt
  refine (law W base args ds before hval hA hz hwt hcnd).mono fun e W' ⟨he, o, x⟩ => ⟨_, he, ?_⟩
  exact post_true hl hvars hrt htb hps hW (by rw [List.append_nil]; exact hspec ds (hlen hA)) o x
end

/-- A call that answers true, as the row's lift wants it. -/
theorem Call.calls {P : Program} {f : FuncId} {args : List VV} {W : World} {vs : Array Value} (hv : vs = (args.map VV.val).toArray) (c : Call P f args W.heap [.one .bool] fun b h' => b = true ∧ Ext0 W.heap h') :
    Calls P f vs W fun e W' => e = .returned (.bool true) ∧ Out W W' ∧ Ext0 W.heap W'.heap := by
  subst hv
  refine (c W rfl).mono ?_
  rintro e W' ⟨o, b, he, ha⟩
  have hb : b = true ∧ Ext0 W.heap W'.heap := ha
  obtain ⟨rfl, hx⟩ := hb
  exact ⟨he, o, hx⟩

end Go.V
