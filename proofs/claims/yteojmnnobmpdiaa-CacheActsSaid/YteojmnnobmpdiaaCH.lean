/- This text proves a part of the laws of seat Yteojmnnobmpdiaa, under no condition: C11y. -/
import Derived.Test.YteojmnnobmpdiaaCF
import Derived.Test.YteojmnnobmpdiaaCG
set_option linter.unusedVariables false
set_option linter.unusedSimpArgs false
/-! The statement's own small call of a cache of texts. -/
namespace Go.V.Yteojmnnobmpdiaa.Strs
open Go Go.V

def ka : ByteArray := ⟨#[97]⟩
def vx : ByteArray := ⟨#[120]⟩
def st0 : CS := newS 1 10 false
def st1 (p : Nat) : CS := ⟨10, false, 1, [⟨[(ka, p)], [p], []⟩], [(1, p)], fun q => if q = p then some ⟨ka, vx, 4, true, 1⟩ else none⟩
def st2 (p : Nat) : CS := ⟨10, false, 2, [⟨[(ka, p)], [p], []⟩], [(1, p), (2, p)], fun q => if q = p then some ⟨ka, vx, 4, true, 2⟩ else none⟩

theorem cs_ext {a b : CS} (h1 : a.room = b.room) (h2 : a.strict = b.strict) (h3 : a.last = b.last) (h4 : a.sh = b.sh) (h5 : a.pins = b.pins) (h6 : ∀ q, a.it q = b.it q) : a = b := by
  cases a; cases b
  simp only at h1 h2 h3 h4 h5 h6
  subst h1 h2 h3 h4 h5
  congr 1
  exact funext h6

theorem sh0 (key : ByteArray) : shardOf 1 key = 0 := Nat.mod_one _
theorem look0 (p : Nat) : lookK ka [(ka, p)] = some p := rfl

theorem putM_eq : putM st0 ka 4 = st0 := rfl
theorem put_eq (p : Nat) : putT st0 0 ka vx 4 p = st1 p := by
  have h : putT st0 0 ka vx 4 p = pinS ((st0.setIt p ⟨ka, vx, 4, true, 0⟩).setSh 0 ⟨aput .str ka p [], [] ++ [p], []⟩) p ⟨ka, vx, 4, true, 0⟩ := rfl
  rw [h]
  refine cs_ext rfl rfl rfl rfl rfl fun q => ?_
  simp only [pinS, CS.setSh, CS.setIt, st1]
  split
  · rfl
  · rfl
theorem get_eq (p : Nat) : getS (st1 p) ka = (2, vx, true, st2 p) := by
  have h1 : (st1 p).it p = some ⟨ka, vx, 4, true, 1⟩ := by simp [st1]
  have h2 : shardOf (st1 p).sh.length ka = 0 := sh0 ka
  have h3 : ((st1 p).shAt 0).ins = [(ka, p)] := rfl
  unfold getS
  simp only [h2, h3, look0, h1]
  have h4 : pinS (busyS (st1 p) 0 ((st1 p).shAt 0) p) p ⟨ka, vx, 4, true, 1⟩ = st2 p := by
    refine cs_ext rfl rfl rfl rfl rfl fun q => ?_
    simp only [pinS, busyS, CS.setSh, CS.setIt, st2, st1]
    split <;> rfl
  rw [h4]
  rfl

theorem has0 (i : Nat) (s : Sh) (hs : st0.sh[i]? = some s) : Has st0 s := by
  match i, hs with
  | 0, hs => cases hs; exact ⟨by simp [emptySh], by simp [emptySh], by simp [emptySh], by simp [emptySh]⟩
theorem has1 (p : Nat) (i : Nat) (s : Sh) (hs : (st1 p).sh[i]? = some s) : Has (st1 p) s := by
  match i, hs with
  | 0, hs => cases hs; exact ⟨by simp [st1], by simp, by simp, by simp [st1]⟩
theorem has2 (p : Nat) (i : Nat) (s : Sh) (hs : (st2 p).sh[i]? = some s) : Has (st2 p) s := by
  match i, hs with
  | 0, hs => cases hs; exact ⟨by simp [st2], by simp, by simp, by simp [st2]⟩
theorem used2 (p : Nat) : usedS (st2 p).it ⟨[(ka, p)], [p], []⟩ = 4 := by
  have : chOf (st2 p).it p = 4 := by simp [chOf, st2]
  simp only [usedS, List.map_cons, List.map_nil, sums, this]
  decide
theorem charge2 (p : Nat) : chargeS (st2 p) = 4 := by
  have : chargeS (st2 p) = plusS 0 (usedS (st2 p).it ⟨[(ka, p)], [p], []⟩) := rfl
  rw [this, used2]; decide
theorem pinned2 (p : Nat) : pinnedS (st2 p) = 4 := by
  have h : pchOf (st2 p).it p = 4 := by simp [pchOf, st2]
  have : pinnedS (st2 p) = cap (sums [sums [pchOf (st2 p).it p]]) := rfl
  rw [this, h]; decide

end Go.V.Yteojmnnobmpdiaa.Strs
namespace Go.V.Yteojmnnobmpdiaa
open Go Go.V Strs

/-- lives. -/
theorem c13 {h : Heap} {R : Bool → Heap → Prop} (k : ∀ h', Ext0 h h' → R true h') : Call Go.Proofs.Try.prog 13 [] h [.one .bool] R := by
  refine ok13 (Strs.c60 (by decide) (by decide) (by decide) (by decide) (fun hh => by omega) fun _ _ h1 lab c row pm bs C e1 hl => ?_)
  have C0 : Strs.CR h1 lab c row pm bs st0 := C
  refine ⟨fun cc h' => cc = false ∧ h1 = h', Br.f rfl ⟨rfl, rfl⟩, ?_⟩
  rintro cc _ ⟨rfl, rfl⟩
  refine Br.f rfl (Strs.c61 C0 (by decide) (by decide) (by decide) has0 (by decide) (by decide) (fun hh => absurd hh (by decide)) (fun _ hh => by cases hh) fun _ _ h2 p lab2 hp hlp C2 g2 e2 => ?_)
  have C2' : Strs.CR h2 lab2 c row pm bs (st1 p) := by
    have : Strs.CR h2 lab2 c row pm bs (Strs.putT st0 0 ka vx 4 p) := C2
    rwa [put_eq] at this
  have e02 : Ext0 h h2 := e1.to0 e2 hl
  have hl2 : ∀ y, lab2 y ≠ none → h.size ≤ y := fun y hy => (g2.new y hy).elim (hl y) fun hh => by have := e1.size; omega
  refine Strs.c62 C2' (fun hh => absurd rfl (hh (1, p) (by simp [st1]))) fun x hx => ?_
  have hxp : x = p := by
    have : (((0 : Int) + 1), x) ∈ [((1 : Int), p)] := hx
    simpa using this
  subst hxp
  refine ⟨⟨ka, vx, 4, true, 1⟩, by simp [st1], Strs.c63 C2' (by decide) (has1 x) (show (0 : Int) ≤ 1 by decide) (show (1 : Int) ≤ 4611686018427387904 by decide) (fun q X hX => ?_) fun h3 C3 e3 => ?_⟩
  · simp only [st1] at hX
    split at hX
    · cases hX; exact ⟨by decide, by decide⟩
    · cases hX
  have hg : Strs.getS (st1 x) ⟨#[97]⟩ = (2, vx, true, st2 x) := get_eq x
  rw [hg] at C3 ⊢
  have e03 : Ext0 h h3 := e02.to0 e3 hl2
  refine Br.t rfl (Br.t rfl (Br.t rfl (Br.t rfl (Br.t rfl (Br.t rfl (Br.t rfl (Strs.c64 C3 (has2 x) fun h4 e4 => ?_)))))))
  rw [charge2]
  refine Br.t rfl (Strs.c65 (C3.ext0 e4) (has2 x) fun h5 e5 => ?_)
  rw [pinned2]
  refine Br.t rfl (Strs.c66 ((C3.ext0 e4).ext0 e5) (fun s hs => ?_) ?_)
  · have : s ∈ [(⟨[(ka, x)], [x], []⟩ : Strs.Sh)] := hs
    simp at this; subst this; simp
  · exact k h5 ((e03.trans e4).trans e5)

end Go.V.Yteojmnnobmpdiaa
