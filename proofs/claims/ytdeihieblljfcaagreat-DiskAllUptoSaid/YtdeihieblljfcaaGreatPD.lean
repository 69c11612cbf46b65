/- This text proves a part of the laws of seat YtdeihieblljfcaaGreat, under no condition: VTop VTopCS W5a W5b W5ok. -/
import Derived.Test.YtdeihieblljfcaaGreatPC
import Derived.ProofKit
import Derived.Deep.Slices
import Derived.Lib.SmallJoins
import Derived.HandedShaped
import Derived.Deep.CondSized
set_option linter.unusedVariables false
set_option linter.unusedSimpArgs false
/-! From what is read of the arguments to rows of elements; from a call's end to the row's. -/
namespace Go.V
open Go.ChangeShapes Go.WideShapes

theorem cells_cellsAt {w : World} {base b off : Nat} {n : Nat} {xs : List Lf} (hn : n = xs.length) (h : w.cells? base ⟨b, off, none⟩ n = some (xs.map Lf.val)) : cellsAt w.heap b off xs := by
  subst hn
  obtain ⟨_, _, hc⟩ := World.cells?_some h
  have key : ∀ (l : List Lf) (k : Nat), (∀ i x, l[i]? = some x → w.cell? ⟨b, off + (k + i), none⟩ = some x.val) → cellsAt w.heap b (off + k) l := by
    intro l
    induction l with
    | nil => intro k _; exact trivial
    | cons x l ih =>
      intro k hk
      refine ⟨?_, ?_⟩
      · have := hk 0 x rfl
        unfold World.cell? at this
        simp only [Nat.add_zero] at this
        split at this
        · rename_i c e fz hb
          exact ⟨c, e, fz, hb, by simpa using this⟩
        · cases this
      · have := ih (k + 1) fun i y hy => by
          have := hk (i + 1) y (by simpa using hy)
          rwa [show k + (i + 1) = k + 1 + i by omega] at this
        exact this
  have := key xs 0 fun i x hx => by
    have hi : i < xs.length := by
      rcases Nat.lt_or_ge i xs.length with h' | h'
      · exact h'
      · rw [List.getElem?_eq_none h'] at hx; cases hx
    have := hc i hi
    rw [List.getElem?_map, hx] at this
    rw [Nat.zero_add]
    refine Eq.trans ?_ this
    congr 1
    unfold Addr.add
    split
    · rename_i h0; subst h0; rfl
    · rfl
  simpa using this

theorem list_of {α : Type} {p : Nat → α → Prop} : ∀ n : Nat, (∀ i, i < n → ∃ x, p i x) → ∃ l : List α, l.length = n ∧ ∀ i x, l[i]? = some x → p i x
  | 0, _ => ⟨[], rfl, fun i x h => by simp at h⟩
  | n + 1, h => by
    obtain ⟨l, hl, hp⟩ := list_of n fun i hi => h i (by omega)
    obtain ⟨x, hx⟩ := h n (by omega)
    refine ⟨l ++ [x], by simp [hl], fun i y hy => ?_⟩
    rw [List.getElem?_append] at hy
    split at hy
    · exact hp i y hy
    · rename_i hi
      rw [List.getElem?_singleton] at hy
      split at hy
      · rename_i h0
        have : i = n := by omega
        subst this
        cases hy; exact hx
      · cases hy

section
variable {H : Type} {enc : TypeId × Value → H} {P : Program} {W : World}

theorem cells?_spot {W : World} {base b off n : Nat} {q : Nat} {cs : List Value} (hn : 0 < n) (h : W.cells? base ⟨b, off, some q⟩ n = some cs) : False := by
  obtain ⟨h1, h2, h3⟩ := World.cells?_some h
  have h0 := h3 0 (by omega)
  have : W.cell? ((⟨b, off, some q⟩ : Addr).add 0) = none := by
    simp only [Addr.add, World.cell?]
    split <;> simp
  simp_all

theorem open_slc {α : Type} {sz : Nat} {f : α → List Lf} {Q : α → Prop} {t e : TypeId} {fuel : Nat} {v : Value} {y : DataW H × List MemPlace} (ht : P.underlying t = some (.slice e)) (hsz : P.cellsOf e = sz) (hsz0 : 0 < sz) (hf : Sized sz f)
    (hel : ∀ n cs y, cs.length = sz → DataW.trod enc P W 0 (fun _ => true) true n e cs = some y → ∃ x : α, cs = (f x).map Lf.val ∧ Q x)
    (h : DataW.trod enc P W 0 (fun _ => true) true fuel t [v] = some y) :
    ∃ s l, v = (Lf.slc s).val ∧ Arr sz f W.heap s l ∧ (∀ x ∈ l, Q x) ∧ l.length ≤ 9223372036854775807 ∧ (l = [] ∨ ∃ k, (l.length + k) * P.bytesOf e ∈ y.1.weights P t) := by
  rcases Deep.open_slice ht h with ⟨h1, _⟩ | ⟨a', len, cap, m, n, D, Pl, h1, hb, hl, hm, hmm, hd, hx⟩
  · simp only [List.cons.injEq, and_true] at h1
    subst h1
    exact ⟨⟨none, 0, 0⟩, [], rfl, Arr.nil _ _ _ _, by simp, by simp, .inl rfl⟩
  · simp only [List.cons.injEq, and_true] at h1
    subst h1
    obtain ⟨b, off, spot⟩ := a'
    simp only [if_true] at hmm
    subst hmm
    have hmax : maxLen = 9223372036854775807 := by decide
    cases spot with
    | some q =>
      have hc : m = 0 := by
        cases m with
        | zero => rfl
        | succ m =>
          exfalso
          obtain ⟨cs, h2, _⟩ := hx 0 (by omega)
          rw [hsz, Nat.zero_mul] at h2
          have : (⟨b, off, some q⟩ : Addr).add 0 = ⟨b, off, some q⟩ := rfl
          rw [this] at h2
          exact cells?_spot hsz0 h2
      subst hc
      have hl0 : len = 0 := by omega
      subst hl0
      exact ⟨@Slc.mk ⟨some q⟩ (some (b, off)) 0 0, [], rfl, ⟨rfl, fun h => absurd rfl h, fun _ _ _ i x hx => by simp at hx, fun h => absurd rfl h⟩, by simp, by simp, .inl rfl⟩
    | none =>
      have hel' : ∀ i, i < len → ∃ x : α, cellsAt W.heap b (off + i * sz) (f x) ∧ Q x := by
        intro i hi
        obtain ⟨cs, h2, h3⟩ := hx i (by omega)
        rw [hsz] at h2
        obtain ⟨x, rfl, hq⟩ := hel n cs _ (World.cells?_some h2).2.1 h3
        refine ⟨x, cells_cellsAt (base := 0) (n := sz) (hf x).symm ?_, hq⟩
        have he : (⟨b, off, none⟩ : Addr).add (i * sz) = ⟨b, off + i * sz, none⟩ := by
          unfold Addr.add
          split
          · rename_i h0; rw [h0]; rfl
          · rfl
        rw [he] at h2
        exact h2
      obtain ⟨l, hll, hlp⟩ := list_of len hel'
      refine ⟨⟨some (b, off), len, m⟩, l, rfl, ⟨hll.symm, fun _ => ⟨b, off, rfl⟩, fun b' off' hb' i x hix => ?_, fun _ => rfl⟩, fun x hx => ?_, by omega, .inr ⟨m - len, ?_⟩⟩
      · simp only [Option.some.injEq, Prod.mk.injEq] at hb'
        obtain ⟨rfl, rfl⟩ := hb'
        exact (hlp i x hix).1
      · obtain ⟨i, hi⟩ := List.mem_iff_getElem?.1 hx
        exact (hlp i x hi).2
      · rw [hd]
        unfold DataW.weights
        rw [ht]
        simp [hll]

theorem wf_int {k : IntKind} {n : Int} (h : (Lit.int k n).wf = true) : k.min ≤ n ∧ n ≤ k.max := by
  simpa [Lit.wf, Bool.and_eq_true, decide_eq_true_eq] using h

theorem open_int {k : IntKind} {t : TypeId} {base : Nat} {v : Value} {d : DataW H} {p : List MemPlace} (ht : P.underlying t = some (.int k)) (hval : Value.okWide P W .any base t v) (h : DataW.Trod enc P W 0 (fun _ => true) true t v d p) :
    ∃ n, v = (Lf.int k n).val ∧ k.min ≤ n ∧ n ≤ k.max := by
  have hone : ∃ k' n, v = .int k' n := by
    simp only [Value.okWide, ht, Cell.okWide] at hval
    unfold Cell.ok at hval
    rw [ht] at hval
    split at hval <;> first | exact ⟨_, _, rfl⟩ | simp_all
  obtain ⟨k', n, rfl⟩ := hone
  obtain ⟨fuel, h⟩ := h
  have hcs : (Value.int k' n).cells.toList = [.int k' n] := rfl
  rw [hcs] at h
  obtain ⟨m, e, _, w⟩ := DataW.trod_int ht h
  simp only [List.cons.injEq, Value.int.injEq, and_true] at e
  obtain ⟨rfl, rfl⟩ := e
  exact ⟨n, rfl, wf_int w⟩
theorem below_of {W W' : World} (o : Out W W') (e : Ext0 W.heap W'.heap) : RowKit.Below W.heap.size W W' := ⟨o.os, o.tape, o.output, e.size, fun k hk => e.same k hk id⟩

end
end Go.V
namespace Go.V
open Go.ChangeShapes Go.WideShapes
section
variable {H : Type} {enc : TypeId × Value → H} {P : Program} {W : World}

theorem shut_bool {w : World} {base : Nat} {spare : Nat → Bool} {held : Bool} {t : TypeId} {b : Bool} (ht : P.underlying t = some .bool) : DataW.Trod enc P w base spare held t (.bool b) (.lit (.bool b)) [] := by
  refine ⟨1, ?_⟩
  have : (Value.bool b).cells.toList = [.bool b] := rfl
  rw [this]
  unfold DataW.trod
  rw [ht]

theorem trodAll_below (hl : laidOutB P = true) {W' : World} (hb : RowKit.Below W.heap.size W W') : ∀ {ts : List TypeId} {vs : List Value} {ds : List (DataW H)} {ps : List MemPlace},
    (ts.all fun t => P.readableRec t && decide (t < P.types.size)) = true → (∀ x ∈ ps, x.block < W.heap.size) → DataW.TrodAll enc P W 0 (fun _ => true) true ts vs ds ps →
    DataW.TrodAll enc P W' 0 (fun b => decide (b < W.heap.size)) true ts vs ds ps
  | [], _, _, _, _, _, h => by
    obtain ⟨rfl, rfl, rfl⟩ := trodAll_nil h
    exact rfl
  | t :: ts, _, _, _, ha, hlt, h => by
    obtain ⟨v, vs, d, ds, p, q, rfl, rfl, rfl, h1, h2⟩ := trodAll_cons h
    simp only [List.all_cons, Bool.and_eq_true, decide_eq_true_eq] at ha
    exact ⟨p, q, RowKit.Below.trod hl ha.1.1 ha.1.2 h1 hb fun x hx => hlt x (by simp [hx]), trodAll_below hl hb (by simpa using ha.2) (fun x hx => hlt x (by simp [hx])) h2, rfl⟩

theorem post_true {f : Func} {s : ChangeSpec} {apart fresh handsOn : Bool} {W' : World} {args : Array Value} {ds gs : List (DataW H)} {before : List MemPlace} {tb : TypeId} (hl : laidOutB P = true)
    (hvars : s.vars = []) (hrt : f.resultTypes = #[tb]) (htb : P.underlying tb = some .bool) (hps : (f.params.toList.all fun t => P.readableRec t && decide (t < P.types.size)) = true)
    (hW : DataW.Whole enc P f.params.toList s.vars apart W args.toList ds gs before) (hfn : s.fn H (ds ++ gs) = { results := [.lit (.bool true)], args := ds })
    (o : Out W W') (e : Ext0 W.heap W'.heap) : s.post enc P f apart fresh handsOn false W args (.bool true) W' := by
  have hb := below_of o e
  have hlt := hW.lt
  obtain ⟨p, q, hA, hV, he, hz, hn⟩ := id hW
  have hq : gs = [] ∧ q = [] := by rw [hvars] at hV; exact trodVars_none hV
  obtain ⟨rfl, rfl⟩ := hq
  rw [List.append_nil] at he
  subst he
  refine ⟨ds, [], before, [], before, [], hW, ?_, ?_, ?_, hb.frame _, fun h => by cases h⟩
  · rw [hfn, hrt]
    exact trodAll_mk1 (shut_bool htb)
  · rw [hfn]
    exact trodAll_below hl hb hps hlt hA
  · rw [hvars, hfn]
    exact rfl

end

theorem Call.calls {P : Program} {f : FuncId} {args : List VV} {W : World} {vs : Array Value} (hv : vs = (args.map VV.val).toArray) (c : Call P f args W.heap [.one .bool] fun b h' => b = true ∧ Ext0 W.heap h') :
    Calls P f vs W fun e W' => e = .returned (.bool true) ∧ Out W W' ∧ Ext0 W.heap W'.heap := by
  subst hv
  refine (c W rfl).mono ?_
  rintro e W' ⟨o, b, he, ha⟩
  have hb : b = true ∧ Ext0 W.heap W'.heap := ha
  obtain ⟨rfl, hx⟩ := hb
  exact ⟨he, o, hx⟩

end Go.V
/-! The lift of a row that bears a condition of its own, with the world's shape at hand. -/
namespace Go.V
open Go.ChangeShapes Go.WideShapes

section
variable {H : Type} {enc : TypeId × Value → H}

theorem returnsInHanded_of_cond_shaped {a : Assume} {C : Checked} {os : Os} {f : FuncId} {fn : Func} {s : OpenSpec} {k : (H : Type) → List (DataW H) → Bool} (hk : s.cond = some k) {F : Stop.Interp} {conds : List PathCond} {apart fresh handsOn again : Bool}
    (own : ownKnob C.prog.godebug = none) (started : os.Started) (noInit : C.prog.inits.idxOf? f = none) (hfn : C.prog.funcs[f]? = some fn)
    (witness : ∃ (w : World) (tape : Tape) (i : Input), w.os = os ∧ (w.forCall tape i).Shaped C.prog ∧ i.vars = [] ∧ Input.okWide C.prog (w.forCall tape i) .any w.heap.size f i ∧
      s.pre6 enc C.prog fn conds apart (w.forCall tape i).memory i.args ∧ a.holds C.prog (lone (Frame.enter C.prog f i.args .normal) [] (w.forCall tape i)))
    (contract : ∀ (W : World) (base : Nat) (args : Array Value) (ds gs : List (DataW H)) (before : List MemPlace),
      (∀ (j : Nat) t v, fn.params[j]? = some t → args[j]? = some v → Value.okWide C.prog W .any base t v) →
      DataW.Whole enc C.prog fn.params.toList s.vars apart W args.toList ds gs before → k H (ds ++ gs) = true →
      (DataW.weightsEach C.prog (fn.params.toList ++ s.bare.plain.varTypes C.prog) (ds ++ gs)).all (· ≤ reachBytes) = true → W.ShapedOpen C.prog →
      Calls C.prog f args W fun e W' => ∃ v, e = .returned v ∧ (s.at F).post enc C.prog fn apart fresh handsOn again W args v W') :
    ReturnsInHanded a C os f .any (s.pre6 enc C.prog fn conds apart) ((s.at F).post enc C.prog fn apart fresh handsOn again) := by
  refine returnsInHanded_of_calls own started noInit witness ?_
  intro w tape i _ hsh _ hok hpre _
  obtain ⟨_, _, _, fn', hfn', _, _, _, _, hval⟩ := hok
  have e : fn' = fn := Option.some.inj (hfn'.symm.trans hfn)
  subst e
  obtain ⟨ds, gs, before, hw, _, hkk⟩ := (OpenSpec.pre_some hk conds apart _ _).1 hpre.1
  have hw' := DataW.Whole.of_heap (w' := w.forCall tape i) (by rfl) hw
  refine (contract (w.forCall tape i) w.heap.size i.args ds gs before hval hw' hkk (hpre.2.weights hw) hsh).mono fun e W' ⟨v, he, hp⟩ => ?_
  subst he
  exact ChangeSpec.post_blind hp

theorem liftCS {C : Checked} {os : Os} {f : FuncId} {fn : Func} {s : OpenSpec} {k : (H : Type) → List (DataW H) → Bool} (hk : s.cond = some k) {F : Stop.Interp} {conds : List PathCond} {apart fresh handsOn : Bool} {tb : TypeId}
    (own : ownKnob C.prog.godebug = none) (started : os.Started) (noInit : C.prog.inits.idxOf? f = none) (hfn : C.prog.funcs[f]? = some fn)
    (witness : ∃ (w : World) (tape : Tape) (i : Input), w.os = os ∧ (w.forCall tape i).Shaped C.prog ∧ i.vars = [] ∧ Input.okWide C.prog (w.forCall tape i) .any w.heap.size f i ∧
      s.pre6 enc C.prog fn conds apart (w.forCall tape i).memory i.args ∧ ({} : Assume).holds C.prog (lone (Frame.enter C.prog f i.args .normal) [] (w.forCall tape i)))
    (hl : laidOutB C.prog = true) (hvars : s.vars = []) (hrt : fn.resultTypes = #[tb]) (htb : C.prog.underlying tb = some .bool) (hps : (fn.params.toList.all fun t => C.prog.readableRec t && decide (t < C.prog.types.size)) = true)
    (hspec : ∀ (ds : List (DataW H)), ds.length = fn.params.toList.length → s.fn F H ds = { results := [.lit (.bool true)], args := ds })
    (law : ∀ (W : World) (base : Nat) (args : Array Value) (ds : List (DataW H)) (p : List MemPlace),
      (∀ (j : Nat) t v, fn.params[j]? = some t → args[j]? = some v → Value.okWide C.prog W .any base t v) →
      DataW.TrodAll enc C.prog W 0 (fun _ => true) true fn.params.toList args.toList ds p → W.noneFrozen p → k H ds = true →
      (DataW.weightsEach C.prog (fn.params.toList ++ s.bare.plain.varTypes C.prog) ds).all (· ≤ reachBytes) = true → W.ShapedOpen C.prog →
      Calls C.prog f args W fun e W' => e = .returned (.bool true) ∧ Out W W' ∧ Ext0 W.heap W'.heap) :
    ReturnsInHanded {} C os f .any (s.pre6 enc C.prog fn conds apart) ((s.at F).post enc C.prog fn apart fresh handsOn false) := by
  refine returnsInHanded_of_cond_shaped hk own started noInit hfn witness ?_
  intro W base args ds gs before hval hW hkk hwt hsh
  obtain ⟨p, q, hA, hV, he, hz, hn⟩ := id hW
  have hq : gs = [] ∧ q = [] := by rw [hvars] at hV; exact trodVars_none hV
  obtain ⟨rfl, rfl⟩ := hq
  rw [List.append_nil] at he
  subst he
  have hlen : ∀ {ts : List TypeId} {vs : List Value} {ds : List (DataW H)} {ps : List MemPlace}, DataW.TrodAll enc C.prog W 0 (fun _ => true) true ts vs ds ps → ds.length = ts.length := by
    intro ts
    induction ts with
    | nil => intro vs ds ps h; obtain ⟨rfl, rfl, rfl⟩ := trodAll_nil h; rfl
    | cons t ts ih => intro vs ds ps h; obtain ⟨v, vs, d, ds, p, q, rfl, rfl, rfl, h1, h2⟩ := trodAll_cons h; simp [ih h2]
  rw [List.append_nil] at hwt hkk
  refine (law W base args ds before hval hA hz hkk hwt hsh).mono fun e W' ⟨he, o, x⟩ => ⟨_, he, ?_⟩
  exact post_true (s := s.at F) hl hvars hrt htb hps hW (by rw [List.append_nil]; exact hspec ds (hlen hA)) o x
end

end Go.V
/-! CRC-32C, by bits and by a table. -/
namespace Go.V.Crc
open Go Go.V

abbrev W32 := BitVec 32
def poly : W32 := 2197175160#32

def step (v : W32) : W32 := (v >>> 1) ^^^ (if v.getLsbD 0 then poly else 0#32)
def step8 (v : W32) : W32 := step (step (step (step (step (step (step (step v)))))))
def upd (v : W32) (c : UInt8) : W32 := step8 (v ^^^ BitVec.ofNat 32 c.toNat)
/-! ### As the machine has them -/

theorem shr (a : W32) (n : Nat) (h : n ≤ 32) : shiftR .u32 (a.toNat : Int) (n : Int) = ((a >>> n).toNat : Int) := by
  unfold shiftR
  rw [show min (n : Int).toNat (IntKind.bits .u32) = n from by simp [IntKind.bits]; omega, BitVec.toNat_ushiftRight, Nat.shiftRight_eq_div_pow]
  rw [Int.fdiv_eq_ediv_of_nonneg _ (Int.pow_nonneg (by omega))]
  simp

end Go.V.Crc
/-! Words about bytes in memory; what is read of a log's bytes. -/
namespace Go.V

def bF (c : UInt8) : List Lf := [.int .u8 (c.toNat : Int)]
theorem bF_sized : Sized 1 bF := fun _ => rfl

namespace Crc
theorem w0 (r : W32) : IntKind.wrap .u8 (r.toNat : Int) = ((r.toNat % 256 : Nat) : Int) := by
  have : IntKind.wrap .u8 (r.toNat : Int) = (r.toNat : Int) % 256 := by
    simp [IntKind.wrap, IntKind.signed, IntKind.bits]
  rw [this]; rfl
end Crc

structure Byt (h : Heap) (s : Slc) (l : List UInt8) : Prop where
  arr : Arr 1 bF h s l
  cap : s.len ≤ s.cap
theorem Byt.ext {S : Nat → Prop} {h h' : Heap} {s : Slc} {l : List UInt8} (a : Byt h s l) (e : Ext S h h') (hs : ∀ b off, s.a = some (b, off) → ¬ S b) : Byt h' s l := ⟨a.arr.ext e fun ⟨b, off, h1, h2⟩ => hs b off h1 h2, a.cap⟩
theorem Byt.ext0 {h h' : Heap} {s : Slc} {l : List UInt8} (a : Byt h s l) (e : Ext0 h h') : Byt h' s l := ⟨a.arr.ext0 e, a.cap⟩
theorem Byt.len {h : Heap} {s : Slc} {l : List UInt8} (a : Byt h s l) : s.len = l.length := a.arr.len
theorem Byt.own {h : Heap} {s : Slc} {l : List UInt8} (o : Own 1 bF h s l) : Byt h s l := ⟨o.arr bF_sized, o.lec⟩
theorem Byt.sub {h : Heap} {s : Slc} {l : List UInt8} (a : Byt h s l) {lo hi : Nat} (h1 : lo ≤ hi) (h2 : hi ≤ l.length) : Byt h (s.sub 1 lo hi s.cap) ((l.take hi).drop lo) := by
  have h3 := a.len
  have h4 := a.cap
  exact ⟨a.arr.sub h1 h2 (by omega), by simp [Slc.sub]; omega⟩
theorem Byt.drop {h : Heap} {s : Slc} {l : List UInt8} (a : Byt h s l) {lo : Nat} (h1 : lo ≤ l.length) : Byt h (s.sub 1 lo s.len s.cap) (l.drop lo) := by
  have := a.sub h1 (Nat.le_refl l.length)
  rw [List.take_length] at this
  rw [a.len]; exact this
theorem Byt.take {h : Heap} {s : Slc} {l : List UInt8} (a : Byt h s l) {n : Nat} (h1 : n ≤ l.length) : Byt h (s.sub 1 0 n s.cap) (l.take n) := by
  have := a.sub (Nat.zero_le n) h1
  rwa [List.drop_zero] at this
def sF (s : Slc) : List Lf := [.slc s]
theorem sF_sized : Sized 1 sF := fun _ => rfl

structure Rows (h : Heap) (s : Slc) (ls : List (List UInt8)) : Prop where
  ex : ∃ xs : List (Slc × List UInt8), Arr 1 sF h s (xs.map (·.1)) ∧ (∀ x ∈ xs, Byt h x.1 x.2) ∧ xs.map (·.2) = ls
theorem Rows.ext0 {h h' : Heap} {s : Slc} {ls : List (List UInt8)} (r : Rows h s ls) (e : Ext0 h h') : Rows h' s ls := by
  obtain ⟨xs, a, b, c⟩ := r.ex
  exact ⟨xs, a.ext0 e, fun x hx => (b x hx).ext0 e, c⟩
theorem Rows.len {h : Heap} {s : Slc} {ls : List (List UInt8)} (r : Rows h s ls) : s.len = ls.length := by
  obtain ⟨xs, a, b, rfl⟩ := r.ex
  have := a.len
  simpa using this

structure RD (h0 hh : Heap) (P : Nat → Prop) (out rcd : Slc) (xs : List (Slc × List UInt8)) (now : List UInt8) : Prop where
  o : Own 1 sF hh out (xs.map (·.1))
  r : Own 1 bF hh rcd now
  el : ∀ x ∈ xs, Byt hh x.1 x.2
  ext : Ext0 h0 hh
  pn : ∀ b, P b → h0.size ≤ b ∧ b < hh.size
  on : ∀ b off, out.a = some (b, off) → h0.size ≤ b ∧ ¬ P b
  rn : ∀ b off, rcd.a = some (b, off) → h0.size ≤ b ∧ ¬ P b ∧ ∀ off', out.a ≠ some (b, off')
  en : ∀ x ∈ xs, ∀ b off, x.1.a = some (b, off) → b < hh.size ∧ ¬ P b ∧ (∀ off', out.a ≠ some (b, off')) ∧ ∀ off', rcd.a ≠ some (b, off')

theorem RD.step {h0 hh h' : Heap} {P S : Nat → Prop} {out rcd : Slc} {xs : List (Slc × List UInt8)} {now : List UInt8} (D : RD h0 hh P out rcd xs now) (e : Ext S hh h') (hs : ∀ b, S b → P b) : RD h0 h' P out rcd xs now :=
  ⟨D.o.ext e fun ⟨b, off, h1, h2⟩ => (D.on b off h1).2 (hs b h2), D.r.ext e fun ⟨b, off, h1, h2⟩ => (D.rn b off h1).2.1 (hs b h2), fun x hx => (D.el x hx).ext e fun b off h1 h2 => (D.en x hx b off h1).2.1 (hs b h2),
    D.ext.trans' e fun i hi z => by have := (D.pn i (hs i z)).1; omega, fun b hb => ⟨(D.pn b hb).1, Nat.lt_of_lt_of_le (D.pn b hb).2 e.size⟩, D.on, D.rn, fun x hx b off h1 => ⟨Nat.lt_of_lt_of_le (D.en x hx b off h1).1 e.size, (D.en x hx b off h1).2⟩⟩

theorem RD.app {h0 hh : Heap} {P : Nat → Prop} {out rcd : Slc} {xs : List (Slc × List UInt8)} {now : List UInt8} (D : RD h0 hh P out rcd xs now) {x : Slc} {m : List UInt8} (a : Arr 1 bF hh x m)
    (hb : now.length + m.length ≤ 140737488355328) {e : TypeId} {K : Slc → Heap → Prop} (k : ∀ r' h', RD h0 h' P out r' xs (now ++ m) → Ext (fun b => ∃ off, rcd.a = some (b, off)) hh h' → K r' h') :
    AppC e [.int .u8 0] 1 1 rcd x hh K := by
  refine AppC.grow bF_sized (by omega) rfl D.r a (by omega) fun r' h' o' g => k r' h' ?_ g.ext
  have hlt := D.o.lt
  have h00 := D.ext.size
  refine ⟨D.o.ext g.ext fun ⟨b, off, h1, off', h2⟩ => (D.rn b off' h2).2.2 off h1, o', fun y hy => (D.el y hy).ext g.ext fun b off h1 ⟨off', h2⟩ => (D.en y hy b off h1).2.2.2 off' h2,
    D.ext.trans' g.ext fun i hi ⟨off, z⟩ => by have := (D.rn i off z).1; omega, fun b hb => ⟨(D.pn b hb).1, Nat.lt_of_lt_of_le (D.pn b hb).2 g.ext.size⟩, D.on, fun b off hb => ?_, fun y hy b off hb => ?_⟩
  · rcases g.new with n | ⟨b', n, hn⟩
    · rw [n] at hb; exact D.rn b off hb
    · rw [n] at hb; cases hb
      exact ⟨by omega, fun hp => by have := (D.pn _ hp).2; omega, fun off' ho => by have := (hlt _ _ ho).1; omega⟩
  · obtain ⟨h1, h2, h3, h4⟩ := D.en y hy b off hb
    refine ⟨Nat.lt_of_lt_of_le h1 g.ext.size, h2, h3, fun off' ho => ?_⟩
    rcases g.new with n | ⟨b', n, hn⟩
    · rw [n] at ho; exact h4 off' ho
    · rw [n] at ho; cases ho; omega

theorem RD.push {h0 hh : Heap} {P : Nat → Prop} {out rcd : Slc} {xs : List (Slc × List UInt8)} {now : List UInt8} (D : RD h0 hh P out rcd xs now) (hb : xs.length ≤ 4398046511104) {t e : TypeId} {K : Slc → Heap → Prop}
    (k : ∀ o' h', RD h0 h' P o' ⟨none, 0, 0⟩ (xs ++ [(rcd, now)]) [] → Ext (fun b => ∃ off, out.a = some (b, off)) hh h' → K o' h') :
    New t [.slc rcd] hh fun b h1 => AppC e [.slc ⟨none, 0, 0⟩] 1 24 out ⟨some (b, 0), 1, 1⟩ h1 K := by
  refine New.mk fun b h1 hb0 hs1 e1 k1 => ?_
  have o1 : Own 1 sF h1 ⟨some (b, 0), 1, 1⟩ [rcd] := Own.new (l := [rcd]) sF_sized (by simpa [sF] using k1)
  refine AppC.grow sF_sized (by omega) rfl (D.o.ext0 e1) (o1.arr sF_sized) (by simp; omega) fun o' h' oo g => k o' h' ?_ (e1.of0.trans g.ext)
  have h00 := D.ext.size
  have hrl := D.r.lt
  have g' : Ext (fun b => ∃ off, out.a = some (b, off)) hh h' := e1.of0.trans g.ext
  have hs := g'.size
  have cls : ∀ b' off, o'.a = some (b', off) → (∃ off', out.a = some (b', off')) ∨ hh.size ≤ b' := fun b' off hb' => by
    rcases g.new with n | ⟨b2, n, hn⟩
    · exact .inl ⟨off, by rw [← n]; exact hb'⟩
    · rw [n] at hb'; cases hb'; exact .inr (by omega)
  refine ⟨by simpa using oo, Own.nil _ _ _, fun y hy => ?_, D.ext.trans' g' fun i hi ⟨off, z⟩ => by have := (D.on i off z).1; omega, fun b hb => ⟨(D.pn b hb).1, Nat.lt_of_lt_of_le (D.pn b hb).2 hs⟩, fun b' off hb' => ?_, fun b' off hb' => (by cases hb'), fun y hy b' off hb' => ?_⟩
  · rcases List.mem_append.1 hy with hy | hy
    · exact (D.el y hy).ext g' fun b off h1 ⟨off', h2⟩ => (D.en y hy b off h1).2.2.1 off' h2
    · simp at hy; subst hy
      exact (Byt.own D.r).ext g' fun b off h1 ⟨off', h2⟩ => (D.rn b off h1).2.2 off' h2
  · rcases cls b' off hb' with ⟨off', z⟩ | z
    · exact D.on b' off' z
    · exact ⟨by omega, fun hp => by have := (D.pn b' hp).2; omega⟩
  · rcases List.mem_append.1 hy with hy | hy
    · obtain ⟨h1, h2, h3, h4⟩ := D.en y hy b' off hb'
      refine ⟨by omega, h2, fun off' ho => ?_, fun off' ho => (by cases ho)⟩
      rcases cls b' off' ho with ⟨off2, z⟩ | z
      · exact h3 off2 z
      · omega
    · simp at hy; subst hy
      obtain ⟨h1, h2, h3⟩ := D.rn b' off hb'
      have hlt := (hrl b' off hb').1
      refine ⟨by omega, h2, fun off' ho => ?_, fun off' ho => (by cases ho)⟩
      rcases cls b' off' ho with ⟨off2, z⟩ | z
      · exact h3 off2 z
      · omega

theorem RD.fresh {h0 hh : Heap} {P : Nat → Prop} {out : Slc} {xs : List (Slc × List UInt8)} (D : RD h0 hh P out ⟨none, 0, 0⟩ xs []) {t : TypeId} {b : Nat} {h' : Heap} (hb : b = hh.size) (e : Ext0 hh h') (k : Blk h' b t []) :
    RD h0 h' P out ⟨some (b, 0), 0, 0⟩ xs [] := by
  have h00 := D.ext.size
  have hol := D.o.lt
  have hs := e.size
  refine ⟨D.o.ext0 e, Own.new (l := ([] : List UInt8)) bF_sized k, fun x hx => (D.el x hx).ext0 e, D.ext.trans e, fun b hb => ⟨(D.pn b hb).1, Nat.lt_of_lt_of_le (D.pn b hb).2 hs⟩, D.on, fun b' off hb' => ?_, fun x hx b' off hb' => ?_⟩
  · cases hb'
    exact ⟨by omega, fun hp => by have := (D.pn _ hp).2; omega, fun off' ho => by have := (hol _ _ ho).1; omega⟩
  · obtain ⟨h1, h2, h3, h4⟩ := D.en x hx b' off hb'
    exact ⟨by omega, h2, h3, fun off' ho => by cases ho; omega⟩

end Go.V
/-! Arguments that are bytes. -/
namespace Go.V
open Go.ChangeShapes Go.WideShapes

section
variable {H : Type} {enc : TypeId × Value → H} {P : Program} {W : World}

theorem byte_open {t : TypeId} (ht : P.underlying t = some (.int .u8)) {n : Nat} {cs : List Value} {y : DataW H × List MemPlace} (hl : cs.length = 1) (h : DataW.trod enc P W 0 (fun _ => true) true n t cs = some y) :
    ∃ x : UInt8, cs = (bF x).map Lf.val ∧ True := by
  obtain ⟨x, e, _, w⟩ := DataW.trod_int ht h
  have := wf_int w
  refine ⟨UInt8.ofNat x.toNat, ?_, trivial⟩
  rw [e]
  have h1 : 0 ≤ x := this.1
  have h2 : x ≤ 255 := this.2
  have : (UInt8.ofNat x.toNat).toNat = x.toNat := by simp; omega
  simp [bF, Lf.val, this]
  omega

end
end Go.V
