/- This text proves a part of the laws of seat YtdeihieblljfcaaGreat, under no condition: F5a. -/
import Derived.Test.YtdeihieblljfcaaGreatRows
import Derived.Test.YtdeihieblljfcaaGreatPD
import Derived.Test.YtdeihieblljfcaaGreatQE
import Derived.Shelf.Vars
set_option linter.unusedVariables false
set_option linter.unusedSimpArgs false
/-! The arguments of DiskFast and DiskOnce. -/
namespace Go.V.YtdeihieblljfcaaGreat
open Go Go.V Go.ChangeShapes Go.WideShapes
open Go.Proofs.YtdeihieblljfcaaGreat.Rows (uptoBulk uptoBulkAll uptoSmall)

theorem ownK : ownKnob Go.Proofs.Tryz.prog.godebug = none := by kernel_rfl
theorem laidK : laidOutB Go.Proofs.Tryz.prog = true := by kernel_rfl
set_option maxRecDepth 100000 in
theorem kK : Go.Proofs.Tryz.prog.cellsOf 3 = 1 ∧ Go.Proofs.Tryz.prog.cellsOf 5 = 1 ∧ Go.Proofs.Tryz.prog.cellsOf 9 = 1 ∧ Go.Proofs.Tryz.prog.cellsOf 23 = 1 ∧ Go.Proofs.Tryz.prog.cellsOf 32 = 1 ∧ Go.Proofs.Tryz.prog.cellsOf 58 = 8 := ⟨by kernel_rfl, by kernel_rfl, by kernel_rfl, by kernel_rfl, by kernel_rfl, by kernel_rfl⟩

set_option maxRecDepth 100000 in
theorem maxL_of {W : World} (h : W.ShapedOpen Go.Proofs.Tryz.prog) : MaxL W.heap := by
  obtain ⟨m, hm⟩ := Go.Proofs.cell_of_shapedOpen_int (g := 0) (t := 3) (k := .i64) (zero := #[.int .i64 0]) h (of_decide_eq_true (by kernel_rfl)) (by kernel_rfl) rfl (by kernel_rfl) (by kernel_rfl) Go.Proofs.Tryz.underlying3
  unfold World.cell? at hm
  split at hm
  · rename_i c t fz hb
    exact ⟨c, t, fz, m, hb, by simpa using hm⟩
  · cases hm

theorem bulk_pos {H : Type} (d : DataW H) : 1 ≤ uptoBulk d := by
  cases d with
  | lit l => cases l <;> simp [uptoBulk]
  | _ => simp [uptoBulk]
theorem bulkAll_len {H : Type} : ∀ l : List (DataW H), l.length ≤ uptoBulkAll l
  | [] => by simp [uptoBulkAll]
  | d :: l => by
    have h1 := bulk_pos d
    have h2 := bulkAll_len l
    simp only [List.length_cons, uptoBulkAll]
    omega
theorem bulkAll_mem {H : Type} {d : DataW H} : ∀ l : List (DataW H), d ∈ l → uptoBulk d ≤ uptoBulkAll l
  | [], h => by cases h
  | x :: l, h => by
    simp only [uptoBulkAll]
    rcases List.mem_cons.1 h with rfl | h
    · omega
    · have := bulkAll_mem l h; omega

section
variable {H : Type} {enc : TypeId × Value → H} {P : Program} {W : World}

theorem open_arrB {α : Type} {sz : Nat} {f : α → List Lf} {Q : α → DataW H → Prop} {t e : TypeId} {base : Nat} {v : Value} {d : DataW H} {p : List MemPlace} (ht : P.underlying t = some (.slice e)) (hsz : P.cellsOf e = sz) (hf : Sized sz f)
    (hel : ∀ n cs y, cs.length = sz → DataW.trod enc P W 0 (fun _ => true) true n e cs = some y → ∃ x : α, cs = (f x).map Lf.val ∧ Q x y.1)
    (hval : Value.okWide P W .any base t v) (h : DataW.Trod enc P W 0 (fun _ => true) true t v d p) :
    ∃ s l D, v = (Lf.slc s).val ∧ Arr sz f W.heap s l ∧ (∀ i x, l[i]? = some x → Q x (D i)) ∧ (l = [] ∨ ∃ rest, d = .slice ((List.range l.length).map D) rest) := by
  have hspot : ∀ a len cap, v = .slice (some a) len cap → a.spot = none := by
    rintro a len cap rfl
    simp only [Value.okWide, ht, Cell.okWide, Cell.ok] at hval
    exact hval.2.2.2.1
  obtain ⟨fuel, hf'⟩ := h
  have hone : ∃ a len cap, v = .slice a len cap := by
    simp only [Value.okWide, ht, Cell.okWide] at hval
    unfold Cell.ok at hval
    rw [ht] at hval
    split at hval <;> first | exact ⟨_, _, _, rfl⟩ | simp_all
  obtain ⟨a, len, cap, rfl⟩ := hone
  have hcs : (Value.slice a len cap).cells.toList = [.slice a len cap] := rfl
  rw [hcs] at hf'
  rcases Deep.open_slice ht hf' with ⟨h1, _⟩ | ⟨a', len', cap', m, n, D, Pl, h1, hb, hl, hm, hmm, hd, hx⟩
  · simp only [List.cons.injEq, Value.slice.injEq, and_true] at h1
    obtain ⟨rfl, rfl, rfl⟩ := h1
    exact ⟨⟨none, 0, 0⟩, [], fun _ => .nil, rfl, Arr.nil _ _ _ _, by simp, .inl rfl⟩
  · simp only [List.cons.injEq, Value.slice.injEq, and_true] at h1
    obtain ⟨rfl, rfl, rfl⟩ := h1
    obtain ⟨b, off, spot⟩ := a'
    have hs : spot = none := hspot _ _ _ rfl
    subst hs
    simp only [if_true] at hmm
    have hel' : ∀ i, i < len → ∃ x : α, cellsAt W.heap b (off + i * sz) (f x) ∧ Q x (D i) := by
      intro i hi
      obtain ⟨cs, h2, h3⟩ := hx i (by omega)
      rw [hsz] at h2
      obtain ⟨x, rfl, hq⟩ := hel n cs _ (World.cells?_some h2).2.1 h3
      refine ⟨x, cells_cellsAt (base := 0) (n := sz) (hf x).symm ?_, hq⟩
      have he : (⟨b, off, none⟩ : Addr).add (i * sz) = ⟨b, off + i * sz, none⟩ := by
        unfold Addr.add
        split
        · rename_i h0; rw [h0]; rfl
        · rfl
      rw [he] at h2
      exact h2
    obtain ⟨l, hll, hlp⟩ := list_of len hel'
    refine ⟨⟨some (b, off), len, cap⟩, l, D, rfl, ⟨hll.symm, fun _ => ⟨b, off, rfl⟩, fun b' off' hb' i x hix => ?_, fun _ => rfl⟩, fun i x hx => (hlp i x hx).2, .inr ⟨(List.range (m - len)).map fun j => D (len + j), ?_⟩⟩
    · simp only [Option.some.injEq, Prod.mk.injEq] at hb'
      obtain ⟨rfl, rfl⟩ := hb'
      exact (hlp i x hix).1
    · have hd' : d = .slice ((List.range len).map D) ((List.range (m - len)).map fun j => D (len + j)) := congrArg Prod.fst hd
      rw [hd', hll]

theorem slc_bulk {t e : TypeId} {fuel : Nat} {s : Slc} {y : DataW H × List MemPlace} (ht : P.underlying t = some (.slice e)) (h : DataW.trod enc P W 0 (fun _ => true) true fuel t [(Lf.slc s).val] = some y) : s.len ≤ uptoBulk y.1 ∧ s.len ≤ s.cap := by
  rcases Deep.open_slice ht h with ⟨h1, _⟩ | ⟨a', len, cap, m, n, D, Pl, h1, hb, hl, hm, hmm, hd, hx⟩
  · simp only [Lf.val, List.cons.injEq, Value.slice.injEq, and_true] at h1
    omega
  · simp only [Lf.val, List.cons.injEq, Value.slice.injEq, and_true] at h1
    rw [hd]
    simp only [uptoBulk]
    have := bulkAll_len ((List.range len).map D)
    rw [List.length_map, List.length_range] at this
    omega

theorem num_open {t : TypeId} (ht : P.underlying t = some (.int .i64)) {n : Nat} {cs : List Value} {y : DataW H × List MemPlace} (hl : cs.length = 1) (h : DataW.trod enc P W 0 (fun _ => true) true n t cs = some y) :
    ∃ x : Int, cs = (iF x).map Lf.val ∧ True := by
  obtain ⟨x, e, _, w⟩ := DataW.trod_int ht h
  exact ⟨x, e, trivial⟩
theorem oct_open {t : TypeId} (ht : P.underlying t = some (.int .u8)) {n : Nat} {cs : List Value} {y : DataW H × List MemPlace} (hl : cs.length = 1) (h : DataW.trod enc P W 0 (fun _ => true) true n t cs = some y) :
    ∃ x : UInt8, cs = (dF x).map Lf.val ∧ True := byte_open ht hl h

theorem trod_struct8 {w : World} {base : Nat} {spare : Nat → Bool} {held : Bool} {t : TypeId} {f0 f1 f2 f3 f4 f5 f6 f7 : Field} {fuel : Nat} {cs : List Value} {x : DataW H × List MemPlace} (ht : P.underlying t = some (.struct #[f0, f1, f2, f3, f4, f5, f6, f7])) (h : DataW.trod enc P w base spare held fuel t cs = some x) :
    ∃ y0 y1 y2 y3 y4 y5 y6 y7 n, x.1 = .agg [y0.1, y1.1, y2.1, y3.1, y4.1, y5.1, y6.1, y7.1] ∧ DataW.trod enc P w base spare held n f0.type ((cs.drop f0.offset).take (P.cellsOf f0.type)) = some y0 ∧
      DataW.trod enc P w base spare held n f1.type ((cs.drop f1.offset).take (P.cellsOf f1.type)) = some y1 ∧ DataW.trod enc P w base spare held n f2.type ((cs.drop f2.offset).take (P.cellsOf f2.type)) = some y2 ∧
      DataW.trod enc P w base spare held n f3.type ((cs.drop f3.offset).take (P.cellsOf f3.type)) = some y3 ∧ DataW.trod enc P w base spare held n f4.type ((cs.drop f4.offset).take (P.cellsOf f4.type)) = some y4 ∧
      DataW.trod enc P w base spare held n f5.type ((cs.drop f5.offset).take (P.cellsOf f5.type)) = some y5 ∧ DataW.trod enc P w base spare held n f6.type ((cs.drop f6.offset).take (P.cellsOf f6.type)) = some y6 ∧
      DataW.trod enc P w base spare held n f7.type ((cs.drop f7.offset).take (P.cellsOf f7.type)) = some y7 := by
  obtain ⟨xs, n, _, rfl, hl, hlen, hf⟩ := DataW.trod_struct ht h
  match xs, hlen with
  | [y0, y1, y2, y3, y4, y5, y6, y7], _ => exact ⟨y0, y1, y2, y3, y4, y5, y6, y7, n, rfl, by simpa using hf 0 f0 rfl, by simpa using hf 1 f1 rfl, by simpa using hf 2 f2 rfl, by simpa using hf 3 f3 rfl, by simpa using hf 4 f4 rfl, by simpa using hf 5 f5 rfl, by simpa using hf 6 f6 rfl, by simpa using hf 7 f7 rfl⟩
end

section
variable {H : Type} {enc : TypeId × Value → H} {W : World}

set_option maxRecDepth 100000 in
theorem act_open {n : Nat} {cs : List Value} {y : DataW H × List MemPlace} (hl : cs.length = 8) (h : DataW.trod enc Go.Proofs.Tryz.prog W 0 (fun _ => true) true n 58 cs = some y) :
    ∃ o : AcS, cs = (acF o).map Lf.val ∧ (uptoBulk y.1 ≤ 1048576 → AcR W.heap o.2.1 o.2.2.1 o.2.2.2 o.1) := by
  obtain ⟨y0, y1, y2, y3, y4, y5, y6, y7, m, hy, h0, h1, h2, h3, h4, h5, h6, h7⟩ := trod_struct8 Go.Proofs.Tryz.underlying58 h
  obtain ⟨c0, c1, c2, c3, c4, c5, c6, c7, rfl⟩ : ∃ c0 c1 c2 c3 c4 c5 c6 c7, cs = [c0, c1, c2, c3, c4, c5, c6, c7] := by
    match cs, hl with
    | [c0, c1, c2, c3, c4, c5, c6, c7], _ => exact ⟨c0, c1, c2, c3, c4, c5, c6, c7, rfl⟩
  obtain ⟨k3, k5, k9, k23, k32, k58⟩ := kK
  simp only [k3, k9, k23, k32] at h0 h1 h2 h3 h4 h5 h6 h7
  obtain ⟨x0, e0, _, w0⟩ := DataW.trod_int Go.Proofs.Tryz.underlying3 h0
  obtain ⟨x1, e1, g1, _⟩ := DataW.trod_string Go.Proofs.Tryz.underlying9 h1
  obtain ⟨x2, e2, g2, _⟩ := DataW.trod_string Go.Proofs.Tryz.underlying9 h2
  obtain ⟨x4, e4, _, w4⟩ := DataW.trod_int Go.Proofs.Tryz.underlying3 h4
  obtain ⟨x5, e5, _, w5⟩ := DataW.trod_int Go.Proofs.Tryz.underlying3 h5
  simp only [List.drop_succ_cons, List.drop_zero, List.take_succ_cons, List.take_zero, List.cons.injEq, and_true] at e0 e1 e2 h3 e4 e5 h6 h7
  obtain ⟨s3, L3, rfl, a3, _, _, _⟩ := open_slc (f := dF) (Q := fun _ => True) Go.Proofs.Tryz.underlying32 k5 (by omega) dF_sized (fun n cs y hl hy => oct_open Go.Proofs.Tryz.underlying5 hl hy) h3
  obtain ⟨s6, L6, rfl, a6, _, _, _⟩ := open_slc (f := iF) (Q := fun _ => True) Go.Proofs.Tryz.underlying23 k3 (by omega) iF_sized (fun n cs y hl hy => num_open Go.Proofs.Tryz.underlying3 hl hy) h6
  obtain ⟨s7, L7, rfl, a7, _, _, _⟩ := open_slc (f := iF) (Q := fun _ => True) Go.Proofs.Tryz.underlying23 k3 (by omega) iF_sized (fun n cs y hl hy => num_open Go.Proofs.Tryz.underlying3 hl hy) h7
  have b3 := slc_bulk Go.Proofs.Tryz.underlying32 h3
  have b6 := slc_bulk Go.Proofs.Tryz.underlying23 h6
  have b7 := slc_bulk Go.Proofs.Tryz.underlying23 h7
  subst e0 e1 e2 e4 e5
  have l3 := a3.len
  have l6 := a6.len
  have l7 := a7.len
  refine ⟨(⟨x0, x1.data.toList, x2.data.toList, L3, x4, x5, L6, L7⟩, s3, s6, s7), rfl, fun hb => ?_⟩
  rw [hy] at hb
  simp only [uptoBulk, uptoBulkAll, g1, g2] at hb
  exact ⟨a3, a6, a7, b3.2, by show x1.data.toList.length < _; omega, by show x2.data.toList.length < _; omega, by show L3.length ≤ _; omega, by show L6.length ≤ _; omega, by show L7.length ≤ _; omega, wf_int w4, wf_int w5⟩

set_option maxRecDepth 100000 in
theorem acts_open {base : Nat} {v : Value} {d : DataW H} {p : List MemPlace} (hval : Value.okWide Go.Proofs.Tryz.prog W .any base 22 v) (h : DataW.Trod enc Go.Proofs.Tryz.prog W 0 (fun _ => true) true 22 v d p) (hb : uptoBulk d ≤ 1048576) :
    ∃ s os, v = (Lf.slc s).val ∧ Arr 8 acF W.heap s os ∧ (∀ o ∈ os, AcR W.heap o.2.1 o.2.2.1 o.2.2.2 o.1) ∧ os.length ≤ 1048576 := by
  obtain ⟨s, os, D, h1, h2, h3, h5⟩ := open_arrB (Q := fun (o : AcS) d => uptoBulk d ≤ 1048576 → AcR W.heap o.2.1 o.2.2.1 o.2.2.2 o.1) Go.Proofs.Tryz.underlying22 kK.2.2.2.2.2 acF_sized (fun n cs y hl hy => act_open hl hy) hval h
  refine ⟨s, os, h1, h2, fun o ho => ?_, ?_⟩
  · obtain ⟨i, hi, rfl⟩ := List.mem_iff_getElem.1 ho
    refine h3 i _ (by simp [hi]) ?_
    rcases h5 with rfl | ⟨rest, rfl⟩
    · cases ho
    · have := bulkAll_mem (d := D i) ((List.range os.length).map D) (List.mem_map.2 ⟨i, List.mem_range.2 hi, rfl⟩)
      simp only [uptoBulk] at hb
      omega
  · rcases h5 with rfl | ⟨rest, rfl⟩
    · simp
    · have := bulkAll_len ((List.range os.length).map D)
      rw [List.length_map, List.length_range] at this
      simp only [uptoBulk] at hb
      omega

end

end Go.V.YtdeihieblljfcaaGreat
