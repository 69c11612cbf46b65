/- This text proves a part of the laws of seat YtdeihieblljfcaaDoor, under no condition: E2y. -/
import Derived.Test.YtdeihieblljfcaaDoorRows
import Derived.Test.YtdeihieblljfcaaDoorSD
import Derived.Test.YtdeihieblljfcaaDoorSI
import Derived.ChangeMaps5
import Derived.LaidLaws
import Derived.Stop.LaidErr
import Derived.Lib.LaidTab
set_option linter.unusedVariables false
set_option linter.unusedSimpArgs false
/-! What the row's list gives of the package variables; a world that meets it. -/
namespace Go.V.YtdeihieblljfcaaDoor
open Go Go.V Go.ChangeShapes Go.WideShapes Go.Proofs
abbrev Rw := Go.Proofs.YtdeihieblljfcaaDoor.Rows.manifestNamesRow

set_option maxRecDepth 100000
theorem ownD : ownKnob Tryd.prog.godebug = none := by kernel_rfl
theorem laidD : laidOutB Tryd.prog = true := by kernel_rfl
theorem ty0 : (Tryd.prog.globals[0]?).map (·.type) = some 41 := by kernel_rfl
theorem ty1 : (Tryd.prog.globals[1]?).map (·.type) = some 41 := by kernel_rfl
theorem ty2 : (Tryd.prog.globals[2]?).map (·.type) = some 97 := by kernel_rfl
theorem cells97 : Tryd.prog.cellsOf 97 = 20 ∧ Tryd.prog.cellsOf 22 = 1 ∧ Tryd.prog.cellsOf 108 = 1 ∧ Tryd.prog.cellsOf 9 = 1 := ⟨by kernel_rfl, by kernel_rfl, by kernel_rfl, by kernel_rfl⟩
theorem starD : "*" ++ "errors.errorString" = "*errors.errorString" := by decide
theorem rowD (u : TypeId) (h : Tryd.prog.typeName? 3 u = some "*errors.errorString") : u = 106 :=
  typeName_ptr_named (nm := "errors.errorString") (by rw [starD]; kernel_rfl) (by kernel_rfl) (by decide) u (by rw [starD]; exact h)

theorem cells_of_var {P : Program} {W : World} {n : String} {g : Nat} {cs : Array Value} (hg : P.globalNamed n = some g) (h : W.var? P n = some cs) : ∃ t fz, W.heap[g]? = some (.cells cs t fz) := by
  unfold World.var? at h
  rw [hg] at h
  simp only [Option.bind_some] at h
  split at h
  · rename_i c t fz hb
    cases h
    exact ⟨t, fz, hb⟩
  · cases h

theorem door_of {W : World} (h : laidMetH Tryd.prog Rw.laid W) : Door W.heap := by
  have h : laidMet Tryd.prog Rw.laid W := h
  have h2 := h.tail.tail
  have ht : Lib.TabIs Tryd.prog W "internal/strconv.uint64pow10" .u64 Lib.pow10Tab := Lib.tabIs_of_head g2 ty2 Tryd.underlying97 Tryd.underlying22 cells97.2.1 cells97.1 h2
  obtain ⟨a1, s1, hv1, _⟩ := laid_sentinel h2.tail g1 ty1 Tryd.underlying41 rowD Tryd.underlying106 Tryd.underlying108 rfl rfl Tryd.underlying9 cells97.2.2.1 cells97.2.2.2
  obtain ⟨a0, s0, hv0, _⟩ := laid_sentinel h2.tail.tail g0 ty0 Tryd.underlying41 rowD Tryd.underlying106 Tryd.underlying108 rfl rfl Tryd.underlying9 cells97.2.2.1 cells97.2.2.2
  obtain ⟨t, f, hb⟩ := cells_of_var g2 ht
  obtain ⟨t1, f1, hb1⟩ := cells_of_var g1 hv1
  obtain ⟨t0, f0, hb0⟩ := cells_of_var g0 hv0
  exact ⟨⟨t, f, hb⟩, ⟨_, _, t0, f0, hb0⟩, ⟨_, _, t1, f1, hb1⟩⟩

/-- So many blocks has the settled world. -/
noncomputable def lowD : Nat := (World.holding Tryd.prog default ⟨#[], #[], []⟩).heap.size
def cellsOfData : DataW Unit → Array Value
  | .agg l => (l.map fun
    | .lit (.int k n) => Value.int k n
    | _ => .nilIface).toArray
  | _ => #[]
def layC (cs : Array Value) : Obj → Obj
  | .cells _ t fz => .cells cs t fz
  | o => o
noncomputable def layAll (h : Heap) : Heap :=
  let h0 := h.modify 0 (layC #[.iface 106 (.pointer (some ⟨lowD, 0, none⟩))])
  let h1 := h0.modify 1 (layC #[.iface 106 (.pointer (some ⟨lowD + 1, 0, none⟩))])
  let h2 := h1.modify 2 (layC (cellsOfData Go.Proofs.YtdeihieblljfcaaDoor.Rows.laid_internal_strconv_uint64pow10))
  let h3 := h2.modify 4 (layC (cellsOfData Go.Proofs.YtdeihieblljfcaaDoor.Rows.laid_math_bits_deBruijn32tab))
  h3.modify 5 (layC (cellsOfData Go.Proofs.YtdeihieblljfcaaDoor.Rows.laid_math_bits_deBruijn64tab))
/-- The settled world, the variables laid. -/
noncomputable def laidWorldD (os : Os) : World :=
  let w0 := World.holding Tryd.prog os ⟨#[.cells #[.string { data := #[105, 110, 118, 97, 108, 105, 100, 32, 115, 121, 110, 116, 97, 120] }] 108, .cells #[.string { data := #[118, 97, 108, 117, 101, 32, 111, 117, 116, 32, 111, 102, 32, 114, 97, 110, 103, 101] }] 108], #[], []⟩
  { w0 with heap := layAll w0.heap }
theorem laidWorldD_met (os : Os) (args : Array Value) : laidMetH Tryd.prog Rw.laid ((laidWorldD os).forCall (fun _ _ => 0) ⟨#[], args, []⟩).memory := by
  show laidMet Tryd.prog Rw.laid _
  exact laidMet_of_run' 8 (by kernel_rfl) (by kernel_rfl)

end Go.V.YtdeihieblljfcaaDoor
