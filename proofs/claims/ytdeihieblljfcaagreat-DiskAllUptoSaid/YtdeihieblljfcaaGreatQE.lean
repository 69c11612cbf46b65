/- This text proves a part of the laws of seat YtdeihieblljfcaaGreat, under no condition: F4g. -/
import Derived.Test.YtdeihieblljfcaaGreatQD
set_option linter.unusedVariables false
set_option linter.unusedSimpArgs false
/-! DiskFast, DiskOnce. -/
namespace Go.V.YtdeihieblljfcaaGreat
open Go Go.V

theorem ImgR.keep {S : Nat → Prop} {h0 h h' : Heap} {s : Slc} {L : List Nd} (I : ImgR h0 h s L) (e : Ext S h h') (hS : ∀ b, h0.size ≤ b → b < h.size → ¬ S b) : ∃ os, Own 4 nF h' s os ∧ Im h' h0.size s os L := by
  obtain ⟨os, o, im⟩ := I.ex
  exact ⟨os, o.ext e fun ⟨b, off, hb, hx⟩ => hS b (I.ge b off hb) (o.lt _ _ hb).1 hx, im.ext e fun q hq b off hb hx => hS b (im.ge q hq b off hb).1 (im.ge q hq b off hb).2 hx⟩
theorem AcR.ext0 {h h' : Heap} {sb sk sn : Slc} {a : Ac} (A : AcR h sb sk sn a) (e : Ext0 h h') : AcR h' sb sk sn a :=
  ⟨A.B.ext0 e, A.K.ext0 e, A.N.ext0 e, A.cb, A.path, A.to, A.b1, A.k1, A.n1, A.n, A.m⟩
theorem imageL_len (σ : Dk) : (imageL σ).length = (walkL σ).length := List.length_map ..

theorem Set1.still {σ τ : Dk} (S : Set1 σ τ (keysOf σ.dirs)) : Still τ := fun a b d hl hd => by
  rw [S.dirs] at hl
  exact S.was a (look_keys hl) b d hl hd
end Go.V.YtdeihieblljfcaaGreat
