/- This text proves a part of the laws of seat YtdeihieblljfcaaGreat, under no condition: F1f. -/
import Derived.Test.YtdeihieblljfcaaGreatPC
import Derived.Eval
import Derived.Test.YtdeihieblljfcaaGreatChecked
import Derived.Test.YtdeihieblljfcaaGreatPE
set_option linter.unusedVariables false
set_option maxRecDepth 100000
namespace Go.V.YtdeihieblljfcaaGreat
open Go Go.V
def pl127 : Plan := {
  blk := fun _ => none
  seq := fun | 2 => some ⟨[(11, .one .bool)], [], []⟩ | _ => none
  loop := fun | 4 => some ⟨[(3, .one (.int .i64))], [], []⟩ | _ => none
  live := fun | 0 => some [0] | 1 => some [0,11] | 2 => some [2] | 3 => some [0,3] | 4 => some [0,3,15] | 5 => some [0,3] | 6 => some [0,3,33] | 7 => some [2] | 8 => some [2] | _ => none
  track := fun | _ => false
  draw := fun | _ => .done
  iter := fun | _ => none }
def vc127 (a0 : ByteArray) (h : Heap) (R : Bool → Heap → Prop) : Prop :=
 ∃ (I0 : Bool → Heap → Prop), Br (decide ((↑(ByteArray.size a0) : Int) < 1)) (I0 true h) (I0 (decide ((↑(ByteArray.size a0) : Int) > 32)) h) ∧ ∀ c1 h2, I0 c1 h2 → Br c1 (R false h2) (∃ (I3 : Int → Heap
 → Nat → Prop), (∃ b4, I3 0 h2 b4) ∧ ∀ i5 h6 b7, I3 i5 h6 b7 → Br (decide (i5 < (↑(ByteArray.size a0) : Int))) (0 ≤ i5 ∧ i5 < (↑(ByteArray.size a0) : Int) ∧ Br (decide (bt a0 i5 < 33)) (R false h6) (0 ≤
 i5 ∧ i5 < (↑(ByteArray.size a0) : Int) ∧ Br (decide (bt a0 i5 > 126)) (R false h6) (0 ≤ i5 ∧ i5 < (↑(ByteArray.size a0) : Int) ∧ Br (bt a0 i5 == 47) (R false h6) (∃ b8, b8 < b7 ∧ I3 (IntKind.wrap .i64
 (i5 + 1)) h6 b8)))) (R true h6))
theorem ok127 {a0 : ByteArray} {h : Heap} {R : Bool → Heap → Prop} (hv : vc127 a0 h R) : Call Proofs.Tryz.prog 127 [.lf (.str a0)] h [.one .bool] R := call_eq (pl := pl127) hng hmix Proofs.Tryz.func127 (by kernel_rfl) hv
def pl197 : Plan := {
  blk := fun _ => none
  seq := fun _ => none
  loop := fun | 2 => some ⟨[(5, .one (.int .i64))], [], []⟩ | _ => none
  live := fun | 0 => some [0] | 1 => some [0,5] | 2 => some [0,5,9] | 3 => some [0,5] | 4 => some [0,5,15] | 5 => some [2,3,4] | 6 => some [2,3,4] | _ => none
  track := fun | _ => false
  draw := fun | 5 => .still 0 (.still 1 (.still 2 (.still 3 (.still 4 (.still 5 (.still 6 (.still 7 (.still 8 (.still 9 (.mem 10 (.still 11 (.still 12 (.still 13 (.still 14 (.still 15 (.mem 16 (.still 17 (.still 18 (.still 19 (.still 20 (.done))))))))))))))))))))) | _ => .done
  iter := fun | _ => none }
def vc197 (a0 : ByteArray) (h : Heap) (R : ByteArray → ByteArray → Bool → Heap → Prop) : Prop :=
 ∃ (I0 : Int → Heap → Nat → Prop), (∃ b1, I0 0 h b1) ∧ ∀ i2 h3 b4, I0 i2 h3 b4 → Br (decide (i2 < (↑(ByteArray.size a0) : Int))) (0 ≤ i2 ∧ i2 < (↑(ByteArray.size a0) : Int) ∧ Br (bt a0 i2 == 47) (0 ≤ i2
 ∧ i2 ≤ (↑(ByteArray.size a0) : Int) ∧ 0 ≤ IntKind.wrap .i64 (i2 + 1) ∧ IntKind.wrap .i64 (i2 + 1) ≤ (↑(ByteArray.size a0) : Int) ∧ 0 ≤ i2 ∧ i2 ≤ (↑(ByteArray.size a0) : Int) ∧ Call Proofs.Tryz.prog 127
 [.lf (.str (ByteArray.extract a0 0 (Int.toNat i2)))] h3 [.one .bool] fun (c5 : Bool) h6 => Br c5 (0 ≤ IntKind.wrap .i64 (i2 + 1) ∧ IntKind.wrap .i64 (i2 + 1) ≤ (↑(ByteArray.size a0) : Int) ∧ Call
 Proofs.Tryz.prog 127 [.lf (.str (ByteArray.extract a0 (Int.toNat (IntKind.wrap .i64 (i2 + 1))) (ByteArray.size a0)))] h6 [.one .bool] fun (c7 : Bool) h8 => R (ByteArray.extract a0 0 (Int.toNat i2))
 (ByteArray.extract a0 (Int.toNat (IntKind.wrap .i64 (i2 + 1))) (ByteArray.size a0)) c7 h8) (R (ByteArray.extract a0 0 (Int.toNat i2)) (ByteArray.extract a0 (Int.toNat (IntKind.wrap .i64 (i2 + 1)))
 (ByteArray.size a0)) false h6)) (∃ b9, b9 < b4 ∧ I0 (IntKind.wrap .i64 (i2 + 1)) h3 b9)) (R (ByteArray.mk #[]) (ByteArray.mk #[]) false h3)
theorem ok197 {a0 : ByteArray} {h : Heap} {R : ByteArray → ByteArray → Bool → Heap → Prop} (hv : vc197 a0 h R) : Call Proofs.Tryz.prog 197 [.lf (.str a0)] h [.one .str, .one .str, .one .bool] R := call_eq (pl := pl197) hng hmix Proofs.Tryz.func197 (by kernel_rfl) hv
def pl63 : Plan := {
  blk := fun _ => none
  seq := fun _ => none
  loop := fun _ => none
  live := fun | 0 => some [0] | 1 => some [0,9] | 2 => some [2,3] | 3 => some [2,3] | _ => none
  track := fun | _ => false
  draw := fun | _ => .done
  iter := fun | _ => none }
def vc63 (a0 : Int) (h : Heap) (R : Option (Nat × Nat) → Int → Heap → Prop) : Prop :=
 Br (decide (a0 < 0)) (R none 1 h) (Br (decide (a0 > 268435456)) (R none 1 h) (New 144 [.int .i64 a0, .slc (Slc.mk none 0 0), .slc (Slc.mk none 0 0), .int .i64 0, .int .i64 0, .int .i64 0, .bool false]
 h fun b0 h1 => R (some (b0, 0)) 0 h1))
theorem ok63 {a0 : Int} {h : Heap} {R : Option (Nat × Nat) → Int → Heap → Prop} (hv : vc63 a0 h R) : Call Proofs.Tryz.prog 63 [.lf (.int .i64 a0)] h [.one .ptr, .one (.int .i64)] R := call_eq (pl := pl63) hng hmix Proofs.Tryz.func63 (by kernel_rfl) hv
def pl128 : Plan := {
  blk := fun _ => none
  seq := fun _ => none
  loop := fun | 2 => some ⟨[(5, .one (.int .i64))], [], []⟩ | _ => none
  live := fun | 0 => some [0,1] | 1 => some [0,1,5] | 2 => some [0,1,5,12] | 3 => some [0,1,5] | 4 => some [0,1,5,24] | 5 => some [4] | 6 => some [4] | _ => none
  track := fun | _ => false
  draw := fun | _ => .done
  iter := fun | _ => none }
def vc128 (a0 : Option (Nat × Nat)) (a1 : ByteArray) (h : Heap) (R : Int → Heap → Prop) : Prop :=
 ∃ (I0 : Int → Heap → Nat → Prop), (∃ b1, I0 0 h b1) ∧ ∀ i2 h3 b4, I0 i2 h3 b4 → NilC a0 fun b5 b6 => ∃ s7, cellsAt h3 b5 (b6 + 1) [.slc s7] ∧ Br (decide (i2 < (↑(Slc.len s7) : Int))) (NilC a0 fun b8 b9
 => ∃ s10, cellsAt h3 b8 (b9 + 1) [.slc s10] ∧ IxC s10 i2 2 fun b11 b12 => ∃ (t13 : ByteArray), cellsAt h3 b11 (b12 + 0) [.str t13] ∧ Br (strEq t13 a1) (R i2 h3) (∃ b14, b14 < b4 ∧ I0 (IntKind.wrap .i64
 (i2 + 1)) h3 b14)) (R (-1 : Int) h3)
theorem ok128 {a0 : Option (Nat × Nat)} {a1 : ByteArray} {h : Heap} {R : Int → Heap → Prop} (hv : vc128 a0 a1 h R) : Call Proofs.Tryz.prog 128 [.lf (.ptr a0), .lf (.str a1)] h [.one (.int .i64)] R := call_eq (pl := pl128) hng hmix Proofs.Tryz.func128 (by kernel_rfl) hv
def pl130 : Plan := {
  blk := fun _ => none
  seq := fun _ => none
  loop := fun _ => none
  live := fun | 0 => some [0,1,4] | 1 => some [4] | _ => none
  track := fun | 4 => true | _ => false
  draw := fun | 1 => .still 0 (.still 1 (.still 2 (.still 3 (.still 4 (.still 5 (.still 6 (.still 7 (.still 8 (.still 9 (.still 10 (.still 11 (.still 12 (.still 13 (.still 14 (.still 15 (.still 16 (.still 17 (.still 18 (.still 19 (.mem 20 (.done))))))))))))))))))))) | _ => .done
  iter := fun | _ => none }
def vc130 (a0 : Option (Nat × Nat)) (a1 : Int) (h : Heap) (R : Slc → Slc → Heap → Prop) : Prop :=
 New 194 [.slc (Slc.mk none 0 0), .slc (Slc.mk none 0 0)] h fun b0 h1 => NilC a0 fun b2 b3 => ∃ s4, cellsAt h1 b2 (b3 + 1) [.slc s4] ∧ IxC s4 a1 2 fun b5 b6 => ∃ s7, cellsAt h1 b5 (b6 + 1) [.slc s7] ∧
 NilC a0 fun b8 b9 => ∃ s10, cellsAt h1 b8 (b9 + 1) [.slc s10] ∧ IxC s10 a1 2 fun b11 b12 => ∃ s13, cellsAt h1 b11 (b12 + 1) [.slc s13] ∧ IxC s7 (IntKind.wrap .i64 ((↑(Slc.len s13) : Int) - 1)) 2 fun
 b14 b15 => ∃ s16, ∃ s17, cellsAt h1 b14 b15 [.slc s16, .slc s17] ∧ Set b0 194 [.slc s16, .slc s17] h1 fun h18 => R s16 s17 h18
theorem ok130 {a0 : Option (Nat × Nat)} {a1 : Int} {h : Heap} {R : Slc → Slc → Heap → Prop} (hv : vc130 a0 a1 h R) : Call Proofs.Tryz.prog 130 [.lf (.ptr a0), .lf (.int .i64 a1)] h [.agg [.slc, .slc]] R := call_eq (pl := pl130) hng hmix Proofs.Tryz.func130 (by kernel_rfl) hv
def pl132 : Plan := {
  blk := fun _ => none
  seq := fun _ => none
  loop := fun | 2 => some ⟨[(5, .one (.int .i64))], [], []⟩ | _ => none
  live := fun | 0 => some [1,2] | 1 => some [1,2,5] | 2 => some [1,2,5,10] | 3 => some [1,2,5] | 4 => some [1,2,5,19] | 5 => some [4] | 6 => some [4] | _ => none
  track := fun | 2 => true | _ => false
  draw := fun | _ => .done
  iter := fun | _ => none }
def vc132 (a0 : Slc) (a1 : Slc) (a2 : ByteArray) (h : Heap) (R : Int → Heap → Prop) : Prop :=
 New 194 [.slc a0, .slc a1] h fun b0 h1 => ∃ (I2 : Int → Heap → Nat → Prop), (∃ b3, I2 0 h1 b3) ∧ ∀ i4 h5 b6, I2 i4 h5 b6 → Br (decide (i4 < (↑(Slc.len a0) : Int))) (IxC a0 i4 1 fun b7 b8 => ∃ (t9 :
 ByteArray), cellsAt h5 b7 b8 [.str t9] ∧ Br (strEq t9 a2) (IxC a1 i4 1 fun b10 b11 => ∃ i12, cellsAt h5 b10 b11 [.int .i64 i12] ∧ R i12 h5) (∃ b13, b13 < b6 ∧ I2 (IntKind.wrap .i64 (i4 + 1)) h5 b13))
 (R (-1 : Int) h5)
theorem ok132 {a0 : Slc} {a1 : Slc} {a2 : ByteArray} {h : Heap} {R : Int → Heap → Prop} (hv : vc132 a0 a1 a2 h R) : Call Proofs.Tryz.prog 132 [.agg [.slc a0, .slc a1], .lf (.str a2)] h [.one (.int .i64)] R := call_eq (pl := pl132) hng hmix Proofs.Tryz.func132 (by kernel_rfl) hv
def pl134 : Plan := {
  blk := fun _ => none
  seq := fun | 7 => some ⟨[(29, .one .bool)], [], []⟩ | 8 => some ⟨[], [(2, [.slc, .slc])], []⟩ | 9 => some ⟨[(8, .one .bool)], [(2, [.slc, .slc])], []⟩ | _ => none
  loop := fun | 4 => some ⟨[(8, .one .bool), (9, .one (.int .i64))], [(2, [.slc, .slc])], []⟩ | _ => none
  live := fun | 0 => some [1,2,3,6] | 1 => some [1,2,3,6,7] | 2 => some [1,2,3,6,7,8] | 3 => some [1,2,3,6,7,8,9] | 4 => some [1,2,3,6,7,8,9,16] | 5 => some [1,2,3,6,7,8,9] | 6 => some [1,2,3,6,7,8,9,29] | 7 => some [1,2,3,6,7,9] | 8 => some [1,2,3,6,7,8,9] | 9 => some [1,2,3,6,7,8,9,48] | 10 => some [1,2,3,6,7,8,9] | 11 => some [1,2,6,7,70] | 12 => some [6,7] | 13 => some [6] | _ => none
  track := fun | 3 => true | 6 => true | 7 => true | _ => false
  draw := fun | 7 => .still 0 (.still 1 (.still 2 (.still 5 (.still 6 (.still 7 (.alt 3 (.alt 4 (.still 10 (.mem 8 (.mem 9 (.mem 11 (.still 12 (.mem 13 (.done))))))) (.mem 8 (.mem 4 (.still 10 (.mem 9 (.mem 11 (.still 12 (.mem 13 (.done))))))))) (.mem 8 (.mem 3 (.mem 4 (.still 10 (.mem 9 (.mem 11 (.still 12 (.mem 13 (.done))))))))))))))) | 10 => .still 0 (.still 1 (.still 2 (.still 3 (.still 4 (.still 5 (.still 6 (.still 9 (.still 10 (.still 11 (.still 12 (.still 13 (.still 14 (.still 15 (.alt 7 (.alt 8 (.still 18 (.mem 16 (.mem 17 (.mem 19 (.still 20 (.mem 21 (.done))))))) (.mem 16 (.mem 8 (.still 18 (.mem 17 (.mem 19 (.still 20 (.mem 21 (.done))))))))) (.mem 16 (.mem 7 (.mem 8 (.still 18 (.mem 17 (.mem 19 (.still 20 (.mem 21 (.done))))))))))))))))))))))) | 12 => .still 0 (.still 1 (.still 2 (.still 5 (.still 6 (.still 7 (.alt 3 (.alt 4 (.still 10 (.mem 8 (.mem 9 (.mem 11 (.still 12 (.mem 13 (.done))))))) (.mem 8 (.mem 4 (.still 10 (.mem 9 (.mem 11 (.still 12 (.mem 13 (.done))))))))) (.mem 8 (.mem 3 (.mem 4 (.still 10 (.mem 9 (.mem 11 (.still 12 (.mem 13 (.done))))))))))))))) | _ => .done
  iter := fun | _ => none }
def vc134 (a0 : Slc) (a1 : Slc) (a2 : ByteArray) (a3 : Int) (h : Heap) (R : Slc → Slc → Heap → Prop) : Prop :=
 New 194 [.slc a0, .slc a1] h fun b0 h1 => New 194 [.slc (Slc.mk none 0 0), .slc (Slc.mk none 0 0)] h1 fun b2 h3 => New 194 [.slc (Slc.mk none 0 0), .slc (Slc.mk none 0 0)] h3 fun b4 h5 => ∃ (I6 : Bool
 → Int → Slc → Slc → Heap → Nat → Prop), (∃ b7, I6 (decide (a3 < 0)) 0 (Slc.mk none 0 0) (Slc.mk none 0 0) h5 b7) ∧ ∀ c8 i9 s10 s11 h12 b13, I6 c8 i9 s10 s11 h12 b13 → Br (decide (i9 < (↑(Slc.len a0) :
 Int))) (∃ (I14 : Bool → Slc → Slc → Heap → Prop), (∃ (I15 : Bool → Heap → Prop), Br (!c8) (IxC a0 i9 1 fun b16 b17 => ∃ (t18 : ByteArray), cellsAt h12 b16 b17 [.str t18] ∧ I15 (!strLt t18 a2) h12) (I15
 false h12) ∧ ∀ c19 h20, I15 c19 h20 → Br c19 (∃ (I21 : Slc → Slc → Heap → Prop), ((New 9 [.str a2] h20 fun b22 h23 => (AppC 9 [.str (ByteArray.mk #[])] 1 16 s10 (Slc.mk (some (b22, 0)) 1 1) h23 fun
 (s24 : Slc) h25 => keepB h23 h25 [b0, b2, b4] ∧ New 3 [.int .i64 a3] h25 fun b26 h27 => AppC 3 [.int .i64 0] 1 8 s11 (Slc.mk (some (b26, 0)) 1 1) h27 fun (s28 : Slc) h29 => keepB h27 h29 [b0, b2, b4] ∧
 Set b4 194 [.slc s24, .slc s11] h29 fun h30 => Set b4 194 [.slc s24, .slc s28] h30 fun h31 => I21 s24 s28 h31) ∧ New 3 [.int .i64 a3] h23 fun b32 h33 => AppC 9 [.str (ByteArray.mk #[])] 1 16 s10
 (Slc.mk (some (b22, 0)) 1 1) h33 fun (s34 : Slc) h35 => keepB h33 h35 [b0, b2, b4] ∧ AppC 3 [.int .i64 0] 1 8 s11 (Slc.mk (some (b32, 0)) 1 1) h35 fun (s36 : Slc) h37 => keepB h35 h37 [b0, b2, b4] ∧
 Set b4 194 [.slc s34, .slc s11] h37 fun h38 => Set b4 194 [.slc s34, .slc s36] h38 fun h39 => I21 s34 s36 h39) ∧ New 3 [.int .i64 a3] h20 fun b40 h41 => New 9 [.str a2] h41 fun b42 h43 => AppC 9 [.str
 (ByteArray.mk #[])] 1 16 s10 (Slc.mk (some (b42, 0)) 1 1) h43 fun (s44 : Slc) h45 => keepB h43 h45 [b0, b2, b4] ∧ AppC 3 [.int .i64 0] 1 8 s11 (Slc.mk (some (b40, 0)) 1 1) h45 fun (s46 : Slc) h47 =>
 keepB h45 h47 [b0, b2, b4] ∧ Set b4 194 [.slc s44, .slc s11] h47 fun h48 => Set b4 194 [.slc s44, .slc s46] h48 fun h49 => I21 s44 s46 h49) ∧ ∀ s50 s51 h52, I21 s50 s51 h52 → I14 true s50 s51 h52) (I14
 c8 s10 s11 h20)) ∧ ∀ c53 s54 s55 h56, I14 c53 s54 s55 h56 → IxC a0 i9 1 fun b57 b58 => ∃ (t59 : ByteArray), cellsAt h56 b57 b58 [.str t59] ∧ Br (!strEq t59 a2) (IxC a0 i9 1 fun b60 b61 => ∃ (t62 :
 ByteArray), cellsAt h56 b60 b61 [.str t62] ∧ IxC a1 i9 1 fun b63 b64 => ∃ i65, cellsAt h56 b63 b64 [.int .i64 i65] ∧ (New 9 [.str t62] h56 fun b66 h67 => cellsAt h67 b63 b64 [.int .i64 i65] ∧ (AppC 9
 [.str (ByteArray.mk #[])] 1 16 s54 (Slc.mk (some (b66, 0)) 1 1) h67 fun (s68 : Slc) h69 => keepB h67 h69 [b0, b2, b4] ∧ cellsAt h69 b63 b64 [.int .i64 i65] ∧ New 3 [.int .i64 i65] h69 fun b70 h71 =>
 AppC 3 [.int .i64 0] 1 8 s55 (Slc.mk (some (b70, 0)) 1 1) h71 fun (s72 : Slc) h73 => keepB h71 h73 [b0, b2, b4] ∧ Set b4 194 [.slc s68, .slc s55] h73 fun h74 => Set b4 194 [.slc s68, .slc s72] h74 fun
 h75 => ∃ b76, b76 < b13 ∧ I6 c53 (IntKind.wrap .i64 (i9 + 1)) s68 s72 h75 b76) ∧ New 3 [.int .i64 i65] h67 fun b77 h78 => AppC 9 [.str (ByteArray.mk #[])] 1 16 s54 (Slc.mk (some (b66, 0)) 1 1) h78 fun
 (s79 : Slc) h80 => keepB h78 h80 [b0, b2, b4] ∧ AppC 3 [.int .i64 0] 1 8 s55 (Slc.mk (some (b77, 0)) 1 1) h80 fun (s81 : Slc) h82 => keepB h80 h82 [b0, b2, b4] ∧ Set b4 194 [.slc s79, .slc s55] h82 fun
 h83 => Set b4 194 [.slc s79, .slc s81] h83 fun h84 => ∃ b85, b85 < b13 ∧ I6 c53 (IntKind.wrap .i64 (i9 + 1)) s79 s81 h84 b85) ∧ New 3 [.int .i64 i65] h56 fun b86 h87 => cellsAt h87 b60 b61 [.str t62] ∧
 New 9 [.str t62] h87 fun b88 h89 => AppC 9 [.str (ByteArray.mk #[])] 1 16 s54 (Slc.mk (some (b88, 0)) 1 1) h89 fun (s90 : Slc) h91 => keepB h89 h91 [b0, b2, b4] ∧ AppC 3 [.int .i64 0] 1 8 s55 (Slc.mk
 (some (b86, 0)) 1 1) h91 fun (s92 : Slc) h93 => keepB h91 h93 [b0, b2, b4] ∧ Set b4 194 [.slc s90, .slc s55] h93 fun h94 => Set b4 194 [.slc s90, .slc s92] h94 fun h95 => ∃ b96, b96 < b13 ∧ I6 c53
 (IntKind.wrap .i64 (i9 + 1)) s90 s92 h95 b96) (∃ b97, b97 < b13 ∧ I6 c53 (IntKind.wrap .i64 (i9 + 1)) s54 s55 h56 b97)) (Br (!c8) ((New 9 [.str a2] h12 fun b98 h99 => (AppC 9 [.str (ByteArray.mk #[])]
 1 16 s10 (Slc.mk (some (b98, 0)) 1 1) h99 fun (s100 : Slc) h101 => keepB h99 h101 [b2, b4] ∧ New 3 [.int .i64 a3] h101 fun b102 h103 => AppC 3 [.int .i64 0] 1 8 s11 (Slc.mk (some (b102, 0)) 1 1) h103
 fun (s104 : Slc) h105 => keepB h103 h105 [b2, b4] ∧ Set b4 194 [.slc s100, .slc s11] h105 fun h106 => Set b4 194 [.slc s100, .slc s104] h106 fun h107 => Set b2 194 [.slc s100, .slc s104] h107 fun h108
 => R s100 s104 h108) ∧ New 3 [.int .i64 a3] h99 fun b109 h110 => AppC 9 [.str (ByteArray.mk #[])] 1 16 s10 (Slc.mk (some (b98, 0)) 1 1) h110 fun (s111 : Slc) h112 => keepB h110 h112 [b2, b4] ∧ AppC 3
 [.int .i64 0] 1 8 s11 (Slc.mk (some (b109, 0)) 1 1) h112 fun (s113 : Slc) h114 => keepB h112 h114 [b2, b4] ∧ Set b4 194 [.slc s111, .slc s11] h114 fun h115 => Set b4 194 [.slc s111, .slc s113] h115 fun
 h116 => Set b2 194 [.slc s111, .slc s113] h116 fun h117 => R s111 s113 h117) ∧ New 3 [.int .i64 a3] h12 fun b118 h119 => New 9 [.str a2] h119 fun b120 h121 => AppC 9 [.str (ByteArray.mk #[])] 1 16 s10
 (Slc.mk (some (b120, 0)) 1 1) h121 fun (s122 : Slc) h123 => keepB h121 h123 [b2, b4] ∧ AppC 3 [.int .i64 0] 1 8 s11 (Slc.mk (some (b118, 0)) 1 1) h123 fun (s124 : Slc) h125 => keepB h123 h125 [b2, b4]
 ∧ Set b4 194 [.slc s122, .slc s11] h125 fun h126 => Set b4 194 [.slc s122, .slc s124] h126 fun h127 => Set b2 194 [.slc s122, .slc s124] h127 fun h128 => R s122 s124 h128) (Set b2 194 [.slc s10, .slc
 s11] h12 fun h129 => R s10 s11 h129))
theorem ok134 {a0 : Slc} {a1 : Slc} {a2 : ByteArray} {a3 : Int} {h : Heap} {R : Slc → Slc → Heap → Prop} (hv : vc134 a0 a1 a2 a3 h R) : Call Proofs.Tryz.prog 134 [.agg [.slc a0, .slc a1], .lf (.str a2), .lf (.int .i64 a3)] h [.agg [.slc, .slc]] R := call_eq (pl := pl134) hng hmix Proofs.Tryz.func134 (by kernel_rfl) hv
def pl131 : Plan := {
  blk := fun _ => none
  seq := fun _ => none
  loop := fun _ => none
  live := fun | 0 => some [0,1] | 1 => some [0,7,8,9] | 2 => some [0,7,8,18] | 3 => some [4,5,6] | 4 => some [8,10] | 5 => some [8,10,23] | 6 => some [4,5,6] | 7 => some [4,5,6] | _ => none
  track := fun | _ => false
  draw := fun | _ => .done
  iter := fun | _ => none }
def vc131 (a0 : Option (Nat × Nat)) (a1 : ByteArray) (h : Heap) (R : Int → ByteArray → Int → Heap → Prop) : Prop :=
 Call Proofs.Tryz.prog 197 [.lf (.str a1)] h [.one .str, .one .str, .one .bool] fun (t0 t1 : ByteArray) (c2 : Bool) h3 => Br (!c2) (R 0 (ByteArray.mk #[]) 1 h3) (Call Proofs.Tryz.prog 128 [.lf (.ptr
 a0), .lf (.str t0)] h3 [.one (.int .i64)] fun (i4 : Int) h5 => Br (decide (i4 < 0)) (R 0 (ByteArray.mk #[]) 6 h5) (R i4 t1 0 h5))
theorem ok131 {a0 : Option (Nat × Nat)} {a1 : ByteArray} {h : Heap} {R : Int → ByteArray → Int → Heap → Prop} (hv : vc131 a0 a1 h R) : Call Proofs.Tryz.prog 131 [.lf (.ptr a0), .lf (.str a1)] h [.one (.int .i64), .one .str, .one (.int .i64)] R := call_eq (pl := pl131) hng hmix Proofs.Tryz.func131 (by kernel_rfl) hv
def pl138 : Plan := {
  blk := fun _ => none
  seq := fun _ => none
  loop := fun _ => none
  live := fun | 0 => some [0,1] | 1 => some [0,6,7,8] | 2 => some [0,6,7,8,18] | 3 => some [4,5] | 4 => some [9] | 5 => some [9,26] | 6 => some [4,5] | 7 => some [4,5] | _ => none
  track := fun | _ => false
  draw := fun | _ => .done
  iter := fun | _ => none }
def vc138 (a0 : Option (Nat × Nat)) (a1 : ByteArray) (h : Heap) (R : Int → Int → Heap → Prop) : Prop :=
 Call Proofs.Tryz.prog 131 [.lf (.ptr a0), .lf (.str a1)] h [.one (.int .i64), .one .str, .one (.int .i64)] fun (i0 : Int) (t1 : ByteArray) (i2 : Int) h3 => Br (i2 != 0) (R 0 i2 h3) (Call
 Proofs.Tryz.prog 130 [.lf (.ptr a0), .lf (.int .i64 i0)] h3 [.agg [.slc, .slc]] fun (s4 s5 : Slc) h6 => Call Proofs.Tryz.prog 132 [.agg [.slc s4, .slc s5], .lf (.str t1)] h6 [.one (.int .i64)] fun (i7
 : Int) h8 => Br (decide (i7 < 0)) (R 0 6 h8) (R i7 0 h8))
theorem ok138 {a0 : Option (Nat × Nat)} {a1 : ByteArray} {h : Heap} {R : Int → Int → Heap → Prop} (hv : vc138 a0 a1 h R) : Call Proofs.Tryz.prog 138 [.lf (.ptr a0), .lf (.str a1)] h [.one (.int .i64), .one (.int .i64)] R := call_eq (pl := pl138) hng hmix Proofs.Tryz.func138 (by kernel_rfl) hv
def pl198 : Plan := {
  blk := fun _ => none
  seq := fun _ => none
  loop := fun | 3 => some ⟨[(5, .one .slc), (6, .one (.int .i64))], [], []⟩ | _ => none
  live := fun | 0 => some [0,3] | 1 => some [3,5] | 2 => some [3,5,6] | 3 => some [3,5,6,14] | 4 => some [3,5,6] | 5 => some [3,5,6,23] | 6 => some [3,5,6] | 7 => some [3,5,6] | 8 => some [4] | _ => none
  track := fun | 3 => true | _ => false
  draw := fun | 6 => .still 0 (.still 1 (.still 2 (.still 3 (.still 4 (.still 5 (.still 6 (.still 7 (.still 8 (.still 9 (.still 10 (.mem 11 (.done)))))))))))) | _ => .done
  iter := fun | _ => none }
def vc198 (a0 : Slc) (a1 : Int) (a2 : Slc) (h : Heap) (R : Slc → Heap → Prop) : Prop :=
 New 241 [.int .i64 a1, .slc a2] h fun b0 h1 => New 5 [] h1 fun b2 h3 => AppC 5 [.int .u8 0] 1 1 (Slc.mk (some (b2, 0)) 0 0) a0 h3 fun (s4 : Slc) h5 => keepB h3 h5 [b0] ∧ ∃ (I6 : Slc → Int → Heap → Nat
 → Prop), (∃ b7, I6 s4 0 h5 b7) ∧ ∀ s8 i9 h10 b11, I6 s8 i9 h10 b11 → Br (decide (i9 < (↑(Slc.len a2) : Int))) (Br (decide (IntKind.wrap .i64 (a1 + i9) < (↑(Slc.len s8) : Int))) (IxC a2 i9 1 fun b12 b13
 => ∃ i14, cellsAt h10 b12 b13 [.int .u8 i14] ∧ IxC s8 (IntKind.wrap .i64 (a1 + i9)) 1 fun b15 b16 => StC h10 b15 b16 [.int .u8 i14] fun h17 => keepB h10 h17 [b0] ∧ ∃ b18, b18 < b11 ∧ I6 s8
 (IntKind.wrap .i64 (i9 + 1)) h17 b18) (IxC a2 i9 1 fun b19 b20 => ∃ i21, cellsAt h10 b19 b20 [.int .u8 i21] ∧ New 5 [.int .u8 i21] h10 fun b22 h23 => AppC 5 [.int .u8 0] 1 1 s8 (Slc.mk (some (b22, 0))
 1 1) h23 fun (s24 : Slc) h25 => keepB h23 h25 [b0] ∧ ∃ b26, b26 < b11 ∧ I6 s24 (IntKind.wrap .i64 (i9 + 1)) h25 b26)) (R s8 h10)
theorem ok198 {a0 : Slc} {a1 : Int} {a2 : Slc} {h : Heap} {R : Slc → Heap → Prop} (hv : vc198 a0 a1 a2 h R) : Call Proofs.Tryz.prog 198 [.lf (.slc a0), .agg [.int .i64 a1, .slc a2]] h [.one .slc] R := call_eq (pl := pl198) hng hmix Proofs.Tryz.func198 (by kernel_rfl) hv
def pl139 : Plan := {
  blk := fun _ => none
  seq := fun _ => none
  loop := fun | 3 => some ⟨[(3, .one .slc), (4, .one (.int .i64))], [], []⟩ | _ => none
  live := fun | 0 => some [1] | 1 => some [1,3] | 2 => some [1,3,4] | 3 => some [1,3,4,13] | 4 => some [1,3,4] | 5 => some [1,3,4] | 6 => some [2] | _ => none
  track := fun | 1 => true | _ => false
  draw := fun | _ => .done
  iter := fun | _ => none }
def vc139 (a0 : Slc) (a1 : Slc) (h : Heap) (R : Slc → Heap → Prop) : Prop :=
 New 200 [.slc a0, .slc a1] h fun b0 h1 => New 5 [] h1 fun b2 h3 => AppC 5 [.int .u8 0] 1 1 (Slc.mk (some (b2, 0)) 0 0) a0 h3 fun (s4 : Slc) h5 => keepB h3 h5 [b0] ∧ ∃ (I6 : Slc → Int → Heap → Nat →
 Prop), (∃ b7, I6 s4 0 h5 b7) ∧ ∀ s8 i9 h10 b11, I6 s8 i9 h10 b11 → Br (decide (i9 < (↑(Slc.len a1) : Int))) (IxC a1 i9 2 fun b12 b13 => ∃ i14, ∃ s15, cellsAt h10 b12 b13 [.int .i64 i14, .slc s15] ∧
 Call Proofs.Tryz.prog 198 [.lf (.slc s8), .agg [.int .i64 i14, .slc s15]] h10 [.one .slc] fun (s16 : Slc) h17 => keepB h10 h17 [b0] ∧ ∃ b18, b18 < b11 ∧ I6 s16 (IntKind.wrap .i64 (i9 + 1)) h17 b18) (R
 s8 h10)
theorem ok139 {a0 : Slc} {a1 : Slc} {h : Heap} {R : Slc → Heap → Prop} (hv : vc139 a0 a1 h R) : Call Proofs.Tryz.prog 139 [.agg [.slc a0, .slc a1]] h [.one .slc] R := call_eq (pl := pl139) hng hmix Proofs.Tryz.func139 (by kernel_rfl) hv
def pl152 : Plan := {
  blk := fun _ => none
  seq := fun _ => none
  loop := fun | 3 => some ⟨[(3, .one (.int .i64)), (4, .one (.int .i64))], [], []⟩ | _ => none
  live := fun | 0 => some [1] | 1 => some [1,3] | 2 => some [1,3,4] | 3 => some [1,3,4,9] | 4 => some [1,3,4] | 5 => some [1,3,4] | 6 => some [2] | _ => none
  track := fun | 1 => true | _ => false
  draw := fun | _ => .done
  iter := fun | _ => none }
def vc152 (a0 : Slc) (a1 : Slc) (h : Heap) (R : Int → Heap → Prop) : Prop :=
 New 200 [.slc a0, .slc a1] h fun b0 h1 => ∃ (I2 : Int → Int → Heap → Nat → Prop), (∃ b3, I2 0 0 h1 b3) ∧ ∀ i4 i5 h6 b7, I2 i4 i5 h6 b7 → Br (decide (i5 < (↑(Slc.len a1) : Int))) (IxC a1 i5 2 fun b8 b9
 => ∃ s10, cellsAt h6 b8 (b9 + 1) [.slc s10] ∧ ∃ b11, b11 < b7 ∧ I2 (IntKind.wrap .i64 (i4 + (↑(Slc.len s10) : Int))) (IntKind.wrap .i64 (i5 + 1)) h6 b11) (R i4 h6)
theorem ok152 {a0 : Slc} {a1 : Slc} {h : Heap} {R : Int → Heap → Prop} (hv : vc152 a0 a1 h R) : Call Proofs.Tryz.prog 152 [.agg [.slc a0, .slc a1]] h [.one (.int .i64)] R := call_eq (pl := pl152) hng hmix Proofs.Tryz.func152 (by kernel_rfl) hv
def pl140 : Plan := {
  blk := fun _ => none
  seq := fun _ => none
  loop := fun _ => none
  live := fun | 0 => some [0,1,5] | 1 => some [0,1,5] | 2 => some [] | _ => none
  track := fun | 5 => true | _ => false
  draw := fun | 2 => .still 0 (.still 1 (.still 2 (.still 3 (.still 4 (.still 5 (.still 6 (.mem 7 (.done)))))))) | _ => .done
  iter := fun | _ => none }
def vc140 (a0 : Option (Nat × Nat)) (a1 : Int) (a2 : Slc) (a3 : Slc) (h : Heap) (R : Heap → Prop) : Prop :=
 New 200 [.slc a2, .slc a3] h fun b0 h1 => New 200 [] h1 fun b2 h3 => NilC a0 fun b4 b5 => ∃ s6, cellsAt h3 b4 (b5 + 2) [.slc s6] ∧ AppC 200 [.slc (Slc.mk none 0 0), .slc (Slc.mk none 0 0)] 2 48 (Slc.mk
 (some (b2, 0)) 0 0) s6 h3 fun (s7 : Slc) h8 => keepB h3 h8 [b0] ∧ NilC a0 fun b9 b10 => StC h8 b9 (b10 + 2) [.slc s7] fun h11 => keepB h8 h11 [b0] ∧ NilC a0 fun b12 b13 => ∃ s14, cellsAt h11 b12 (b13 +
 2) [.slc s14] ∧ IxC s14 a1 2 fun b15 b16 => StC h11 b15 b16 [.slc a2, .slc a3] fun h17 => keepB h11 h17 [b0] ∧ R h17
theorem ok140 {a0 : Option (Nat × Nat)} {a1 : Int} {a2 : Slc} {a3 : Slc} {h : Heap} {R : Heap → Prop} (hv : vc140 a0 a1 a2 a3 h R) : Call Proofs.Tryz.prog 140 [.lf (.ptr a0), .lf (.int .i64 a1), .agg [.slc a2, .slc a3]] h [] R := call_eq (pl := pl140) hng hmix Proofs.Tryz.func140 (by kernel_rfl) hv
def pl133 : Plan := {
  blk := fun _ => none
  seq := fun _ => none
  loop := fun _ => none
  live := fun | 0 => some [0,1,5] | 1 => some [0,1,5,6] | 2 => some [0,6] | 3 => some [] | _ => none
  track := fun | 5 => true | _ => false
  draw := fun | 2 => .still 0 (.still 1 (.still 3 (.still 4 (.still 5 (.still 6 (.still 7 (.still 9 (.alt 2 (.alt 8 (.mem 10 (.mem 11 (.still 12 (.still 13 (.mem 14 (.done)))))) (.mem 10 (.mem 8 (.mem 11 (.still 12 (.still 13 (.mem 14 (.done)))))))) (.mem 10 (.mem 2 (.mem 8 (.mem 11 (.still 12 (.still 13 (.mem 14 (.done)))))))))))))))) | _ => .done
  iter := fun | _ => none }
def vc133 (a0 : Option (Nat × Nat)) (a1 : Int) (a2 : Slc) (a3 : Slc) (h : Heap) (R : Heap → Prop) : Prop :=
 New 194 [.slc a2, .slc a3] h fun b0 h1 => New 192 [] h1 fun b2 h3 => NilC a0 fun b4 b5 => ∃ s6, cellsAt h3 b4 (b5 + 1) [.slc s6] ∧ AppC 192 [.str (ByteArray.mk #[]), .slc (Slc.mk none 0 0)] 2 40
 (Slc.mk (some (b2, 0)) 0 0) s6 h3 fun (s7 : Slc) h8 => keepB h3 h8 [b0] ∧ IxC s7 a1 2 fun b9 b10 => ∃ s11, cellsAt h8 b9 (b10 + 1) [.slc s11] ∧ (New 194 [] h8 fun b12 h13 => cellsAt h13 b9 (b10 + 1)
 [.slc s11] ∧ (AppC 194 [.slc (Slc.mk none 0 0), .slc (Slc.mk none 0 0)] 2 48 (Slc.mk (some (b12, 0)) 0 0) s11 h13 fun (s14 : Slc) h15 => keepB h13 h15 [b0] ∧ New 194 [.slc a2, .slc a3] h15 fun b16 h17
 => AppC 194 [.slc (Slc.mk none 0 0), .slc (Slc.mk none 0 0)] 2 48 s14 (Slc.mk (some (b16, 0)) 1 1) h17 fun (s18 : Slc) h19 => keepB h17 h19 [b0] ∧ IxC s7 a1 2 fun b20 b21 => StC h19 b20 (b21 + 1) [.slc
 s18] fun h22 => keepB h19 h22 [b0] ∧ NilC a0 fun b23 b24 => StC h22 b23 (b24 + 1) [.slc s7] fun h25 => R h25) ∧ New 194 [.slc a2, .slc a3] h13 fun b26 h27 => cellsAt h27 b9 (b10 + 1) [.slc s11] ∧ AppC
 194 [.slc (Slc.mk none 0 0), .slc (Slc.mk none 0 0)] 2 48 (Slc.mk (some (b12, 0)) 0 0) s11 h27 fun (s28 : Slc) h29 => keepB h27 h29 [b0] ∧ AppC 194 [.slc (Slc.mk none 0 0), .slc (Slc.mk none 0 0)] 2 48
 s28 (Slc.mk (some (b26, 0)) 1 1) h29 fun (s30 : Slc) h31 => keepB h29 h31 [b0] ∧ IxC s7 a1 2 fun b32 b33 => StC h31 b32 (b33 + 1) [.slc s30] fun h34 => keepB h31 h34 [b0] ∧ NilC a0 fun b35 b36 => StC
 h34 b35 (b36 + 1) [.slc s7] fun h37 => R h37) ∧ New 194 [.slc a2, .slc a3] h8 fun b38 h39 => cellsAt h39 b9 (b10 + 1) [.slc s11] ∧ New 194 [] h39 fun b40 h41 => cellsAt h41 b9 (b10 + 1) [.slc s11] ∧
 AppC 194 [.slc (Slc.mk none 0 0), .slc (Slc.mk none 0 0)] 2 48 (Slc.mk (some (b40, 0)) 0 0) s11 h41 fun (s42 : Slc) h43 => keepB h41 h43 [b0] ∧ AppC 194 [.slc (Slc.mk none 0 0), .slc (Slc.mk none 0 0)]
 2 48 s42 (Slc.mk (some (b38, 0)) 1 1) h43 fun (s44 : Slc) h45 => keepB h43 h45 [b0] ∧ IxC s7 a1 2 fun b46 b47 => StC h45 b46 (b47 + 1) [.slc s44] fun h48 => keepB h45 h48 [b0] ∧ NilC a0 fun b49 b50 =>
 StC h48 b49 (b50 + 1) [.slc s7] fun h51 => R h51
theorem ok133 {a0 : Option (Nat × Nat)} {a1 : Int} {a2 : Slc} {a3 : Slc} {h : Heap} {R : Heap → Prop} (hv : vc133 a0 a1 a2 a3 h R) : Call Proofs.Tryz.prog 133 [.lf (.ptr a0), .lf (.int .i64 a1), .agg [.slc a2, .slc a3]] h [] R := call_eq (pl := pl133) hng hmix Proofs.Tryz.func133 (by kernel_rfl) hv
def pl196 : Plan := {
  blk := fun _ => none
  seq := fun | 11 => some ⟨[(4, .one (.int .i64)), (5, .one .bool)], [], []⟩ | _ => none
  loop := fun _ => none
  live := fun | 0 => some [0] | 1 => some [0,4,5] | 2 => some [0,4,5,10] | 3 => some [0,4,5] | 4 => some [0,4,5,22] | 5 => some [0,4,5] | 6 => some [0,4,5] | 7 => some [0,4,5] | 8 => some [0,4,5,37] | 9 => some [0,4,5] | 10 => some [0,4,5] | 11 => some [0,4,5,45] | 12 => some [2,3] | 13 => some [0,4,5,50] | 14 => some [4,5] | 15 => some [0,4,5,63] | 16 => some [] | 17 => some [2,3] | 18 => some [2,3] | _ => none
  track := fun | _ => false
  draw := fun | _ => .done
  iter := fun | _ => none }
def vc196 (a0 : Option (Nat × Nat)) (h : Heap) (R : Int → Bool → Heap → Prop) : Prop :=
 ∃ (I0 : Int → Bool → Heap → Prop), (NilC a0 fun b1 b2 => ∃ i3, cellsAt h b1 (b2 + 3) [.int .i64 i3] ∧ Br (decide (i3 > 1)) (NilC a0 fun b4 b5 => ∃ i6, cellsAt h b4 (b5 + 3) [.int .i64 i6] ∧ NilC a0 fun
 b7 b8 => StC h b7 (b8 + 3) [.int .i64 (IntKind.wrap .i64 (i6 - 1))] fun h9 => I0 0 false h9) (NilC a0 fun b10 b11 => ∃ i12, cellsAt h b10 (b11 + 3) [.int .i64 i12] ∧ Br (i12 == 1) (NilC a0 fun b13 b14
 => StC h b13 (b14 + 3) [.int .i64 0] fun h15 => NilC a0 fun b16 b17 => ∃ i18, cellsAt h15 b16 (b17 + 4) [.int .i64 i18] ∧ NilC a0 fun b19 b20 => StC h15 b19 (b20 + 4) [.int .i64 (IntKind.wrap .i64 (i18
 - 1))] fun h21 => I0 21 true h21) (NilC a0 fun b22 b23 => ∃ i24, cellsAt h b22 (b23 + 4) [.int .i64 i24] ∧ Br (decide (i24 > 0)) (NilC a0 fun b25 b26 => ∃ i27, cellsAt h b25 (b26 + 4) [.int .i64 i27] ∧
 NilC a0 fun b28 b29 => StC h b28 (b29 + 4) [.int .i64 (IntKind.wrap .i64 (i27 - 1))] fun h30 => I0 21 false h30) (I0 0 false h)))) ∧ ∀ i31 c32 h33, I0 i31 c32 h33 → NilC a0 fun b34 b35 => ∃ c36,
 cellsAt h33 b34 (b35 + 6) [.bool c36] ∧ Br c36 (R 22 false h33) (NilC a0 fun b37 b38 => ∃ i39, cellsAt h33 b37 (b38 + 5) [.int .i64 i39] ∧ Br (decide (i39 > 1)) (NilC a0 fun b40 b41 => ∃ i42, cellsAt
 h33 b40 (b41 + 5) [.int .i64 i42] ∧ NilC a0 fun b43 b44 => StC h33 b43 (b44 + 5) [.int .i64 (IntKind.wrap .i64 (i42 - 1))] fun h45 => R i31 c32 h45) (NilC a0 fun b46 b47 => ∃ i48, cellsAt h33 b46 (b47
 + 5) [.int .i64 i48] ∧ Br (i48 == 1) (NilC a0 fun b49 b50 => StC h33 b49 (b50 + 5) [.int .i64 0] fun h51 => NilC a0 fun b52 b53 => StC h51 b52 (b53 + 6) [.bool true] fun h54 => R 22 true h54) (R i31
 c32 h33)))
theorem ok196 {a0 : Option (Nat × Nat)} {h : Heap} {R : Int → Bool → Heap → Prop} (hv : vc196 a0 h R) : Call Proofs.Tryz.prog 196 [.lf (.ptr a0)] h [.one (.int .i64), .one .bool] R := call_eq (pl := pl196) hng hmix Proofs.Tryz.func196 (by kernel_rfl) hv
def pl81 : Plan := {
  blk := fun _ => none
  seq := fun _ => none
  loop := fun _ => none
  live := fun | 0 => some [0,1,2] | 1 => some [0,1,2,17] | 2 => some [] | _ => none
  track := fun | _ => false
  draw := fun | _ => .done
  iter := fun | _ => none }
def vc81 (a0 : Option (Nat × Nat)) (a1 : Int) (a2 : Int) (h : Heap) (R : Heap → Prop) : Prop :=
 NilC a0 fun b0 b1 => StC h b0 (b1 + 3) [.int .i64 0] fun h2 => NilC a0 fun b3 b4 => StC h2 b3 (b4 + 4) [.int .i64 0] fun h5 => Br (decide (a1 ≥ 1)) (Br (decide (a2 ≥ 1)) (NilC a0 fun b6 b7 => StC h5 b6
 (b7 + 3) [.int .i64 a1] fun h8 => NilC a0 fun b9 b10 => StC h8 b9 (b10 + 4) [.int .i64 a2] fun h11 => R h11) (R h5)) (R h5)
theorem ok81 {a0 : Option (Nat × Nat)} {a1 : Int} {a2 : Int} {h : Heap} {R : Heap → Prop} (hv : vc81 a0 a1 a2 h R) : Call Proofs.Tryz.prog 81 [.lf (.ptr a0), .lf (.int .i64 a1), .lf (.int .i64 a2)] h [] R := call_eq (pl := pl81) hng hmix Proofs.Tryz.func81 (by kernel_rfl) hv
def pl82 : Plan := {
  blk := fun _ => none
  seq := fun _ => none
  loop := fun _ => none
  live := fun | 0 => some [0,1] | 1 => some [0,1,11] | 2 => some [] | _ => none
  track := fun | _ => false
  draw := fun | _ => .done
  iter := fun | _ => none }
def vc82 (a0 : Option (Nat × Nat)) (a1 : Int) (h : Heap) (R : Heap → Prop) : Prop :=
 NilC a0 fun b0 b1 => StC h b0 (b1 + 5) [.int .i64 0] fun h2 => NilC a0 fun b3 b4 => StC h2 b3 (b4 + 6) [.bool false] fun h5 => Br (decide (a1 ≥ 1)) (NilC a0 fun b6 b7 => StC h5 b6 (b7 + 5) [.int .i64
 a1] fun h8 => R h8) (R h5)
theorem ok82 {a0 : Option (Nat × Nat)} {a1 : Int} {h : Heap} {R : Heap → Prop} (hv : vc82 a0 a1 h R) : Call Proofs.Tryz.prog 82 [.lf (.ptr a0), .lf (.int .i64 a1)] h [] R := call_eq (pl := pl82) hng hmix Proofs.Tryz.func82 (by kernel_rfl) hv
def pl129 : Plan := {
  blk := fun _ => none
  seq := fun _ => none
  loop := fun _ => none
  live := fun | 0 => some [0] | 1 => some [3] | 2 => some [2] | _ => none
  track := fun | _ => false
  draw := fun | _ => .done
  iter := fun | _ => none }
def vc129 (a0 : Option (Nat × Nat)) (h : Heap) (R : Int → Heap → Prop) : Prop :=
 Call Proofs.Tryz.prog 196 [.lf (.ptr a0)] h [.one (.int .i64), .one .bool] fun (i0 : Int) (c1 : Bool) h2 => R i0 h2
theorem ok129 {a0 : Option (Nat × Nat)} {h : Heap} {R : Int → Heap → Prop} (hv : vc129 a0 h R) : Call Proofs.Tryz.prog 129 [.lf (.ptr a0)] h [.one (.int .i64)] R := call_eq (pl := pl129) hng hmix Proofs.Tryz.func129 (by kernel_rfl) hv
end Go.V.YtdeihieblljfcaaGreat
