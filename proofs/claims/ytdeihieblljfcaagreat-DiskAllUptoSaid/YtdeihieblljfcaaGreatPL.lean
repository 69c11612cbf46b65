/- This text proves a part of the laws of seat YtdeihieblljfcaaGreat, under no condition: F1j F1m. -/
import Derived.Test.YtdeihieblljfcaaGreatPC
import Derived.Eval
import Derived.Test.YtdeihieblljfcaaGreatChecked
import Derived.Test.YtdeihieblljfcaaGreatPE
set_option linter.unusedVariables false
set_option maxRecDepth 100000
namespace Go.V.YtdeihieblljfcaaGreat
open Go Go.V
def pl25 : Plan := {
  blk := fun _ => none
  seq := fun _ => none
  loop := fun _ => none
  live := fun | 0 => some [0] | 1 => some [0,4,5] | 2 => some [4,5,6,7] | 3 => some [4,6,27] | 4 => some [2,3] | 5 => some [4,6,29] | 6 => some [2,3] | 7 => some [2,3] | _ => none
  track := fun | _ => false
  draw := fun | _ => .done
  iter := fun | _ => none }
def vc25 (a0 : Int) (h : Heap) (R : Option (Nat × Nat) → Bool → Heap → Prop) : Prop :=
 Call Proofs.Tryz.prog 36 [.lf (.int .i64 a0)] h [.one .ptr, .one (.int .i64)] fun (p0 : Option (Nat × Nat)) (i1 : Int) h2 => Call Proofs.Tryz.prog 63 [.lf (.int .i64 a0)] h2 [.one .ptr, .one (.int
 .i64)] fun (p3 : Option (Nat × Nat)) (i4 : Int) h5 => Br (i1 != i4) (R none false h5) (Br (!Option.isNone p0 == Option.isNone p3) (R none false h5) (Br (Option.isNone p0) (R none true h5) (New 61 [.ptr
 p0, .ptr p3] h5 fun b6 h7 => R (some (b6, 0)) true h7)))
theorem ok25 {a0 : Int} {h : Heap} {R : Option (Nat × Nat) → Bool → Heap → Prop} (hv : vc25 a0 h R) : Call Proofs.Tryz.prog 25 [.lf (.int .i64 a0)] h [.one .ptr, .one .bool] R := call_eq (pl := pl25) hng hmix Proofs.Tryz.func25 (by kernel_rfl) hv
def pl14 : Plan := {
  blk := fun _ => none
  seq := fun _ => none
  loop := fun | 4 => some ⟨[(5, .one (.int .i64))], [], []⟩ | _ => none
  live := fun | 0 => some [0,1] | 1 => some [0,1,10] | 2 => some [4] | 3 => some [0,1,5] | 4 => some [0,1,5,14] | 5 => some [0,1,5] | 6 => some [0,1,5,68] | 7 => some [4] | 8 => some [4] | _ => none
  track := fun | _ => false
  draw := fun | 6 => .still 0 (.still 1 (.still 2 (.still 3 (.still 4 (.still 5 (.still 6 (.still 7 (.still 8 (.still 9 (.still 10 (.still 11 (.still 12 (.still 13 (.still 14 (.still 15 (.still 16 (.still 17 (.still 18 (.still 19 (.still 20 (.still 21 (.still 22 (.still 23 (.still 24 (.still 25 (.still 26 (.still 27 (.still 28 (.still 29 (.still 30 (.still 31 (.still 32 (.still 33 (.still 34 (.still 35 (.still 36 (.still 37 (.still 38 (.still 39 (.still 40 (.still 41 (.still 42 (.still 43 (.still 44 (.still 45 (.still 46 (.still 47 (.still 48 (.still 49 (.still 50 (.still 51 (.done)))))))))))))))))))))))))))))))))))))))))))))))))))) | _ => .done
  iter := fun | _ => none }
def vc14 (a0 : Slc) (a1 : Slc) (h : Heap) (R : Bool → Heap → Prop) : Prop :=
 Br ((↑(Slc.len a0) : Int) != (↑(Slc.len a1) : Int)) (R false h) (∃ (I0 : Int → Heap → Nat → Prop), (∃ b1, I0 0 h b1) ∧ ∀ i2 h3 b4, I0 i2 h3 b4 → Br (decide (i2 < (↑(Slc.len a0) : Int))) (IxC a0 i2 4
 fun b5 b6 => ∃ (t7 : ByteArray), cellsAt h3 b5 (b6 + 0) [.str t7] ∧ IxC a1 i2 4 fun b8 b9 => ∃ (t10 : ByteArray), cellsAt h3 b8 (b9 + 0) [.str t10] ∧ Br (!strEq t7 t10) (R false h3) (IxC a0 i2 4 fun
 b11 b12 => ∃ i13, cellsAt h3 b11 (b12 + 2) [.int .i64 i13] ∧ IxC a1 i2 4 fun b14 b15 => ∃ i16, cellsAt h3 b14 (b15 + 2) [.int .i64 i16] ∧ Br (i13 != i16) (R false h3) (IxC a0 i2 4 fun b17 b18 => ∃ (t19
 : ByteArray), cellsAt h3 b17 (b18 + 3) [.str t19] ∧ IxC a1 i2 4 fun b20 b21 => ∃ (t22 : ByteArray), cellsAt h3 b20 (b21 + 3) [.str t22] ∧ Br (!strEq t19 t22) (R false h3) (IxC a0 i2 4 fun b23 b24 => ∃
 s25, cellsAt h3 b23 (b24 + 1) [.slc s25] ∧ ∃ (t26 : ByteArray), bytesAt h3 s25 t26 ∧ IxC a1 i2 4 fun b27 b28 => ∃ s29, cellsAt h3 b27 (b28 + 1) [.slc s29] ∧ ∃ (t30 : ByteArray), bytesAt h3 s29 t30 ∧ Br
 (!strEq t26 t30) (R false h3) (∃ b31, b31 < b4 ∧ I0 (IntKind.wrap .i64 (i2 + 1)) h3 b31))))) (R true h3))
theorem ok14 {a0 : Slc} {a1 : Slc} {h : Heap} {R : Bool → Heap → Prop} (hv : vc14 a0 a1 h R) : Call Proofs.Tryz.prog 14 [.lf (.slc a0), .lf (.slc a1)] h [.one .bool] R := call_eq (pl := pl14) hng hmix Proofs.Tryz.func14 (by kernel_rfl) hv
end Go.V.YtdeihieblljfcaaGreat
namespace Go.V.YtdeihieblljfcaaGreat
open Go Go.V
def pl93b : Plan := {
  blk := fun | 3 => some ⟨[(3, .one .slc), (4, .one .slc)], [], []⟩ | _ => none
  seq := fun _ => none
  loop := fun | 4 => some ⟨[(3, .one .slc), (4, .one .slc), (5, .one (.int .i64))], [], []⟩ | 8 => some ⟨[(3, .one .slc), (4, .one .slc), (7, .one (.int .i64))], [], []⟩ | 14 => some ⟨[(10, .one (.int .i64))], [(2, [.str, .slc, .int .i64, .str])], [1]⟩ | _ => none
  live := fun | 0 => some [0] | 1 => some [0,3] | 2 => some [0,3,4] | 3 => some [0,3,4,5] | 4 => some [0,3,4,5,17] | 5 => some [0,3,4,5] | 6 => some [0,3,4,5,6] | 7 => some [0,3,4,5,6,7] | 8 => some [0,3,4,5,6,7,27] | 9 => some [0,3,4,5,6,7] | 10 => some [0,3,4,5,6,7,8] | 11 => some [0,3,4,5,6,7,9] | 12 => some [0,3,4,5,6,7,9] | 13 => some [0,3,4,5,6,7,9,10] | 14 => some [0,3,4,5,6,7,9,10,67] | 15 => some [0,3,4,5,6,7,9,10] | 16 => some [0,3,4,5,6,7,9,10,79] | 17 => some [0,3,4,5,6,7,9,10] | 18 => some [0,3,4,5,6,7] | 19 => some [2] | _ => none
  track := fun | 6 => true | 8 => true | 9 => true | _ => false
  draw := fun | 10 => .still 0 (.still 1 (.still 2 (.still 3 (.still 4 (.still 5 (.still 6 (.still 7 (.still 8 (.still 9 (.still 10 (.mem 11 (.mem 12 (.done))))))))))))) | 11 => .still 0 (.still 1 (.still 2 (.still 3 (.still 4 (.still 5 (.still 6 (.still 7 (.still 8 (.still 9 (.still 10 (.still 11 (.still 12 (.still 13 (.still 14 (.still 15 (.still 17 (.alt 16 (.alt 18 (.still 19 (.mem 20 (.mem 21 (.done)))) (.mem 20 (.mem 18 (.still 19 (.mem 21 (.done)))))) (.mem 20 (.mem 16 (.mem 18 (.still 19 (.mem 21 (.done))))))))))))))))))))))) | 16 => .still 0 (.still 1 (.still 2 (.still 3 (.still 4 (.still 5 (.still 6 (.still 7 (.still 8 (.still 9 (.done)))))))))) | 18 => .still 0 (.still 1 (.still 4 (.still 5 (.still 6 (.still 7 (.still 8 (.still 9 (.alt 2 (.alt 3 (.mem 10 (.mem 11 (.still 12 (.still 13 (.done))))) (.mem 10 (.mem 3 (.mem 11 (.still 12 (.still 13 (.done))))))) (.mem 10 (.mem 2 (.mem 3 (.mem 11 (.still 12 (.still 13 (.done))))))))))))))) | _ => .done
  iter := fun | _ => none }
def vc93b (a0 : Option (Nat × Nat)) (h : Heap) (R : Slc → Heap → Prop) : Prop :=
 ∃ (I0 : Slc → Slc → Int → Heap → Nat → Prop), (∃ b1, I0 (Slc.mk none 0 0) (Slc.mk none 0 0) 0 h b1) ∧ ∀ s2 s3 i4 h5 b6, I0 s2 s3 i4 h5 b6 → NilC a0 fun b7 b8 => ∃ s9, cellsAt h5 b7 (b8 + 1) [.slc s9] ∧
 Br (decide (i4 < (↑(Slc.len s9) : Int))) (Call Proofs.Tryz.prog 130 [.lf (.ptr a0), .lf (.int .i64 i4)] h5 [.agg [.slc, .slc]] fun (s10 s11 : Slc) h12 => New 194 [.slc (Slc.mk none 0 0), .slc (Slc.mk
 none 0 0)] h12 fun b13 h14 => Set b13 194 [.slc s10, .slc s11] h14 fun h15 => ∃ (I16 : Slc → Slc → Int → Heap → Nat → Prop), (∃ b17, I16 s2 s3 0 h15 b17) ∧ ∀ s18 s19 i20 h21 b22, I16 s18 s19 i20 h21
 b22 → Br (decide (i20 < (↑(Slc.len s10) : Int))) (∃ (I23 : Slc → Slc → Heap → Prop), (NilC a0 fun b24 b25 => ∃ s26, cellsAt h21 b24 (b25 + 2) [.slc s26] ∧ IxC s11 i20 1 fun b27 b28 => ∃ i29, cellsAt
 h21 b27 b28 [.int .i64 i29] ∧ IxC s26 i29 2 fun b30 b31 => ∃ s32, ∃ s33, cellsAt h21 b30 b31 [.slc s32, .slc s33] ∧ New 200 [.slc (Slc.mk none 0 0), .slc (Slc.mk none 0 0)] h21 fun b34 h35 => cellsAt
 h35 b30 b31 [.slc s32, .slc s33] ∧ cellsAt h35 b27 b28 [.int .i64 i29] ∧ cellsAt h35 b24 (b25 + 2) [.slc s26] ∧ Set b34 200 [.slc s32, .slc s33] h35 fun h36 => NilC a0 fun b37 b38 => ∃ s39, cellsAt h36
 b37 (b38 + 1) [.slc s39] ∧ IxC s39 i4 2 fun b40 b41 => ∃ (t42 : ByteArray), cellsAt h36 b40 (b41 + 0) [.str t42] ∧ (↑(ByteArray.size t42 + 1) : Int) ≤ 9223372036854775807 ∧ IxC s10 i20 1 fun b43 b44 =>
 ∃ (t45 : ByteArray), cellsAt h36 b43 b44 [.str t45] ∧ (↑(ByteArray.size (t42 ++ ByteArray.mk #[47]) + ByteArray.size t45) : Int) ≤ 9223372036854775807 ∧ (Call Proofs.Tryz.prog 139 [.agg [.slc s32, .slc
 s33]] h36 [.one .slc] fun (s46 : Slc) h47 => keepB h36 h47 [b13, b34] ∧ cellsAt h47 b43 b44 [.str t45] ∧ cellsAt h47 b40 (b41 + 0) [.str t42] ∧ cellsAt h47 b37 (b38 + 1) [.slc s39] ∧ (Call
 Proofs.Tryz.prog 152 [.agg [.slc s32, .slc s33]] h47 [.one (.int .i64)] fun (i48 : Int) h49 => keepB h47 h49 [b13, b34] ∧ cellsAt h49 b43 b44 [.str t45] ∧ cellsAt h49 b40 (b41 + 0) [.str t42] ∧ cellsAt
 h49 b37 (b38 + 1) [.slc s39] ∧ New 34 [.str (ByteArray.mk #[]), .slc (Slc.mk none 0 0), .int .i64 0, .str (ByteArray.mk #[])] h49 fun b50 h51 => cellsAt h51 b43 b44 [.str t45] ∧ cellsAt h51 b40 (b41 +
 0) [.str t42] ∧ cellsAt h51 b37 (b38 + 1) [.slc s39] ∧ Set b50 34 [.str (t42 ++ ByteArray.mk #[47] ++ t45), .slc s46, .int .i64 i48, .str (ByteArray.mk #[])] h51 fun h52 => Set b50 34 [.str (t42 ++
 ByteArray.mk #[47] ++ t45), .slc s46, .int .i64 i48, .str (t42 ++ ByteArray.mk #[47] ++ t45)] h52 fun h53 => ∃ (I54 : Int → ByteArray → Slc → Int → ByteArray → Heap → Nat → Prop), (∃ b55, I54 0 (t42 ++
 ByteArray.mk #[47] ++ t45) s46 i48 (t42 ++ ByteArray.mk #[47] ++ t45) h53 b55) ∧ ∀ (i56 : Int) (t57 : ByteArray) (s58 : Slc) (i59 : Int) (t60 : ByteArray) (h61 : Heap) (b62 : Nat), I54 i56 t57 s58 i59
 t60 h61 b62 → Br (decide (i56 < (↑(Slc.len s19) : Int))) (IxC s19 i56 1 fun b63 b64 => ∃ i65, cellsAt h61 b63 b64 [.int .i64 i65] ∧ IxC s11 i20 1 fun b66 b67 => ∃ i68, cellsAt h61 b66 b67 [.int .i64
 i68] ∧ Br (i65 == i68) (IxC s18 i56 4 fun b69 b70 => ∃ (t71 : ByteArray), cellsAt h61 b69 (b70 + 3) [.str t71] ∧ Set b50 34 [.str t57, .slc s58, .int .i64 i59, .str t71] h61 fun h72 => ∃ b73, b73 < b62
 ∧ I54 (IntKind.wrap .i64 (i56 + 1)) t57 s58 i59 t71 h72 b73) (∃ b74, b74 < b62 ∧ I54 (IntKind.wrap .i64 (i56 + 1)) t57 s58 i59 t60 h61 b74)) (IxC s11 i20 1 fun b75 b76 => ∃ i77, cellsAt h61 b75 b76
 [.int .i64 i77] ∧ (New 34 [.str t57, .slc s58, .int .i64 i59, .str t60] h61 fun b78 h79 => cellsAt h79 b75 b76 [.int .i64 i77] ∧ (AppC 34 [.str (ByteArray.mk #[]), .slc (Slc.mk none 0 0), .int .i64 0,
 .str (ByteArray.mk #[])] 4 64 s18 (Slc.mk (some (b78, 0)) 1 1) h79 fun (s80 : Slc) h81 => keepB h79 h81 [b13, b50] ∧ cellsAt h81 b75 b76 [.int .i64 i77] ∧ New 3 [.int .i64 i77] h81 fun b82 h83 => AppC
 3 [.int .i64 0] 1 8 s19 (Slc.mk (some (b82, 0)) 1 1) h83 fun (s84 : Slc) (h85 : Heap) => keepB h83 h85 [b13, b50] ∧ I23 s80 s84 h85) ∧ New 3 [.int .i64 i77] h79 fun b86 h87 => AppC 34 [.str
 (ByteArray.mk #[]), .slc (Slc.mk none 0 0), .int .i64 0, .str (ByteArray.mk #[])] 4 64 s18 (Slc.mk (some (b78, 0)) 1 1) h87 fun (s88 : Slc) h89 => keepB h87 h89 [b13, b50] ∧ AppC 3 [.int .i64 0] 1 8
 s19 (Slc.mk (some (b86, 0)) 1 1) h89 fun (s90 : Slc) h91 => keepB h89 h91 [b13, b50] ∧ I23 s88 s90 h91) ∧ New 3 [.int .i64 i77] h61 fun b92 h93 => New 34 [.str t57, .slc s58, .int .i64 i59, .str t60]
 h93 fun b94 h95 => AppC 34 [.str (ByteArray.mk #[]), .slc (Slc.mk none 0 0), .int .i64 0, .str (ByteArray.mk #[])] 4 64 s18 (Slc.mk (some (b94, 0)) 1 1) h95 fun (s96 : Slc) h97 => keepB h95 h97 [b13,
 b50] ∧ AppC 3 [.int .i64 0] 1 8 s19 (Slc.mk (some (b92, 0)) 1 1) h97 fun (s98 : Slc) h99 => keepB h97 h99 [b13, b50] ∧ I23 s96 s98 h99)) ∧ New 34 [.str (ByteArray.mk #[]), .slc (Slc.mk none 0 0), .int
 .i64 0, .str (ByteArray.mk #[])] h47 fun b100 h101 => cellsAt h101 b43 b44 [.str t45] ∧ cellsAt h101 b40 (b41 + 0) [.str t42] ∧ cellsAt h101 b37 (b38 + 1) [.slc s39] ∧ Call Proofs.Tryz.prog 152 [.agg
 [.slc s32, .slc s33]] h101 [.one (.int .i64)] fun (i102 : Int) h103 => keepB h101 h103 [b13, b34, b100] ∧ cellsAt h103 b43 b44 [.str t45] ∧ cellsAt h103 b40 (b41 + 0) [.str t42] ∧ cellsAt h103 b37 (b38
 + 1) [.slc s39] ∧ Set b100 34 [.str (t42 ++ ByteArray.mk #[47] ++ t45), .slc s46, .int .i64 i102, .str (ByteArray.mk #[])] h103 fun h104 => Set b100 34 [.str (t42 ++ ByteArray.mk #[47] ++ t45), .slc
 s46, .int .i64 i102, .str (t42 ++ ByteArray.mk #[47] ++ t45)] h104 fun h105 => ∃ (I106 : Int → ByteArray → Slc → Int → ByteArray → Heap → Nat → Prop), (∃ b107, I106 0 (t42 ++ ByteArray.mk #[47] ++ t45)
 s46 i102 (t42 ++ ByteArray.mk #[47] ++ t45) h105 b107) ∧ ∀ (i108 : Int) (t109 : ByteArray) (s110 : Slc) (i111 : Int) (t112 : ByteArray) (h113 : Heap) (b114 : Nat), I106 i108 t109 s110 i111 t112 h113
 b114 → Br (decide (i108 < (↑(Slc.len s19) : Int))) (IxC s19 i108 1 fun b115 b116 => ∃ i117, cellsAt h113 b115 b116 [.int .i64 i117] ∧ IxC s11 i20 1 fun b118 b119 => ∃ i120, cellsAt h113 b118 b119 [.int
 .i64 i120] ∧ Br (i117 == i120) (IxC s18 i108 4 fun b121 b122 => ∃ (t123 : ByteArray), cellsAt h113 b121 (b122 + 3) [.str t123] ∧ Set b100 34 [.str t109, .slc s110, .int .i64 i111, .str t123] h113 fun
 h124 => ∃ b125, b125 < b114 ∧ I106 (IntKind.wrap .i64 (i108 + 1)) t109 s110 i111 t123 h124 b125) (∃ b126, b126 < b114 ∧ I106 (IntKind.wrap .i64 (i108 + 1)) t109 s110 i111 t112 h113 b126)) (IxC s11 i20
 1 fun b127 b128 => ∃ i129, cellsAt h113 b127 b128 [.int .i64 i129] ∧ (New 34 [.str t109, .slc s110, .int .i64 i111, .str t112] h113 fun b130 h131 => cellsAt h131 b127 b128 [.int .i64 i129] ∧ (AppC 34
 [.str (ByteArray.mk #[]), .slc (Slc.mk none 0 0), .int .i64 0, .str (ByteArray.mk #[])] 4 64 s18 (Slc.mk (some (b130, 0)) 1 1) h131 fun (s132 : Slc) h133 => keepB h131 h133 [b13, b100] ∧ cellsAt h133
 b127 b128 [.int .i64 i129] ∧ New 3 [.int .i64 i129] h133 fun b134 h135 => AppC 3 [.int .i64 0] 1 8 s19 (Slc.mk (some (b134, 0)) 1 1) h135 fun (s136 : Slc) (h137 : Heap) => keepB h135 h137 [b13, b100] ∧
 I23 s132 s136 h137) ∧ New 3 [.int .i64 i129] h131 fun b138 h139 => AppC 34 [.str (ByteArray.mk #[]), .slc (Slc.mk none 0 0), .int .i64 0, .str (ByteArray.mk #[])] 4 64 s18 (Slc.mk (some (b130, 0)) 1 1)
 h139 fun (s140 : Slc) h141 => keepB h139 h141 [b13, b100] ∧ AppC 3 [.int .i64 0] 1 8 s19 (Slc.mk (some (b138, 0)) 1 1) h141 fun (s142 : Slc) (h143 : Heap) => keepB h141 h143 [b13, b100] ∧ I23 s140 s142
 h143) ∧ New 3 [.int .i64 i129] h113 fun b144 h145 => New 34 [.str t109, .slc s110, .int .i64 i111, .str t112] h145 fun b146 h147 => AppC 34 [.str (ByteArray.mk #[]), .slc (Slc.mk none 0 0), .int .i64
 0, .str (ByteArray.mk #[])] 4 64 s18 (Slc.mk (some (b146, 0)) 1 1) h147 fun (s148 : Slc) h149 => keepB h147 h149 [b13, b100] ∧ AppC 3 [.int .i64 0] 1 8 s19 (Slc.mk (some (b144, 0)) 1 1) h149 fun (s150
 : Slc) h151 => keepB h149 h151 [b13, b100] ∧ I23 s148 s150 h151)) ∧ New 34 [.str (ByteArray.mk #[]), .slc (Slc.mk none 0 0), .int .i64 0, .str (ByteArray.mk #[])] h36 fun b152 h153 => cellsAt h153 b43
 b44 [.str t45] ∧ cellsAt h153 b40 (b41 + 0) [.str t42] ∧ cellsAt h153 b37 (b38 + 1) [.slc s39] ∧ Call Proofs.Tryz.prog 139 [.agg [.slc s32, .slc s33]] h153 [.one .slc] fun (s154 : Slc) h155 => keepB
 h153 h155 [b13, b34, b152] ∧ cellsAt h155 b43 b44 [.str t45] ∧ cellsAt h155 b40 (b41 + 0) [.str t42] ∧ cellsAt h155 b37 (b38 + 1) [.slc s39] ∧ Call Proofs.Tryz.prog 152 [.agg [.slc s32, .slc s33]] h155
 [.one (.int .i64)] fun (i156 : Int) h157 => keepB h155 h157 [b13, b34, b152] ∧ cellsAt h157 b43 b44 [.str t45] ∧ cellsAt h157 b40 (b41 + 0) [.str t42] ∧ cellsAt h157 b37 (b38 + 1) [.slc s39] ∧ Set b152
 34 [.str (t42 ++ ByteArray.mk #[47] ++ t45), .slc s154, .int .i64 i156, .str (ByteArray.mk #[])] h157 fun h158 => Set b152 34 [.str (t42 ++ ByteArray.mk #[47] ++ t45), .slc s154, .int .i64 i156, .str
 (t42 ++ ByteArray.mk #[47] ++ t45)] h158 fun h159 => ∃ (I160 : Int → ByteArray → Slc → Int → ByteArray → Heap → Nat → Prop), (∃ b161, I160 0 (t42 ++ ByteArray.mk #[47] ++ t45) s154 i156 (t42 ++
 ByteArray.mk #[47] ++ t45) h159 b161) ∧ ∀ (i162 : Int) (t163 : ByteArray) (s164 : Slc) (i165 : Int) (t166 : ByteArray) (h167 : Heap) (b168 : Nat), I160 i162 t163 s164 i165 t166 h167 b168 → Br (decide
 (i162 < (↑(Slc.len s19) : Int))) (IxC s19 i162 1 fun b169 b170 => ∃ i171, cellsAt h167 b169 b170 [.int .i64 i171] ∧ IxC s11 i20 1 fun b172 b173 => ∃ i174, cellsAt h167 b172 b173 [.int .i64 i174] ∧ Br
 (i171 == i174) (IxC s18 i162 4 fun b175 b176 => ∃ (t177 : ByteArray), cellsAt h167 b175 (b176 + 3) [.str t177] ∧ Set b152 34 [.str t163, .slc s164, .int .i64 i165, .str t177] h167 fun h178 => ∃ b179,
 b179 < b168 ∧ I160 (IntKind.wrap .i64 (i162 + 1)) t163 s164 i165 t177 h178 b179) (∃ b180, b180 < b168 ∧ I160 (IntKind.wrap .i64 (i162 + 1)) t163 s164 i165 t166 h167 b180)) (IxC s11 i20 1 fun b181 b182
 => ∃ i183, cellsAt h167 b181 b182 [.int .i64 i183] ∧ (New 34 [.str t163, .slc s164, .int .i64 i165, .str t166] h167 fun b184 h185 => cellsAt h185 b181 b182 [.int .i64 i183] ∧ (AppC 34 [.str
 (ByteArray.mk #[]), .slc (Slc.mk none 0 0), .int .i64 0, .str (ByteArray.mk #[])] 4 64 s18 (Slc.mk (some (b184, 0)) 1 1) h185 fun (s186 : Slc) h187 => keepB h185 h187 [b13, b152] ∧ cellsAt h187 b181
 b182 [.int .i64 i183] ∧ New 3 [.int .i64 i183] h187 fun b188 h189 => AppC 3 [.int .i64 0] 1 8 s19 (Slc.mk (some (b188, 0)) 1 1) h189 fun (s190 : Slc) (h191 : Heap) => keepB h189 h191 [b13, b152] ∧ I23
 s186 s190 h191) ∧ New 3 [.int .i64 i183] h185 fun b192 h193 => AppC 34 [.str (ByteArray.mk #[]), .slc (Slc.mk none 0 0), .int .i64 0, .str (ByteArray.mk #[])] 4 64 s18 (Slc.mk (some (b184, 0)) 1 1)
 h193 fun (s194 : Slc) h195 => keepB h193 h195 [b13, b152] ∧ AppC 3 [.int .i64 0] 1 8 s19 (Slc.mk (some (b192, 0)) 1 1) h195 fun (s196 : Slc) h197 => keepB h195 h197 [b13, b152] ∧ I23 s194 s196 h197) ∧
 New 3 [.int .i64 i183] h167 fun b198 h199 => New 34 [.str t163, .slc s164, .int .i64 i165, .str t166] h199 fun b200 h201 => AppC 34 [.str (ByteArray.mk #[]), .slc (Slc.mk none 0 0), .int .i64 0, .str
 (ByteArray.mk #[])] 4 64 s18 (Slc.mk (some (b200, 0)) 1 1) h201 fun (s202 : Slc) h203 => keepB h201 h203 [b13, b152] ∧ AppC 3 [.int .i64 0] 1 8 s19 (Slc.mk (some (b198, 0)) 1 1) h203 fun (s204 : Slc)
 h205 => keepB h203 h205 [b13, b152] ∧ I23 s202 s204 h205)) ∧ ∀ s206 s207 h208, I23 s206 s207 h208 → ∃ b209, b209 < b22 ∧ I16 s206 s207 (IntKind.wrap .i64 (i20 + 1)) h208 b209) (∃ b210, b210 < b6 ∧ I0
 s18 s19 (IntKind.wrap .i64 (i4 + 1)) h21 b210)) (R s2 h5)
theorem ok93b {a0 : Option (Nat × Nat)} {h : Heap} {R : Slc → Heap → Prop} (hv : vc93b a0 h R) : Call Proofs.Tryz.prog 93 [.lf (.ptr a0)] h [.one .slc] R := call_eq (pl := pl93b) hng hmix Proofs.Tryz.func93 (by kernel_rfl) hv
end Go.V.YtdeihieblljfcaaGreat
