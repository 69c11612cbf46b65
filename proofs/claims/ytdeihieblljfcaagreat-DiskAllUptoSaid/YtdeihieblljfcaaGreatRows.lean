/-
  No cell of these rows narrows 'for every input' (looked for: loops, veiled, ifaces, maps, wideKeys, modest, calm, conditions, laid).
  DERIVED. THE GIVEN ROWS OF THIS SEAT. 6 by the template 'for every input the law returns true; each argument reads behind the call as it read before'; 0 by the template 'total and deterministic' (their statements: YtdeihieblljfcaaGreatTotals.lean).
  GIVEN WITH THE SEED: the statements are not yours to turn. If you find one false, say at which input.
  Laid BY PROGRAM, IN A SANDBOX (cutbox-rows.mjs): the forced cells as the released guide's own fill.sh prints them over the translation 2ad65bbcc189641c… (all of the seat's roots in one cut). By AI agents, Wed Nov 11 2026. No macro, syntax, notation, axiom, sorry.
-/
import Derived.Test.YtdeihieblljfcaaGreatChecked
import GoSem.Claim
import GoSem.ClaimJoined
import GoSem.ClaimMapViews
import Derived.JoinedTies
import Derived.KernelRfl
namespace Go.Proofs.YtdeihieblljfcaaGreat
/- THE CELL 'sum', in the pinned program and in every row, IS THE sha256 OF THE DUMP (.gsa) THAT YtdeihieblljfcaaGreatProg.lean LOADS. Nothing in Lean hashes anything: it is a label: what it is worth is what the hold of that sum in a sandbox is worth. -/
noncomputable def Tryz.pinned : Pinned := { name := "ytdeihieblljfcaagreat", sum := "2ad65bbcc189641c811cdc100254502f71f0ce225b6c16237883e90bc2b73c77", checked := Tryz.checked }
namespace Rows
def none {H : Type} : Left H := { results := [], args := [] }

/-- 'sedimentlaw02.DiskFast': WHATEVER THE INPUT: true; the input reads as it did. -/
def diskFastSpec : ChangeSpec := { name := "diskFast", fn := fun _ => fun
  | [d1, d2, d3, d4] => { results := [.lit (.bool true)], args := [d1, d2, d3, d4] }
  | _ => none }
def diskFastRow : OpenClaim := { program := "ytdeihieblljfcaagreat", sum := "2ad65bbcc189641c811cdc100254502f71f0ce225b6c16237883e90bc2b73c77", func := "sediment/sedimentlaw02.DiskFast", spec := "diskFast", inPlace := ["internal/bytealg.IndexByteString", "internal/bytealg.IndexString", "maps.clone"], unfollowed := true, recurses := true, named := ["internal/bytealg.MaxLen"], apart := false }
def DiskFastSaid : Prop := diskFastRow.holds Tryz.pinned (OpenSpec.ofChange diskFastSpec)

/-- ITS FALSE NEIGHBOUR: 'it returns false'. Refute it at one input. -/
def diskFastWrong : ChangeSpec := { name := "diskFast", fn := fun _ => fun
  | [d1, d2, d3, d4] => { results := [.lit (.bool false)], args := [d1, d2, d3, d4] }
  | _ => none }
def DiskFastWrongFalsely : Prop := diskFastRow.holds Tryz.pinned (OpenSpec.ofChange diskFastWrong)

/-- 'sedimentlaw02.DiskOnce': WHATEVER THE INPUT: true; the input reads as it did. -/
def diskOnceSpec : ChangeSpec := { name := "diskOnce", fn := fun _ => fun
  | [d1, d2, d3, d4, d5] => { results := [.lit (.bool true)], args := [d1, d2, d3, d4, d5] }
  | _ => none }
def diskOnceRow : OpenClaim := { program := "ytdeihieblljfcaagreat", sum := "2ad65bbcc189641c811cdc100254502f71f0ce225b6c16237883e90bc2b73c77", func := "sediment/sedimentlaw02.DiskOnce", spec := "diskOnce", inPlace := ["internal/bytealg.IndexByteString", "internal/bytealg.IndexString", "maps.clone"], unfollowed := true, recurses := true, named := ["internal/bytealg.MaxLen"], apart := false }
def DiskOnceSaid : Prop := diskOnceRow.holds Tryz.pinned (OpenSpec.ofChange diskOnceSpec)

/-- ITS FALSE NEIGHBOUR: 'it returns false'. Refute it at one input. -/
def diskOnceWrong : ChangeSpec := { name := "diskOnce", fn := fun _ => fun
  | [d1, d2, d3, d4, d5] => { results := [.lit (.bool false)], args := [d1, d2, d3, d4, d5] }
  | _ => none }
def DiskOnceWrongFalsely : Prop := diskOnceRow.holds Tryz.pinned (OpenSpec.ofChange diskOnceWrong)

/-- 'sedimentlaw18.CompactKeeps': WHATEVER THE INPUT: true; the input reads as it did. -/
def compactKeepsSpec : ChangeSpec := { name := "compactKeeps", fn := fun _ => fun
  | [d1, d2, d3, d4, d5] => { results := [.lit (.bool true)], args := [d1, d2, d3, d4, d5] }
  | _ => none }
def compactKeepsRow : OpenClaim := { program := "ytdeihieblljfcaagreat", sum := "2ad65bbcc189641c811cdc100254502f71f0ce225b6c16237883e90bc2b73c77", func := "sediment/sedimentlaw18.CompactKeeps", spec := "compactKeeps", inPlace := ["internal/bytealg.abigen_runtime_cmpstring"], unfollowed := true, recurses := true, apart := false }
def CompactKeepsSaid : Prop := compactKeepsRow.holds Tryz.pinned (OpenSpec.ofChange compactKeepsSpec)

/-- ITS FALSE NEIGHBOUR: 'it returns false'. Refute it at one input. -/
def compactKeepsWrong : ChangeSpec := { name := "compactKeeps", fn := fun _ => fun
  | [d1, d2, d3, d4, d5] => { results := [.lit (.bool false)], args := [d1, d2, d3, d4, d5] }
  | _ => none }
def CompactKeepsWrongFalsely : Prop := compactKeepsRow.holds Tryz.pinned (OpenSpec.ofChange compactKeepsWrong)

/-- 'sedimentlaw02.DiskAll': WHATEVER THE INPUT: true; the input reads as it did. -/
def diskAllSpec : ChangeSpec := { name := "diskAll", fn := fun _ => fun
  | [d1, d2] => { results := [.lit (.bool true)], args := [d1, d2] }
  | _ => none }
def diskAllRow : OpenClaim := { program := "ytdeihieblljfcaagreat", sum := "2ad65bbcc189641c811cdc100254502f71f0ce225b6c16237883e90bc2b73c77", func := "sediment/sedimentlaw02.DiskAll", spec := "diskAll", inPlace := ["internal/bytealg.IndexByteString", "internal/bytealg.IndexString", "maps.clone"], unfollowed := true, recurses := true, named := ["internal/bytealg.MaxLen"], apart := false }
def DiskAllSaid : Prop := diskAllRow.holds Tryz.pinned (OpenSpec.ofChange diskAllSpec)

/-- ITS FALSE NEIGHBOUR: 'it returns false'. Refute it at one input. -/
def diskAllWrong : ChangeSpec := { name := "diskAll", fn := fun _ => fun
  | [d1, d2] => { results := [.lit (.bool false)], args := [d1, d2] }
  | _ => none }
def DiskAllWrongFalsely : Prop := diskAllRow.holds Tryz.pinned (OpenSpec.ofChange diskAllWrong)

/-- 'sedimentlaw18.CompactSplits': WHATEVER THE INPUT: true; the input reads as it did. -/
def compactSplitsSpec : ChangeSpec := { name := "compactSplits", fn := fun _ => fun
  | [d1, d2, d3, d4, d5] => { results := [.lit (.bool true)], args := [d1, d2, d3, d4, d5] }
  | _ => none }
def compactSplitsRow : OpenClaim := { program := "ytdeihieblljfcaagreat", sum := "2ad65bbcc189641c811cdc100254502f71f0ce225b6c16237883e90bc2b73c77", func := "sediment/sedimentlaw18.CompactSplits", spec := "compactSplits", inPlace := ["internal/bytealg.abigen_runtime_cmpstring"], unfollowed := true, recurses := true, apart := false }
def CompactSplitsSaid : Prop := compactSplitsRow.holds Tryz.pinned (OpenSpec.ofChange compactSplitsSpec)

/-- ITS FALSE NEIGHBOUR: 'it returns false'. Refute it at one input. -/
def compactSplitsWrong : ChangeSpec := { name := "compactSplits", fn := fun _ => fun
  | [d1, d2, d3, d4, d5] => { results := [.lit (.bool false)], args := [d1, d2, d3, d4, d5] }
  | _ => none }
def CompactSplitsWrongFalsely : Prop := compactSplitsRow.holds Tryz.pinned (OpenSpec.ofChange compactSplitsWrong)

/-- 'sedimentlaw18.CompactPieces': WHATEVER THE INPUT: true; the input reads as it did. -/
def compactPiecesSpec : ChangeSpec := { name := "compactPieces", fn := fun _ => fun
  | [d1, d2, d3, d4, d5, d6, d7] => { results := [.lit (.bool true)], args := [d1, d2, d3, d4, d5, d6, d7] }
  | _ => none }
def compactPiecesRow : OpenClaim := { program := "ytdeihieblljfcaagreat", sum := "2ad65bbcc189641c811cdc100254502f71f0ce225b6c16237883e90bc2b73c77", func := "sediment/sedimentlaw18.CompactPieces", spec := "compactPieces", inPlace := ["internal/bytealg.abigen_runtime_cmpstring"], unfollowed := true, recurses := true, apart := false }
def CompactPiecesSaid : Prop := compactPiecesRow.holds Tryz.pinned (OpenSpec.ofChange compactPiecesSpec)

/-- ITS FALSE NEIGHBOUR: 'it returns false'. Refute it at one input. -/
def compactPiecesWrong : ChangeSpec := { name := "compactPieces", fn := fun _ => fun
  | [d1, d2, d3, d4, d5, d6, d7] => { results := [.lit (.bool false)], args := [d1, d2, d3, d4, d5, d6, d7] }
  | _ => none }
def CompactPiecesWrongFalsely : Prop := compactPiecesRow.holds Tryz.pinned (OpenSpec.ofChange compactPiecesWrong)

/- THE SECOND FORM. 'bulk': how many values and letters a reading holds, each counted each time it is reached (what is shared counts as often as it is met; a slice's spare places count too). A statement '..UptoSaid' is the law's where the arguments, and the package variables that the reading takes, are together of bulk at most 1048576: NARROWER than '..Said'. Prove '..Said' where nothing that the law and all that it calls make is longer than what came in: it says more and counts as full. Else prove '..UptoSaid'. A law counts once. -/
mutual
def uptoBulk {H : Type} : DataW H → Nat
  | .lit (.string bytes) => bytes.length + 1
  | .lit _ => 1
  | .nil => 1
  | .ptr d => uptoBulk d + 1
  | .slice elems spare => uptoBulkAll elems + uptoBulkAll spare + 1
  | .agg parts => uptoBulkAll parts + 1
  | .iface _ d => uptoBulk d + 1
  | .map entries => uptoBulkEntries entries + 1
  | .held _ => 1
def uptoBulkAll {H : Type} : List (DataW H) → Nat
  | [] => 0
  | d :: r => uptoBulk d + uptoBulkAll r
def uptoBulkEntries {H : Type} : List (Lit × DataW H) → Nat
  | [] => 0
  | x :: r => uptoBulkEntry x + uptoBulkEntries r
def uptoBulkEntry {H : Type} : Lit × DataW H → Nat
  | (.string bytes, d) => bytes.length + uptoBulk d + 1
  | (_, d) => uptoBulk d + 1
 end
def uptoSmall : (H : Type) → List (DataW H) → Bool := fun _ ds => decide (uptoBulkAll ds ≤ 1048576)
def OpenSpec.upto (s : _root_.Go.ChangeSpec) : _root_.Go.OpenSpec := { _root_.Go.OpenSpec.ofChange s with cond := some uptoSmall }

/-- 'sedimentlaw02.DiskFast', WHERE WHAT IT READS IS OF BULK AT MOST 1048576: true; the input reads as it did. -/
def diskFastUptoRow : OpenClaim := { program := "ytdeihieblljfcaagreat", sum := "2ad65bbcc189641c811cdc100254502f71f0ce225b6c16237883e90bc2b73c77", func := "sediment/sedimentlaw02.DiskFast", spec := "diskFast", inPlace := ["internal/bytealg.IndexByteString", "internal/bytealg.IndexString", "maps.clone"], unfollowed := true, recurses := true, named := ["internal/bytealg.MaxLen"], apart := false, narrowed := true }
def DiskFastUptoSaid : Prop := diskFastUptoRow.holds Tryz.pinned (OpenSpec.upto diskFastSpec)

/-- 'sedimentlaw02.DiskOnce', WHERE WHAT IT READS IS OF BULK AT MOST 1048576: true; the input reads as it did. -/
def diskOnceUptoRow : OpenClaim := { program := "ytdeihieblljfcaagreat", sum := "2ad65bbcc189641c811cdc100254502f71f0ce225b6c16237883e90bc2b73c77", func := "sediment/sedimentlaw02.DiskOnce", spec := "diskOnce", inPlace := ["internal/bytealg.IndexByteString", "internal/bytealg.IndexString", "maps.clone"], unfollowed := true, recurses := true, named := ["internal/bytealg.MaxLen"], apart := false, narrowed := true }
def DiskOnceUptoSaid : Prop := diskOnceUptoRow.holds Tryz.pinned (OpenSpec.upto diskOnceSpec)

/-- 'sedimentlaw18.CompactKeeps', WHERE WHAT IT READS IS OF BULK AT MOST 1048576: true; the input reads as it did. -/
def compactKeepsUptoRow : OpenClaim := { program := "ytdeihieblljfcaagreat", sum := "2ad65bbcc189641c811cdc100254502f71f0ce225b6c16237883e90bc2b73c77", func := "sediment/sedimentlaw18.CompactKeeps", spec := "compactKeeps", inPlace := ["internal/bytealg.abigen_runtime_cmpstring"], unfollowed := true, recurses := true, apart := false, narrowed := true }
def CompactKeepsUptoSaid : Prop := compactKeepsUptoRow.holds Tryz.pinned (OpenSpec.upto compactKeepsSpec)

/-- 'sedimentlaw02.DiskAll', WHERE WHAT IT READS IS OF BULK AT MOST 1048576: true; the input reads as it did. -/
def diskAllUptoRow : OpenClaim := { program := "ytdeihieblljfcaagreat", sum := "2ad65bbcc189641c811cdc100254502f71f0ce225b6c16237883e90bc2b73c77", func := "sediment/sedimentlaw02.DiskAll", spec := "diskAll", inPlace := ["internal/bytealg.IndexByteString", "internal/bytealg.IndexString", "maps.clone"], unfollowed := true, recurses := true, named := ["internal/bytealg.MaxLen"], apart := false, narrowed := true }
def DiskAllUptoSaid : Prop := diskAllUptoRow.holds Tryz.pinned (OpenSpec.upto diskAllSpec)

/-- 'sedimentlaw18.CompactSplits', WHERE WHAT IT READS IS OF BULK AT MOST 1048576: true; the input reads as it did. -/
def compactSplitsUptoRow : OpenClaim := { program := "ytdeihieblljfcaagreat", sum := "2ad65bbcc189641c811cdc100254502f71f0ce225b6c16237883e90bc2b73c77", func := "sediment/sedimentlaw18.CompactSplits", spec := "compactSplits", inPlace := ["internal/bytealg.abigen_runtime_cmpstring"], unfollowed := true, recurses := true, apart := false, narrowed := true }
def CompactSplitsUptoSaid : Prop := compactSplitsUptoRow.holds Tryz.pinned (OpenSpec.upto compactSplitsSpec)

/-- 'sedimentlaw18.CompactPieces', WHERE WHAT IT READS IS OF BULK AT MOST 1048576: true; the input reads as it did. -/
def compactPiecesUptoRow : OpenClaim := { program := "ytdeihieblljfcaagreat", sum := "2ad65bbcc189641c811cdc100254502f71f0ce225b6c16237883e90bc2b73c77", func := "sediment/sedimentlaw18.CompactPieces", spec := "compactPieces", inPlace := ["internal/bytealg.abigen_runtime_cmpstring"], unfollowed := true, recurses := true, apart := false, narrowed := true }
def CompactPiecesUptoSaid : Prop := compactPiecesUptoRow.holds Tryz.pinned (OpenSpec.upto compactPiecesSpec)

end Rows
end Go.Proofs.YtdeihieblljfcaaGreat
