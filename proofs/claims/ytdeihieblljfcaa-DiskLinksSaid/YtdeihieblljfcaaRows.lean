/-
  No cell of these rows narrows 'for every input' (looked for: loops, veiled, ifaces, maps, wideKeys, modest, calm, conditions, laid).
  DERIVED. THE GIVEN ROWS OF THIS SEAT. 3 by the template 'for every input the law returns true; each argument reads behind the call as it read before'; 0 by the template 'total and deterministic' (their statements: YtdeihieblljfcaaTotals.lean).
  GIVEN WITH THE SEED: the statements are not yours to turn. If you find one false, say at which input.
  Laid BY PROGRAM, IN A SANDBOX (cutbox-rows.mjs): the forced cells as the released guide's own fill.sh prints them over the translation d4ef9899d7dd63fc… (all of the seat's roots in one cut). By AI agents, Wed Nov 11 2026. No macro, syntax, notation, axiom, sorry.
-/
import Derived.Test.YtdeihieblljfcaaChecked
import GoSem.Claim
import GoSem.ClaimJoined
import GoSem.ClaimMapViews
import Derived.JoinedTies
import Derived.KernelRfl
namespace Go.Proofs.Ytdeihieblljfcaa
/- THE CELL 'sum', in the pinned program and in every row, IS THE sha256 OF THE DUMP (.gsa) THAT YtdeihieblljfcaaProg.lean LOADS. Nothing in Lean hashes anything: it is a label: what it is worth is what the hold of that sum in a sandbox is worth. -/
noncomputable def Try.pinned : Pinned := { name := "ytdeihieblljfcaa", sum := "d4ef9899d7dd63fc403ded2177bd874f95d64ecf912cd4ae9333e073f349987d", checked := Try.checked }
namespace Rows
def none {H : Type} : Left H := { results := [], args := [] }

/-- 'sedimentlaw02.DiskWhole': WHATEVER THE INPUT: true; the input reads as it did. -/
def diskWholeSpec : ChangeSpec := { name := "diskWhole", fn := fun _ => fun
  | [d1, d2, d3, d4, d5] => { results := [.lit (.bool true)], args := [d1, d2, d3, d4, d5] }
  | _ => none }
def diskWholeRow : OpenClaim := { program := "ytdeihieblljfcaa", sum := "d4ef9899d7dd63fc403ded2177bd874f95d64ecf912cd4ae9333e073f349987d", func := "sediment/sedimentlaw02.DiskWhole", spec := "diskWhole", inPlace := ["internal/bytealg.IndexByteString", "internal/bytealg.IndexString", "maps.clone"], unfollowed := true, recurses := true, named := ["internal/bytealg.MaxLen"], apart := false }
def DiskWholeSaid : Prop := diskWholeRow.holds Try.pinned (OpenSpec.ofChange diskWholeSpec)

/-- ITS FALSE NEIGHBOUR: 'it returns false'. Refute it at one input. -/
def diskWholeWrong : ChangeSpec := { name := "diskWhole", fn := fun _ => fun
  | [d1, d2, d3, d4, d5] => { results := [.lit (.bool false)], args := [d1, d2, d3, d4, d5] }
  | _ => none }
def DiskWholeWrongFalsely : Prop := diskWholeRow.holds Try.pinned (OpenSpec.ofChange diskWholeWrong)

/-- 'sedimentlaw02.DiskLinks': WHATEVER THE INPUT: true; the input reads as it did. -/
def diskLinksSpec : ChangeSpec := { name := "diskLinks", fn := fun _ => fun
  | [d1, d2, d3] => { results := [.lit (.bool true)], args := [d1, d2, d3] }
  | _ => none }
def diskLinksRow : OpenClaim := { program := "ytdeihieblljfcaa", sum := "d4ef9899d7dd63fc403ded2177bd874f95d64ecf912cd4ae9333e073f349987d", func := "sediment/sedimentlaw02.DiskLinks", spec := "diskLinks", inPlace := ["internal/bytealg.IndexByteString", "internal/bytealg.IndexString", "maps.clone"], unfollowed := true, recurses := true, named := ["internal/bytealg.MaxLen"], apart := false }
def DiskLinksSaid : Prop := diskLinksRow.holds Try.pinned (OpenSpec.ofChange diskLinksSpec)

/-- ITS FALSE NEIGHBOUR: 'it returns false'. Refute it at one input. -/
def diskLinksWrong : ChangeSpec := { name := "diskLinks", fn := fun _ => fun
  | [d1, d2, d3] => { results := [.lit (.bool false)], args := [d1, d2, d3] }
  | _ => none }
def DiskLinksWrongFalsely : Prop := diskLinksRow.holds Try.pinned (OpenSpec.ofChange diskLinksWrong)

/-- 'sedimentlaw18.CompactOnce': WHATEVER THE INPUT: true; the input reads as it did. -/
def compactOnceSpec : ChangeSpec := { name := "compactOnce", fn := fun _ => fun
  | [d1, d2, d3, d4, d5] => { results := [.lit (.bool true)], args := [d1, d2, d3, d4, d5] }
  | _ => none }
def compactOnceRow : OpenClaim := { program := "ytdeihieblljfcaa", sum := "d4ef9899d7dd63fc403ded2177bd874f95d64ecf912cd4ae9333e073f349987d", func := "sediment/sedimentlaw18.CompactOnce", spec := "compactOnce", inPlace := ["internal/bytealg.abigen_runtime_cmpstring"], unfollowed := true, recurses := true, apart := false }
def CompactOnceSaid : Prop := compactOnceRow.holds Try.pinned (OpenSpec.ofChange compactOnceSpec)

/-- ITS FALSE NEIGHBOUR: 'it returns false'. Refute it at one input. -/
def compactOnceWrong : ChangeSpec := { name := "compactOnce", fn := fun _ => fun
  | [d1, d2, d3, d4, d5] => { results := [.lit (.bool false)], args := [d1, d2, d3, d4, d5] }
  | _ => none }
def CompactOnceWrongFalsely : Prop := compactOnceRow.holds Try.pinned (OpenSpec.ofChange compactOnceWrong)

/- THE SECOND FORM. 'bulk': how many values and letters a reading holds, each counted each time it is reached (what is shared counts as often as it is met; a slice's spare places count too). A statement '..UptoSaid' is the law's where the arguments, and the package variables that the reading takes, are together of bulk at most 1048576: NARROWER than '..Said'. Prove '..Said' where nothing that the law and all that it calls make is longer than what came in: it says more and counts as full. Else prove '..UptoSaid'. A law counts once. -/
mutual
def uptoBulk {H : Type} : DataW H → Nat
  | .lit (.string bytes) => bytes.length + 1
  | .lit _ => 1
  | .nil => 1
  | .ptr d => uptoBulk d + 1
  | .slice elems spare => uptoBulkAll elems + uptoBulkAll spare + 1
  | .agg parts => uptoBulkAll parts + 1
  | .iface _ d => uptoBulk d + 1
  | .map entries => uptoBulkEntries entries + 1
  | .held _ => 1
def uptoBulkAll {H : Type} : List (DataW H) → Nat
  | [] => 0
  | d :: r => uptoBulk d + uptoBulkAll r
def uptoBulkEntries {H : Type} : List (Lit × DataW H) → Nat
  | [] => 0
  | x :: r => uptoBulkEntry x + uptoBulkEntries r
def uptoBulkEntry {H : Type} : Lit × DataW H → Nat
  | (.string bytes, d) => bytes.length + uptoBulk d + 1
  | (_, d) => uptoBulk d + 1
 end
def uptoSmall : (H : Type) → List (DataW H) → Bool := fun _ ds => decide (uptoBulkAll ds ≤ 1048576)
def OpenSpec.upto (s : _root_.Go.ChangeSpec) : _root_.Go.OpenSpec := { _root_.Go.OpenSpec.ofChange s with cond := some uptoSmall }

/-- 'sedimentlaw02.DiskWhole', WHERE WHAT IT READS IS OF BULK AT MOST 1048576: true; the input reads as it did. -/
def diskWholeUptoRow : OpenClaim := { program := "ytdeihieblljfcaa", sum := "d4ef9899d7dd63fc403ded2177bd874f95d64ecf912cd4ae9333e073f349987d", func := "sediment/sedimentlaw02.DiskWhole", spec := "diskWhole", inPlace := ["internal/bytealg.IndexByteString", "internal/bytealg.IndexString", "maps.clone"], unfollowed := true, recurses := true, named := ["internal/bytealg.MaxLen"], apart := false, narrowed := true }
def DiskWholeUptoSaid : Prop := diskWholeUptoRow.holds Try.pinned (OpenSpec.upto diskWholeSpec)

/-- 'sedimentlaw02.DiskLinks', WHERE WHAT IT READS IS OF BULK AT MOST 1048576: true; the input reads as it did. -/
def diskLinksUptoRow : OpenClaim := { program := "ytdeihieblljfcaa", sum := "d4ef9899d7dd63fc403ded2177bd874f95d64ecf912cd4ae9333e073f349987d", func := "sediment/sedimentlaw02.DiskLinks", spec := "diskLinks", inPlace := ["internal/bytealg.IndexByteString", "internal/bytealg.IndexString", "maps.clone"], unfollowed := true, recurses := true, named := ["internal/bytealg.MaxLen"], apart := false, narrowed := true }
def DiskLinksUptoSaid : Prop := diskLinksUptoRow.holds Try.pinned (OpenSpec.upto diskLinksSpec)

/-- 'sedimentlaw18.CompactOnce', WHERE WHAT IT READS IS OF BULK AT MOST 1048576: true; the input reads as it did. -/
def compactOnceUptoRow : OpenClaim := { program := "ytdeihieblljfcaa", sum := "d4ef9899d7dd63fc403ded2177bd874f95d64ecf912cd4ae9333e073f349987d", func := "sediment/sedimentlaw18.CompactOnce", spec := "compactOnce", inPlace := ["internal/bytealg.abigen_runtime_cmpstring"], unfollowed := true, recurses := true, apart := false, narrowed := true }
def CompactOnceUptoSaid : Prop := compactOnceUptoRow.holds Try.pinned (OpenSpec.upto compactOnceSpec)

end Rows
end Go.Proofs.Ytdeihieblljfcaa
