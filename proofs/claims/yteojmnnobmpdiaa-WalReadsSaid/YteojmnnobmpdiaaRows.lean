/-
  No cell of these rows narrows 'for every input' (looked for: loops, veiled, ifaces, maps, wideKeys, modest, calm, conditions, laid).
  DERIVED. THE GIVEN ROWS OF THIS SEAT. 9 by the template 'for every input the law returns true; each argument reads behind the call as it read before'; 0 by the template 'total and deterministic' (their statements: YteojmnnobmpdiaaTotals.lean).
  GIVEN WITH THE SEED: the statements are not yours to turn. If you find one false, say at which input.
  Laid BY PROGRAM, IN A SANDBOX (cutbox-rows.mjs): the forced cells as the released guide's own fill.sh prints them over the translation 2756a4aae1815100… (all of the seat's roots in one cut). By AI agents, Wed Nov 11 2026. No macro, syntax, notation, axiom, sorry.
-/
import Derived.Test.YteojmnnobmpdiaaChecked
import GoSem.Claim
import GoSem.ClaimJoined
import GoSem.ClaimMapViews
import Derived.JoinedTies
import Derived.KernelRfl
namespace Go.Proofs.Yteojmnnobmpdiaa
/- THE CELL 'sum', in the pinned program and in every row, IS THE sha256 OF THE DUMP (.gsa) THAT YteojmnnobmpdiaaProg.lean LOADS. Nothing in Lean hashes anything: it is a label: what it is worth is what the hold of that sum in a sandbox is worth. -/
noncomputable def Try.pinned : Pinned := { name := "yteojmnnobmpdiaa", sum := "2756a4aae18151003c748040236162f194bfe73b0d2ddc714b9658593691dace", checked := Try.checked }
namespace Rows
def none {H : Type} : Left H := { results := [], args := [] }

/-- 'sedimentlaw11.CacheRoom': WHATEVER THE INPUT: true; the input reads as it did. -/
def cacheRoomSpec : ChangeSpec := { name := "cacheRoom", fn := fun _ => fun
  | [d1, d2] => { results := [.lit (.bool true)], args := [d1, d2] }
  | _ => none }
def cacheRoomRow : OpenClaim := { program := "yteojmnnobmpdiaa", sum := "2756a4aae18151003c748040236162f194bfe73b0d2ddc714b9658593691dace", func := "sediment/sedimentlaw11.CacheRoom", spec := "cacheRoom", unfollowed := true, recurses := true, apart := false }
def CacheRoomSaid : Prop := cacheRoomRow.holds Try.pinned (OpenSpec.ofChange cacheRoomSpec)

/-- ITS FALSE NEIGHBOUR: 'it returns false'. Refute it at one input. -/
def cacheRoomWrong : ChangeSpec := { name := "cacheRoom", fn := fun _ => fun
  | [d1, d2] => { results := [.lit (.bool false)], args := [d1, d2] }
  | _ => none }
def CacheRoomWrongFalsely : Prop := cacheRoomRow.holds Try.pinned (OpenSpec.ofChange cacheRoomWrong)

/-- 'sedimentlaw11.CacheApart': WHATEVER THE INPUT: true; the input reads as it did. -/
def cacheApartSpec : ChangeSpec := { name := "cacheApart", fn := fun _ => fun
  | [d1, d2, d3] => { results := [.lit (.bool true)], args := [d1, d2, d3] }
  | _ => none }
def cacheApartRow : OpenClaim := { program := "yteojmnnobmpdiaa", sum := "2756a4aae18151003c748040236162f194bfe73b0d2ddc714b9658593691dace", func := "sediment/sedimentlaw11.CacheApart", spec := "cacheApart", unfollowed := true, recurses := true, apart := false }
def CacheApartSaid : Prop := cacheApartRow.holds Try.pinned (OpenSpec.ofChange cacheApartSpec)

/-- ITS FALSE NEIGHBOUR: 'it returns false'. Refute it at one input. -/
def cacheApartWrong : ChangeSpec := { name := "cacheApart", fn := fun _ => fun
  | [d1, d2, d3] => { results := [.lit (.bool false)], args := [d1, d2, d3] }
  | _ => none }
def CacheApartWrongFalsely : Prop := cacheApartRow.holds Try.pinned (OpenSpec.ofChange cacheApartWrong)

/-- 'sedimentlaw11.CachePinned': WHATEVER THE INPUT: true; the input reads as it did. -/
def cachePinnedSpec : ChangeSpec := { name := "cachePinned", fn := fun _ => fun
  | [d1, d2, d3] => { results := [.lit (.bool true)], args := [d1, d2, d3] }
  | _ => none }
def cachePinnedRow : OpenClaim := { program := "yteojmnnobmpdiaa", sum := "2756a4aae18151003c748040236162f194bfe73b0d2ddc714b9658593691dace", func := "sediment/sedimentlaw11.CachePinned", spec := "cachePinned", unfollowed := true, recurses := true, apart := false }
def CachePinnedSaid : Prop := cachePinnedRow.holds Try.pinned (OpenSpec.ofChange cachePinnedSpec)

/-- ITS FALSE NEIGHBOUR: 'it returns false'. Refute it at one input. -/
def cachePinnedWrong : ChangeSpec := { name := "cachePinned", fn := fun _ => fun
  | [d1, d2, d3] => { results := [.lit (.bool false)], args := [d1, d2, d3] }
  | _ => none }
def CachePinnedWrongFalsely : Prop := cachePinnedRow.holds Try.pinned (OpenSpec.ofChange cachePinnedWrong)

/-- 'sedimentlaw11.CacheActs': WHATEVER THE INPUT: true; the input reads as it did. -/
def cacheActsSpec : ChangeSpec := { name := "cacheActs", fn := fun _ => fun
  | [d1, d2] => { results := [.lit (.bool true)], args := [d1, d2] }
  | _ => none }
def cacheActsRow : OpenClaim := { program := "yteojmnnobmpdiaa", sum := "2756a4aae18151003c748040236162f194bfe73b0d2ddc714b9658593691dace", func := "sediment/sedimentlaw11.CacheActs", spec := "cacheActs", unfollowed := true, recurses := true, apart := false }
def CacheActsSaid : Prop := cacheActsRow.holds Try.pinned (OpenSpec.ofChange cacheActsSpec)

/-- ITS FALSE NEIGHBOUR: 'it returns false'. Refute it at one input. -/
def cacheActsWrong : ChangeSpec := { name := "cacheActs", fn := fun _ => fun
  | [d1, d2] => { results := [.lit (.bool false)], args := [d1, d2] }
  | _ => none }
def CacheActsWrongFalsely : Prop := cacheActsRow.holds Try.pinned (OpenSpec.ofChange cacheActsWrong)

/-- 'sedimentlaw05.WalReads': WHATEVER THE INPUT: true; the input reads as it did. -/
def walReadsSpec : ChangeSpec := { name := "walReads", fn := fun _ => fun
  | [d1, d2] => { results := [.lit (.bool true)], args := [d1, d2] }
  | _ => none }
def walReadsRow : OpenClaim := { program := "yteojmnnobmpdiaa", sum := "2756a4aae18151003c748040236162f194bfe73b0d2ddc714b9658593691dace", func := "sediment/sedimentlaw05.WalReads", spec := "walReads", unfollowed := true, recurses := true, apart := false }
def WalReadsSaid : Prop := walReadsRow.holds Try.pinned (OpenSpec.ofChange walReadsSpec)

/-- ITS FALSE NEIGHBOUR: 'it returns false'. Refute it at one input. -/
def walReadsWrong : ChangeSpec := { name := "walReads", fn := fun _ => fun
  | [d1, d2] => { results := [.lit (.bool false)], args := [d1, d2] }
  | _ => none }
def WalReadsWrongFalsely : Prop := walReadsRow.holds Try.pinned (OpenSpec.ofChange walReadsWrong)

/-- 'sedimentlaw22.SnapsRefs': WHATEVER THE INPUT: true; the input reads as it did. -/
def snapsRefsSpec : ChangeSpec := { name := "snapsRefs", fn := fun _ => fun
  | [d] => { results := [.lit (.bool true)], args := [d] }
  | _ => none }
def snapsRefsRow : OpenClaim := { program := "yteojmnnobmpdiaa", sum := "2756a4aae18151003c748040236162f194bfe73b0d2ddc714b9658593691dace", func := "sediment/sedimentlaw22.SnapsRefs", spec := "snapsRefs", unfollowed := true, recurses := true, apart := false }
def SnapsRefsSaid : Prop := snapsRefsRow.holds Try.pinned (OpenSpec.ofChange snapsRefsSpec)

/-- ITS FALSE NEIGHBOUR: 'it returns false'. Refute it at one input. -/
def snapsRefsWrong : ChangeSpec := { name := "snapsRefs", fn := fun _ => fun
  | [d] => { results := [.lit (.bool false)], args := [d] }
  | _ => none }
def SnapsRefsWrongFalsely : Prop := snapsRefsRow.holds Try.pinned (OpenSpec.ofChange snapsRefsWrong)

/-- 'sedimentlaw22.SnapsHeld': WHATEVER THE INPUT: true; the input reads as it did. -/
def snapsHeldSpec : ChangeSpec := { name := "snapsHeld", fn := fun _ => fun
  | [d1, d2, d3] => { results := [.lit (.bool true)], args := [d1, d2, d3] }
  | _ => none }
def snapsHeldRow : OpenClaim := { program := "yteojmnnobmpdiaa", sum := "2756a4aae18151003c748040236162f194bfe73b0d2ddc714b9658593691dace", func := "sediment/sedimentlaw22.SnapsHeld", spec := "snapsHeld", unfollowed := true, recurses := true, apart := false }
def SnapsHeldSaid : Prop := snapsHeldRow.holds Try.pinned (OpenSpec.ofChange snapsHeldSpec)

/-- ITS FALSE NEIGHBOUR: 'it returns false'. Refute it at one input. -/
def snapsHeldWrong : ChangeSpec := { name := "snapsHeld", fn := fun _ => fun
  | [d1, d2, d3] => { results := [.lit (.bool false)], args := [d1, d2, d3] }
  | _ => none }
def SnapsHeldWrongFalsely : Prop := snapsHeldRow.holds Try.pinned (OpenSpec.ofChange snapsHeldWrong)

/-- 'sedimentlaw22.SnapsAll': WHATEVER THE INPUT: true; the input reads as it did. -/
def snapsAllSpec : ChangeSpec := { name := "snapsAll", fn := fun _ => fun
  | [d] => { results := [.lit (.bool true)], args := [d] }
  | _ => none }
def snapsAllRow : OpenClaim := { program := "yteojmnnobmpdiaa", sum := "2756a4aae18151003c748040236162f194bfe73b0d2ddc714b9658593691dace", func := "sediment/sedimentlaw22.SnapsAll", spec := "snapsAll", unfollowed := true, recurses := true, apart := false }
def SnapsAllSaid : Prop := snapsAllRow.holds Try.pinned (OpenSpec.ofChange snapsAllSpec)

/-- ITS FALSE NEIGHBOUR: 'it returns false'. Refute it at one input. -/
def snapsAllWrong : ChangeSpec := { name := "snapsAll", fn := fun _ => fun
  | [d] => { results := [.lit (.bool false)], args := [d] }
  | _ => none }
def SnapsAllWrongFalsely : Prop := snapsAllRow.holds Try.pinned (OpenSpec.ofChange snapsAllWrong)

/-- 'sedimentlaw22.SnapsCounted': WHATEVER THE INPUT: true; the input reads as it did. -/
def snapsCountedSpec : ChangeSpec := { name := "snapsCounted", fn := fun _ => fun
  | [d] => { results := [.lit (.bool true)], args := [d] }
  | _ => none }
def snapsCountedRow : OpenClaim := { program := "yteojmnnobmpdiaa", sum := "2756a4aae18151003c748040236162f194bfe73b0d2ddc714b9658593691dace", func := "sediment/sedimentlaw22.SnapsCounted", spec := "snapsCounted", unfollowed := true, recurses := true, apart := false }
def SnapsCountedSaid : Prop := snapsCountedRow.holds Try.pinned (OpenSpec.ofChange snapsCountedSpec)

/-- ITS FALSE NEIGHBOUR: 'it returns false'. Refute it at one input. -/
def snapsCountedWrong : ChangeSpec := { name := "snapsCounted", fn := fun _ => fun
  | [d] => { results := [.lit (.bool false)], args := [d] }
  | _ => none }
def SnapsCountedWrongFalsely : Prop := snapsCountedRow.holds Try.pinned (OpenSpec.ofChange snapsCountedWrong)

/- THE SECOND FORM. 'bulk': how many values and letters a reading holds, each counted each time it is reached (what is shared counts as often as it is met; a slice's spare places count too). A statement '..UptoSaid' is the law's where the arguments, and the package variables that the reading takes, are together of bulk at most 1048576: NARROWER than '..Said'. Prove '..Said' where nothing that the law and all that it calls make is longer than what came in: it says more and counts as full. Else prove '..UptoSaid'. A law counts once. -/
mutual
def uptoBulk {H : Type} : DataW H → Nat
  | .lit (.string bytes) => bytes.length + 1
  | .lit _ => 1
  | .nil => 1
  | .ptr d => uptoBulk d + 1
  | .slice elems spare => uptoBulkAll elems + uptoBulkAll spare + 1
  | .agg parts => uptoBulkAll parts + 1
  | .iface _ d => uptoBulk d + 1
  | .map entries => uptoBulkEntries entries + 1
  | .held _ => 1
def uptoBulkAll {H : Type} : List (DataW H) → Nat
  | [] => 0
  | d :: r => uptoBulk d + uptoBulkAll r
def uptoBulkEntries {H : Type} : List (Lit × DataW H) → Nat
  | [] => 0
  | x :: r => uptoBulkEntry x + uptoBulkEntries r
def uptoBulkEntry {H : Type} : Lit × DataW H → Nat
  | (.string bytes, d) => bytes.length + uptoBulk d + 1
  | (_, d) => uptoBulk d + 1
 end
def uptoSmall : (H : Type) → List (DataW H) → Bool := fun _ ds => decide (uptoBulkAll ds ≤ 1048576)
def OpenSpec.upto (s : _root_.Go.ChangeSpec) : _root_.Go.OpenSpec := { _root_.Go.OpenSpec.ofChange s with cond := some uptoSmall }

/-- 'sedimentlaw11.CacheRoom', WHERE WHAT IT READS IS OF BULK AT MOST 1048576: true; the input reads as it did. -/
def cacheRoomUptoRow : OpenClaim := { program := "yteojmnnobmpdiaa", sum := "2756a4aae18151003c748040236162f194bfe73b0d2ddc714b9658593691dace", func := "sediment/sedimentlaw11.CacheRoom", spec := "cacheRoom", unfollowed := true, recurses := true, apart := false, narrowed := true }
def CacheRoomUptoSaid : Prop := cacheRoomUptoRow.holds Try.pinned (OpenSpec.upto cacheRoomSpec)

/-- 'sedimentlaw11.CacheApart', WHERE WHAT IT READS IS OF BULK AT MOST 1048576: true; the input reads as it did. -/
def cacheApartUptoRow : OpenClaim := { program := "yteojmnnobmpdiaa", sum := "2756a4aae18151003c748040236162f194bfe73b0d2ddc714b9658593691dace", func := "sediment/sedimentlaw11.CacheApart", spec := "cacheApart", unfollowed := true, recurses := true, apart := false, narrowed := true }
def CacheApartUptoSaid : Prop := cacheApartUptoRow.holds Try.pinned (OpenSpec.upto cacheApartSpec)

/-- 'sedimentlaw11.CachePinned', WHERE WHAT IT READS IS OF BULK AT MOST 1048576: true; the input reads as it did. -/
def cachePinnedUptoRow : OpenClaim := { program := "yteojmnnobmpdiaa", sum := "2756a4aae18151003c748040236162f194bfe73b0d2ddc714b9658593691dace", func := "sediment/sedimentlaw11.CachePinned", spec := "cachePinned", unfollowed := true, recurses := true, apart := false, narrowed := true }
def CachePinnedUptoSaid : Prop := cachePinnedUptoRow.holds Try.pinned (OpenSpec.upto cachePinnedSpec)

/-- 'sedimentlaw11.CacheActs', WHERE WHAT IT READS IS OF BULK AT MOST 1048576: true; the input reads as it did. -/
def cacheActsUptoRow : OpenClaim := { program := "yteojmnnobmpdiaa", sum := "2756a4aae18151003c748040236162f194bfe73b0d2ddc714b9658593691dace", func := "sediment/sedimentlaw11.CacheActs", spec := "cacheActs", unfollowed := true, recurses := true, apart := false, narrowed := true }
def CacheActsUptoSaid : Prop := cacheActsUptoRow.holds Try.pinned (OpenSpec.upto cacheActsSpec)

/-- 'sedimentlaw05.WalReads', WHERE WHAT IT READS IS OF BULK AT MOST 1048576: true; the input reads as it did. -/
def walReadsUptoRow : OpenClaim := { program := "yteojmnnobmpdiaa", sum := "2756a4aae18151003c748040236162f194bfe73b0d2ddc714b9658593691dace", func := "sediment/sedimentlaw05.WalReads", spec := "walReads", unfollowed := true, recurses := true, apart := false, narrowed := true }
def WalReadsUptoSaid : Prop := walReadsUptoRow.holds Try.pinned (OpenSpec.upto walReadsSpec)

/-- 'sedimentlaw22.SnapsRefs', WHERE WHAT IT READS IS OF BULK AT MOST 1048576: true; the input reads as it did. -/
def snapsRefsUptoRow : OpenClaim := { program := "yteojmnnobmpdiaa", sum := "2756a4aae18151003c748040236162f194bfe73b0d2ddc714b9658593691dace", func := "sediment/sedimentlaw22.SnapsRefs", spec := "snapsRefs", unfollowed := true, recurses := true, apart := false, narrowed := true }
def SnapsRefsUptoSaid : Prop := snapsRefsUptoRow.holds Try.pinned (OpenSpec.upto snapsRefsSpec)

/-- 'sedimentlaw22.SnapsHeld', WHERE WHAT IT READS IS OF BULK AT MOST 1048576: true; the input reads as it did. -/
def snapsHeldUptoRow : OpenClaim := { program := "yteojmnnobmpdiaa", sum := "2756a4aae18151003c748040236162f194bfe73b0d2ddc714b9658593691dace", func := "sediment/sedimentlaw22.SnapsHeld", spec := "snapsHeld", unfollowed := true, recurses := true, apart := false, narrowed := true }
def SnapsHeldUptoSaid : Prop := snapsHeldUptoRow.holds Try.pinned (OpenSpec.upto snapsHeldSpec)

/-- 'sedimentlaw22.SnapsAll', WHERE WHAT IT READS IS OF BULK AT MOST 1048576: true; the input reads as it did. -/
def snapsAllUptoRow : OpenClaim := { program := "yteojmnnobmpdiaa", sum := "2756a4aae18151003c748040236162f194bfe73b0d2ddc714b9658593691dace", func := "sediment/sedimentlaw22.SnapsAll", spec := "snapsAll", unfollowed := true, recurses := true, apart := false, narrowed := true }
def SnapsAllUptoSaid : Prop := snapsAllUptoRow.holds Try.pinned (OpenSpec.upto snapsAllSpec)

/-- 'sedimentlaw22.SnapsCounted', WHERE WHAT IT READS IS OF BULK AT MOST 1048576: true; the input reads as it did. -/
def snapsCountedUptoRow : OpenClaim := { program := "yteojmnnobmpdiaa", sum := "2756a4aae18151003c748040236162f194bfe73b0d2ddc714b9658593691dace", func := "sediment/sedimentlaw22.SnapsCounted", spec := "snapsCounted", unfollowed := true, recurses := true, apart := false, narrowed := true }
def SnapsCountedUptoSaid : Prop := snapsCountedUptoRow.holds Try.pinned (OpenSpec.upto snapsCountedSpec)

end Rows
end Go.Proofs.Yteojmnnobmpdiaa
