/-
  No cell of these rows narrows 'for every input' (looked for: loops, veiled, ifaces, maps, wideKeys, modest, calm, conditions, laid).
  DERIVED. THE GIVEN ROWS OF THIS SEAT. 7 by the template 'for every input the law returns true; each argument reads behind the call as it read before'; 0 by the template 'total and deterministic' (their statements: YtkhmoopgjgokcaaTotals.lean).
  GIVEN WITH THE SEED: the statements are not yours to turn. If you find one false, say at which input.
  Laid BY PROGRAM, IN A SANDBOX (cutbox-rows.mjs): the forced cells as the released guide's own fill.sh prints them over the translation 500099820bb1b329… (all of the seat's roots in one cut). By AI agents, Wed Nov 11 2026. No macro, syntax, notation, axiom, sorry.
-/
import Derived.Test.YtkhmoopgjgokcaaChecked
import GoSem.Claim
import GoSem.ClaimJoined
import GoSem.ClaimMapViews
import Derived.JoinedTies
import Derived.KernelRfl
namespace Go.Proofs.Ytkhmoopgjgokcaa
/- THE CELL 'sum', in the pinned program and in every row, IS THE sha256 OF THE DUMP (.gsa) THAT YtkhmoopgjgokcaaProg.lean LOADS. Nothing in Lean hashes anything: it is a label: what it is worth is what the hold of that sum in a sandbox is worth. -/
noncomputable def Try.pinned : Pinned := { name := "ytkhmoopgjgokcaa", sum := "500099820bb1b329970c387604800de63a72263fef865d34da9d0d9d3316bce9", checked := Try.checked }
namespace Rows
def none {H : Type} : Left H := { results := [], args := [] }

/-- 'junctionlaw15.WatchLamps': WHATEVER THE INPUT: true; the input reads as it did. -/
def watchLampsSpec : ChangeSpec := { name := "watchLamps", fn := fun _ => fun
  | [d1, d2, d3] => { results := [.lit (.bool true)], args := [d1, d2, d3] }
  | _ => none }
def watchLampsRow : OpenClaim := { program := "ytkhmoopgjgokcaa", sum := "500099820bb1b329970c387604800de63a72263fef865d34da9d0d9d3316bce9", func := "junction/junctionlaw15.WatchLamps", spec := "watchLamps", inPlace := ["internal/abi.NoEscape", "internal/bytealg.MakeNoZero"], apart := false }
def WatchLampsSaid : Prop := watchLampsRow.holds Try.pinned (OpenSpec.ofChange watchLampsSpec)

/-- ITS FALSE NEIGHBOUR: 'it returns false'. Refute it at one input. -/
def watchLampsWrong : ChangeSpec := { name := "watchLamps", fn := fun _ => fun
  | [d1, d2, d3] => { results := [.lit (.bool false)], args := [d1, d2, d3] }
  | _ => none }
def WatchLampsWrongFalsely : Prop := watchLampsRow.holds Try.pinned (OpenSpec.ofChange watchLampsWrong)

/-- 'junctionlaw15.WatchFeeds': WHATEVER THE INPUT: true; the input reads as it did. -/
def watchFeedsSpec : ChangeSpec := { name := "watchFeeds", fn := fun _ => fun
  | [d1, d2, d3] => { results := [.lit (.bool true)], args := [d1, d2, d3] }
  | _ => none }
def watchFeedsRow : OpenClaim := { program := "ytkhmoopgjgokcaa", sum := "500099820bb1b329970c387604800de63a72263fef865d34da9d0d9d3316bce9", func := "junction/junctionlaw15.WatchFeeds", spec := "watchFeeds", inPlace := ["internal/bytealg.IndexByteString"], unfollowed := true, recurses := true, leaving := true, apart := false }
def WatchFeedsSaid : Prop := watchFeedsRow.holds Try.pinned (OpenSpec.ofChange watchFeedsSpec)

/-- ITS FALSE NEIGHBOUR: 'it returns false'. Refute it at one input. -/
def watchFeedsWrong : ChangeSpec := { name := "watchFeeds", fn := fun _ => fun
  | [d1, d2, d3] => { results := [.lit (.bool false)], args := [d1, d2, d3] }
  | _ => none }
def WatchFeedsWrongFalsely : Prop := watchFeedsRow.holds Try.pinned (OpenSpec.ofChange watchFeedsWrong)

/-- 'junctionlaw15.WatchAudits': WHATEVER THE INPUT: true; the input reads as it did. -/
def watchAuditsSpec : ChangeSpec := { name := "watchAudits", fn := fun _ => fun
  | [d1, d2] => { results := [.lit (.bool true)], args := [d1, d2] }
  | _ => none }
def watchAuditsRow : OpenClaim := { program := "ytkhmoopgjgokcaa", sum := "500099820bb1b329970c387604800de63a72263fef865d34da9d0d9d3316bce9", func := "junction/junctionlaw15.WatchAudits", spec := "watchAudits", inPlace := ["internal/bytealg.IndexByteString", "(*sync.WaitGroup).Add", "internal/race.ReleaseMerge", "internal/race.Disable", "internal/race.Enable", "internal/synctest.IsInBubble", "internal/synctest.Associate[sync.WaitGroup]", "sync.fatal", "sync/atomic.OrUint64", "sync/atomic.AddUint64", "internal/race.Read", "sync/atomic.LoadUint64", "sync/atomic.StoreUint64", "internal/synctest.Disassociate[sync.WaitGroup]", "sync.runtime_Semrelease", "(*sync.WaitGroup).Done", "(*sync.WaitGroup).Wait", "internal/race.Acquire", "internal/synctest.IsAssociated[sync.WaitGroup]", "sync/atomic.CompareAndSwapUint64", "internal/race.Write", "sync.runtime_SemacquireWaitGroup"], unfollowed := true, recurses := true, leaving := true, apart := false }
def WatchAuditsSaid : Prop := watchAuditsRow.holds Try.pinned (OpenSpec.ofChange watchAuditsSpec)

/-- ITS FALSE NEIGHBOUR: 'it returns false'. Refute it at one input. -/
def watchAuditsWrong : ChangeSpec := { name := "watchAudits", fn := fun _ => fun
  | [d1, d2] => { results := [.lit (.bool false)], args := [d1, d2] }
  | _ => none }
def WatchAuditsWrongFalsely : Prop := watchAuditsRow.holds Try.pinned (OpenSpec.ofChange watchAuditsWrong)

/-- 'junctionlaw15.WatchSafe': WHATEVER THE INPUT: true; the input reads as it did. -/
def watchSafeSpec : ChangeSpec := { name := "watchSafe", fn := fun _ => fun
  | [d1, d2] => { results := [.lit (.bool true)], args := [d1, d2] }
  | _ => none }
def watchSafeRow : OpenClaim := { program := "ytkhmoopgjgokcaa", sum := "500099820bb1b329970c387604800de63a72263fef865d34da9d0d9d3316bce9", func := "junction/junctionlaw15.WatchSafe", spec := "watchSafe", inPlace := ["internal/bytealg.IndexByteString", "(*sync.WaitGroup).Add", "internal/race.ReleaseMerge", "internal/race.Disable", "internal/race.Enable", "internal/synctest.IsInBubble", "internal/synctest.Associate[sync.WaitGroup]", "sync.fatal", "sync/atomic.OrUint64", "sync/atomic.AddUint64", "internal/race.Read", "sync/atomic.LoadUint64", "sync/atomic.StoreUint64", "internal/synctest.Disassociate[sync.WaitGroup]", "sync.runtime_Semrelease", "(*sync.WaitGroup).Done", "(*sync.WaitGroup).Wait", "internal/race.Acquire", "internal/synctest.IsAssociated[sync.WaitGroup]", "sync/atomic.CompareAndSwapUint64", "internal/race.Write", "sync.runtime_SemacquireWaitGroup"], unfollowed := true, recurses := true, leaving := true, apart := false }
def WatchSafeSaid : Prop := watchSafeRow.holds Try.pinned (OpenSpec.ofChange watchSafeSpec)

/-- ITS FALSE NEIGHBOUR: 'it returns false'. Refute it at one input. -/
def watchSafeWrong : ChangeSpec := { name := "watchSafe", fn := fun _ => fun
  | [d1, d2] => { results := [.lit (.bool false)], args := [d1, d2] }
  | _ => none }
def WatchSafeWrongFalsely : Prop := watchSafeRow.holds Try.pinned (OpenSpec.ofChange watchSafeWrong)

/-- 'junctionlaw15.WatchFed': WHATEVER THE INPUT: true; the input reads as it did. -/
def watchFedSpec : ChangeSpec := { name := "watchFed", fn := fun _ => fun
  | [d1, d2] => { results := [.lit (.bool true)], args := [d1, d2] }
  | _ => none }
def watchFedRow : OpenClaim := { program := "ytkhmoopgjgokcaa", sum := "500099820bb1b329970c387604800de63a72263fef865d34da9d0d9d3316bce9", func := "junction/junctionlaw15.WatchFed", spec := "watchFed", inPlace := ["internal/bytealg.IndexByteString", "(*sync.WaitGroup).Add", "internal/race.ReleaseMerge", "internal/race.Disable", "internal/race.Enable", "internal/synctest.IsInBubble", "internal/synctest.Associate[sync.WaitGroup]", "sync.fatal", "sync/atomic.OrUint64", "sync/atomic.AddUint64", "internal/race.Read", "sync/atomic.LoadUint64", "sync/atomic.StoreUint64", "internal/synctest.Disassociate[sync.WaitGroup]", "sync.runtime_Semrelease", "(*sync.WaitGroup).Done", "(*sync.WaitGroup).Wait", "internal/race.Acquire", "internal/synctest.IsAssociated[sync.WaitGroup]", "sync/atomic.CompareAndSwapUint64", "internal/race.Write", "sync.runtime_SemacquireWaitGroup"], unfollowed := true, recurses := true, leaving := true, apart := false }
def WatchFedSaid : Prop := watchFedRow.holds Try.pinned (OpenSpec.ofChange watchFedSpec)

/-- ITS FALSE NEIGHBOUR: 'it returns false'. Refute it at one input. -/
def watchFedWrong : ChangeSpec := { name := "watchFed", fn := fun _ => fun
  | [d1, d2] => { results := [.lit (.bool false)], args := [d1, d2] }
  | _ => none }
def WatchFedWrongFalsely : Prop := watchFedRow.holds Try.pinned (OpenSpec.ofChange watchFedWrong)

/-- 'junctionlaw15.WatchSeams': WHATEVER THE INPUT: true; the input reads as it did. -/
def watchSeamsSpec : ChangeSpec := { name := "watchSeams", fn := fun _ => fun
  | [d1, d2, d3] => { results := [.lit (.bool true)], args := [d1, d2, d3] }
  | _ => none }
def watchSeamsRow : OpenClaim := { program := "ytkhmoopgjgokcaa", sum := "500099820bb1b329970c387604800de63a72263fef865d34da9d0d9d3316bce9", func := "junction/junctionlaw15.WatchSeams", spec := "watchSeams", inPlace := ["internal/bytealg.IndexByteString", "(*sync.WaitGroup).Add", "internal/race.ReleaseMerge", "internal/race.Disable", "internal/race.Enable", "internal/synctest.IsInBubble", "internal/synctest.Associate[sync.WaitGroup]", "sync.fatal", "sync/atomic.OrUint64", "sync/atomic.AddUint64", "internal/race.Read", "sync/atomic.LoadUint64", "sync/atomic.StoreUint64", "internal/synctest.Disassociate[sync.WaitGroup]", "sync.runtime_Semrelease", "(*sync.WaitGroup).Done", "(*sync.WaitGroup).Wait", "internal/race.Acquire", "internal/synctest.IsAssociated[sync.WaitGroup]", "sync/atomic.CompareAndSwapUint64", "internal/race.Write", "sync.runtime_SemacquireWaitGroup"], unfollowed := true, recurses := true, leaving := true, apart := false }
def WatchSeamsSaid : Prop := watchSeamsRow.holds Try.pinned (OpenSpec.ofChange watchSeamsSpec)

/-- ITS FALSE NEIGHBOUR: 'it returns false'. Refute it at one input. -/
def watchSeamsWrong : ChangeSpec := { name := "watchSeams", fn := fun _ => fun
  | [d1, d2, d3] => { results := [.lit (.bool false)], args := [d1, d2, d3] }
  | _ => none }
def WatchSeamsWrongFalsely : Prop := watchSeamsRow.holds Try.pinned (OpenSpec.ofChange watchSeamsWrong)

/-- 'junctionlaw15.WatchHeads': WHATEVER THE INPUT: true; the input reads as it did. -/
def watchHeadsSpec : ChangeSpec := { name := "watchHeads", fn := fun _ => fun
  | [d1, d2, d3, d4, d5] => { results := [.lit (.bool true)], args := [d1, d2, d3, d4, d5] }
  | _ => none }
def watchHeadsRow : OpenClaim := { program := "ytkhmoopgjgokcaa", sum := "500099820bb1b329970c387604800de63a72263fef865d34da9d0d9d3316bce9", func := "junction/junctionlaw15.WatchHeads", spec := "watchHeads", inPlace := ["internal/bytealg.IndexByteString", "(*sync.WaitGroup).Add", "internal/race.ReleaseMerge", "internal/race.Disable", "internal/race.Enable", "internal/synctest.IsInBubble", "internal/synctest.Associate[sync.WaitGroup]", "sync.fatal", "sync/atomic.OrUint64", "sync/atomic.AddUint64", "internal/race.Read", "sync/atomic.LoadUint64", "sync/atomic.StoreUint64", "internal/synctest.Disassociate[sync.WaitGroup]", "sync.runtime_Semrelease", "(*sync.WaitGroup).Done", "(*sync.WaitGroup).Wait", "internal/race.Acquire", "internal/synctest.IsAssociated[sync.WaitGroup]", "sync/atomic.CompareAndSwapUint64", "internal/race.Write", "sync.runtime_SemacquireWaitGroup"], unfollowed := true, recurses := true, leaving := true, apart := false }
def WatchHeadsSaid : Prop := watchHeadsRow.holds Try.pinned (OpenSpec.ofChange watchHeadsSpec)

/-- ITS FALSE NEIGHBOUR: 'it returns false'. Refute it at one input. -/
def watchHeadsWrong : ChangeSpec := { name := "watchHeads", fn := fun _ => fun
  | [d1, d2, d3, d4, d5] => { results := [.lit (.bool false)], args := [d1, d2, d3, d4, d5] }
  | _ => none }
def WatchHeadsWrongFalsely : Prop := watchHeadsRow.holds Try.pinned (OpenSpec.ofChange watchHeadsWrong)

/- THE SECOND FORM. 'bulk': how many values and letters a reading holds, each counted each time it is reached (what is shared counts as often as it is met; a slice's spare places count too). A statement '..UptoSaid' is the law's where the arguments, and the package variables that the reading takes, are together of bulk at most 1048576: NARROWER than '..Said'. Prove '..Said' where nothing that the law and all that it calls make is longer than what came in: it says more and counts as full. Else prove '..UptoSaid'. A law counts once. -/
mutual
def uptoBulk {H : Type} : DataW H → Nat
  | .lit (.string bytes) => bytes.length + 1
  | .lit _ => 1
  | .nil => 1
  | .ptr d => uptoBulk d + 1
  | .slice elems spare => uptoBulkAll elems + uptoBulkAll spare + 1
  | .agg parts => uptoBulkAll parts + 1
  | .iface _ d => uptoBulk d + 1
  | .map entries => uptoBulkEntries entries + 1
  | .held _ => 1
def uptoBulkAll {H : Type} : List (DataW H) → Nat
  | [] => 0
  | d :: r => uptoBulk d + uptoBulkAll r
def uptoBulkEntries {H : Type} : List (Lit × DataW H) → Nat
  | [] => 0
  | x :: r => uptoBulkEntry x + uptoBulkEntries r
def uptoBulkEntry {H : Type} : Lit × DataW H → Nat
  | (.string bytes, d) => bytes.length + uptoBulk d + 1
  | (_, d) => uptoBulk d + 1
 end
def uptoSmall : (H : Type) → List (DataW H) → Bool := fun _ ds => decide (uptoBulkAll ds ≤ 1048576)
def OpenSpec.upto (s : _root_.Go.ChangeSpec) : _root_.Go.OpenSpec := { _root_.Go.OpenSpec.ofChange s with cond := some uptoSmall }

/-- 'junctionlaw15.WatchLamps', WHERE WHAT IT READS IS OF BULK AT MOST 1048576: true; the input reads as it did. -/
def watchLampsUptoRow : OpenClaim := { program := "ytkhmoopgjgokcaa", sum := "500099820bb1b329970c387604800de63a72263fef865d34da9d0d9d3316bce9", func := "junction/junctionlaw15.WatchLamps", spec := "watchLamps", inPlace := ["internal/abi.NoEscape", "internal/bytealg.MakeNoZero"], apart := false, narrowed := true }
def WatchLampsUptoSaid : Prop := watchLampsUptoRow.holds Try.pinned (OpenSpec.upto watchLampsSpec)

/-- 'junctionlaw15.WatchFeeds', WHERE WHAT IT READS IS OF BULK AT MOST 1048576: true; the input reads as it did. -/
def watchFeedsUptoRow : OpenClaim := { program := "ytkhmoopgjgokcaa", sum := "500099820bb1b329970c387604800de63a72263fef865d34da9d0d9d3316bce9", func := "junction/junctionlaw15.WatchFeeds", spec := "watchFeeds", inPlace := ["internal/bytealg.IndexByteString"], unfollowed := true, recurses := true, leaving := true, apart := false, narrowed := true }
def WatchFeedsUptoSaid : Prop := watchFeedsUptoRow.holds Try.pinned (OpenSpec.upto watchFeedsSpec)

/-- 'junctionlaw15.WatchAudits', WHERE WHAT IT READS IS OF BULK AT MOST 1048576: true; the input reads as it did. -/
def watchAuditsUptoRow : OpenClaim := { program := "ytkhmoopgjgokcaa", sum := "500099820bb1b329970c387604800de63a72263fef865d34da9d0d9d3316bce9", func := "junction/junctionlaw15.WatchAudits", spec := "watchAudits", inPlace := ["internal/bytealg.IndexByteString", "(*sync.WaitGroup).Add", "internal/race.ReleaseMerge", "internal/race.Disable", "internal/race.Enable", "internal/synctest.IsInBubble", "internal/synctest.Associate[sync.WaitGroup]", "sync.fatal", "sync/atomic.OrUint64", "sync/atomic.AddUint64", "internal/race.Read", "sync/atomic.LoadUint64", "sync/atomic.StoreUint64", "internal/synctest.Disassociate[sync.WaitGroup]", "sync.runtime_Semrelease", "(*sync.WaitGroup).Done", "(*sync.WaitGroup).Wait", "internal/race.Acquire", "internal/synctest.IsAssociated[sync.WaitGroup]", "sync/atomic.CompareAndSwapUint64", "internal/race.Write", "sync.runtime_SemacquireWaitGroup"], unfollowed := true, recurses := true, leaving := true, apart := false, narrowed := true }
def WatchAuditsUptoSaid : Prop := watchAuditsUptoRow.holds Try.pinned (OpenSpec.upto watchAuditsSpec)

/-- 'junctionlaw15.WatchSafe', WHERE WHAT IT READS IS OF BULK AT MOST 1048576: true; the input reads as it did. -/
def watchSafeUptoRow : OpenClaim := { program := "ytkhmoopgjgokcaa", sum := "500099820bb1b329970c387604800de63a72263fef865d34da9d0d9d3316bce9", func := "junction/junctionlaw15.WatchSafe", spec := "watchSafe", inPlace := ["internal/bytealg.IndexByteString", "(*sync.WaitGroup).Add", "internal/race.ReleaseMerge", "internal/race.Disable", "internal/race.Enable", "internal/synctest.IsInBubble", "internal/synctest.Associate[sync.WaitGroup]", "sync.fatal", "sync/atomic.OrUint64", "sync/atomic.AddUint64", "internal/race.Read", "sync/atomic.LoadUint64", "sync/atomic.StoreUint64", "internal/synctest.Disassociate[sync.WaitGroup]", "sync.runtime_Semrelease", "(*sync.WaitGroup).Done", "(*sync.WaitGroup).Wait", "internal/race.Acquire", "internal/synctest.IsAssociated[sync.WaitGroup]", "sync/atomic.CompareAndSwapUint64", "internal/race.Write", "sync.runtime_SemacquireWaitGroup"], unfollowed := true, recurses := true, leaving := true, apart := false, narrowed := true }
def WatchSafeUptoSaid : Prop := watchSafeUptoRow.holds Try.pinned (OpenSpec.upto watchSafeSpec)

/-- 'junctionlaw15.WatchFed', WHERE WHAT IT READS IS OF BULK AT MOST 1048576: true; the input reads as it did. -/
def watchFedUptoRow : OpenClaim := { program := "ytkhmoopgjgokcaa", sum := "500099820bb1b329970c387604800de63a72263fef865d34da9d0d9d3316bce9", func := "junction/junctionlaw15.WatchFed", spec := "watchFed", inPlace := ["internal/bytealg.IndexByteString", "(*sync.WaitGroup).Add", "internal/race.ReleaseMerge", "internal/race.Disable", "internal/race.Enable", "internal/synctest.IsInBubble", "internal/synctest.Associate[sync.WaitGroup]", "sync.fatal", "sync/atomic.OrUint64", "sync/atomic.AddUint64", "internal/race.Read", "sync/atomic.LoadUint64", "sync/atomic.StoreUint64", "internal/synctest.Disassociate[sync.WaitGroup]", "sync.runtime_Semrelease", "(*sync.WaitGroup).Done", "(*sync.WaitGroup).Wait", "internal/race.Acquire", "internal/synctest.IsAssociated[sync.WaitGroup]", "sync/atomic.CompareAndSwapUint64", "internal/race.Write", "sync.runtime_SemacquireWaitGroup"], unfollowed := true, recurses := true, leaving := true, apart := false, narrowed := true }
def WatchFedUptoSaid : Prop := watchFedUptoRow.holds Try.pinned (OpenSpec.upto watchFedSpec)

/-- 'junctionlaw15.WatchSeams', WHERE WHAT IT READS IS OF BULK AT MOST 1048576: true; the input reads as it did. -/
def watchSeamsUptoRow : OpenClaim := { program := "ytkhmoopgjgokcaa", sum := "500099820bb1b329970c387604800de63a72263fef865d34da9d0d9d3316bce9", func := "junction/junctionlaw15.WatchSeams", spec := "watchSeams", inPlace := ["internal/bytealg.IndexByteString", "(*sync.WaitGroup).Add", "internal/race.ReleaseMerge", "internal/race.Disable", "internal/race.Enable", "internal/synctest.IsInBubble", "internal/synctest.Associate[sync.WaitGroup]", "sync.fatal", "sync/atomic.OrUint64", "sync/atomic.AddUint64", "internal/race.Read", "sync/atomic.LoadUint64", "sync/atomic.StoreUint64", "internal/synctest.Disassociate[sync.WaitGroup]", "sync.runtime_Semrelease", "(*sync.WaitGroup).Done", "(*sync.WaitGroup).Wait", "internal/race.Acquire", "internal/synctest.IsAssociated[sync.WaitGroup]", "sync/atomic.CompareAndSwapUint64", "internal/race.Write", "sync.runtime_SemacquireWaitGroup"], unfollowed := true, recurses := true, leaving := true, apart := false, narrowed := true }
def WatchSeamsUptoSaid : Prop := watchSeamsUptoRow.holds Try.pinned (OpenSpec.upto watchSeamsSpec)

/-- 'junctionlaw15.WatchHeads', WHERE WHAT IT READS IS OF BULK AT MOST 1048576: true; the input reads as it did. -/
def watchHeadsUptoRow : OpenClaim := { program := "ytkhmoopgjgokcaa", sum := "500099820bb1b329970c387604800de63a72263fef865d34da9d0d9d3316bce9", func := "junction/junctionlaw15.WatchHeads", spec := "watchHeads", inPlace := ["internal/bytealg.IndexByteString", "(*sync.WaitGroup).Add", "internal/race.ReleaseMerge", "internal/race.Disable", "internal/race.Enable", "internal/synctest.IsInBubble", "internal/synctest.Associate[sync.WaitGroup]", "sync.fatal", "sync/atomic.OrUint64", "sync/atomic.AddUint64", "internal/race.Read", "sync/atomic.LoadUint64", "sync/atomic.StoreUint64", "internal/synctest.Disassociate[sync.WaitGroup]", "sync.runtime_Semrelease", "(*sync.WaitGroup).Done", "(*sync.WaitGroup).Wait", "internal/race.Acquire", "internal/synctest.IsAssociated[sync.WaitGroup]", "sync/atomic.CompareAndSwapUint64", "internal/race.Write", "sync.runtime_SemacquireWaitGroup"], unfollowed := true, recurses := true, leaving := true, apart := false, narrowed := true }
def WatchHeadsUptoSaid : Prop := watchHeadsUptoRow.holds Try.pinned (OpenSpec.upto watchHeadsSpec)

end Rows
end Go.Proofs.Ytkhmoopgjgokcaa
