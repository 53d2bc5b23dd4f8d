/-
  No cell of these rows narrows 'for every input' (looked for: loops, veiled, ifaces, maps, wideKeys, modest, calm, conditions, laid).
  DERIVED. THE GIVEN ROWS OF THIS SEAT. 2 by the template 'for every input the law returns true; each argument reads behind the call as it read before'; 0 by the template 'total and deterministic' (their statements: YtdgempbldhdihaaTotals.lean).
  GIVEN WITH THE SEED: the statements are not yours to turn. If you find one false, say at which input.
  Laid BY PROGRAM, IN A SANDBOX (cutbox-rows.mjs): the forced cells as the released guide's own fill.sh prints them over the translation 0cdbb9ec45a29d9d… (all of the seat's roots in one cut). By AI agents, Wed Nov 11 2026. No macro, syntax, notation, axiom, sorry.
-/
import Derived.Test.YtdgempbldhdihaaChecked
import GoSem.Claim
import GoSem.ClaimJoined
import GoSem.ClaimMapViews
import Derived.JoinedTies
import Derived.KernelRfl
namespace Go.Proofs.Ytdgempbldhdihaa
/- THE CELL 'sum', in the pinned program and in every row, IS THE sha256 OF THE DUMP (.gsa) THAT YtdgempbldhdihaaProg.lean LOADS. Nothing in Lean hashes anything: it is a label: what it is worth is what the hold of that sum in a sandbox is worth. -/
noncomputable def Try.pinned : Pinned := { name := "ytdgempbldhdihaa", sum := "0cdbb9ec45a29d9ddf191dd695435c766bf69439143f84aaf8289db8744d3b9e", checked := Try.checked }
namespace Rows
def none {H : Type} : Left H := { results := [], args := [] }

/-- 'junctionlaw6.SafetyClashes': WHATEVER THE INPUT: true; the input reads as it did. -/
def safetyClashesSpec : ChangeSpec := { name := "safetyClashes", fn := fun _ => fun
  | [d1, d2] => { results := [.lit (.bool true)], args := [d1, d2] }
  | _ => none }
def safetyClashesRow : OpenClaim := { program := "ytdgempbldhdihaa", sum := "0cdbb9ec45a29d9ddf191dd695435c766bf69439143f84aaf8289db8744d3b9e", func := "junction/junctionlaw6.SafetyClashes", spec := "safetyClashes", plainKeys := false, apart := false }
def SafetyClashesSaid : Prop := safetyClashesRow.holds Try.pinned (OpenSpec.ofChange safetyClashesSpec)

/-- ITS FALSE NEIGHBOUR: 'it returns false'. Refute it at one input. -/
def safetyClashesWrong : ChangeSpec := { name := "safetyClashes", fn := fun _ => fun
  | [d1, d2] => { results := [.lit (.bool false)], args := [d1, d2] }
  | _ => none }
def SafetyClashesWrongFalsely : Prop := safetyClashesRow.holds Try.pinned (OpenSpec.ofChange safetyClashesWrong)

/-- 'junctionlaw6.SafetyInters': WHATEVER THE INPUT: true; the input reads as it did. -/
def safetyIntersSpec : ChangeSpec := { name := "safetyInters", fn := fun _ => fun
  | [d1, d2, d3] => { results := [.lit (.bool true)], args := [d1, d2, d3] }
  | _ => none }
def safetyIntersRow : OpenClaim := { program := "ytdgempbldhdihaa", sum := "0cdbb9ec45a29d9ddf191dd695435c766bf69439143f84aaf8289db8744d3b9e", func := "junction/junctionlaw6.SafetyInters", spec := "safetyInters", unfollowed := true, recurses := true, plainKeys := false, apart := false }
def SafetyIntersSaid : Prop := safetyIntersRow.holds Try.pinned (OpenSpec.ofChange safetyIntersSpec)

/-- ITS FALSE NEIGHBOUR: 'it returns false'. Refute it at one input. -/
def safetyIntersWrong : ChangeSpec := { name := "safetyInters", fn := fun _ => fun
  | [d1, d2, d3] => { results := [.lit (.bool false)], args := [d1, d2, d3] }
  | _ => none }
def SafetyIntersWrongFalsely : Prop := safetyIntersRow.holds Try.pinned (OpenSpec.ofChange safetyIntersWrong)

/- THE SECOND FORM. 'bulk': how many values and letters a reading holds, each counted each time it is reached (what is shared counts as often as it is met; a slice's spare places count too). A statement '..UptoSaid' is the law's where the arguments, and the package variables that the reading takes, are together of bulk at most 1048576: NARROWER than '..Said'. Prove '..Said' where nothing that the law and all that it calls make is longer than what came in: it says more and counts as full. Else prove '..UptoSaid'. A law counts once. -/
mutual
def uptoBulk {H : Type} : DataW H → Nat
  | .lit (.string bytes) => bytes.length + 1
  | .lit _ => 1
  | .nil => 1
  | .ptr d => uptoBulk d + 1
  | .slice elems spare => uptoBulkAll elems + uptoBulkAll spare + 1
  | .agg parts => uptoBulkAll parts + 1
  | .iface _ d => uptoBulk d + 1
  | .map entries => uptoBulkEntries entries + 1
  | .held _ => 1
def uptoBulkAll {H : Type} : List (DataW H) → Nat
  | [] => 0
  | d :: r => uptoBulk d + uptoBulkAll r
def uptoBulkEntries {H : Type} : List (Lit × DataW H) → Nat
  | [] => 0
  | x :: r => uptoBulkEntry x + uptoBulkEntries r
def uptoBulkEntry {H : Type} : Lit × DataW H → Nat
  | (.string bytes, d) => bytes.length + uptoBulk d + 1
  | (_, d) => uptoBulk d + 1
 end
def uptoSmall : (H : Type) → List (DataW H) → Bool := fun _ ds => decide (uptoBulkAll ds ≤ 1048576)
def OpenSpec.upto (s : _root_.Go.ChangeSpec) : _root_.Go.OpenSpec := { _root_.Go.OpenSpec.ofChange s with cond := some uptoSmall }

/-- 'junctionlaw6.SafetyClashes', WHERE WHAT IT READS IS OF BULK AT MOST 1048576: true; the input reads as it did. -/
def safetyClashesUptoRow : OpenClaim := { program := "ytdgempbldhdihaa", sum := "0cdbb9ec45a29d9ddf191dd695435c766bf69439143f84aaf8289db8744d3b9e", func := "junction/junctionlaw6.SafetyClashes", spec := "safetyClashes", plainKeys := false, apart := false, narrowed := true }
def SafetyClashesUptoSaid : Prop := safetyClashesUptoRow.holds Try.pinned (OpenSpec.upto safetyClashesSpec)

/-- 'junctionlaw6.SafetyInters', WHERE WHAT IT READS IS OF BULK AT MOST 1048576: true; the input reads as it did. -/
def safetyIntersUptoRow : OpenClaim := { program := "ytdgempbldhdihaa", sum := "0cdbb9ec45a29d9ddf191dd695435c766bf69439143f84aaf8289db8744d3b9e", func := "junction/junctionlaw6.SafetyInters", spec := "safetyInters", unfollowed := true, recurses := true, plainKeys := false, apart := false, narrowed := true }
def SafetyIntersUptoSaid : Prop := safetyIntersUptoRow.holds Try.pinned (OpenSpec.upto safetyIntersSpec)

end Rows
end Go.Proofs.Ytdgempbldhdihaa
