-- Words of the print, those alone that this claim uses (wip/tools/prune.py); Lean checks it.
import Derived.Test.YtdgempbldhdihaaDoorWTab
/-! ### 56. Four, five, six operations that may come up next, in any order -/
namespace Go.Proofs.YtdgempbldhdihaaDoorW.PrintLast
section
variable {P : Program} {ops : Array Oper} {Q : Exit → Act → World → Prop} {md : Region.Mode} {S : World → Prop} {ds : List Nat} {T : Bool × List (List Nat × List Nat)}
end
end Go.Proofs.YtdgempbldhdihaaDoorW.PrintLast
