-- Words of the print, those alone that this claim uses (wip/tools/prune.py); Lean checks it.
import Derived.Test.YtdgempbldhdihaaDoorWInv
import Derived.Test.YtdgempbldhdihaaDoorWFootNe
namespace Go.Proofs.YtdgempbldhdihaaDoorW.PrintWords
open Go.RowKit
end Go.Proofs.YtdgempbldhdihaaDoorW.PrintWords
namespace Go.Proofs.YtdgempbldhdihaaDoorW.PrintLast
section
variable {ops : Array Oper} {a : Act} {o og : Oper} {g : Nat} {t : Tmp} {u : Bool}
end
end Go.Proofs.YtdgempbldhdihaaDoorW.PrintLast
