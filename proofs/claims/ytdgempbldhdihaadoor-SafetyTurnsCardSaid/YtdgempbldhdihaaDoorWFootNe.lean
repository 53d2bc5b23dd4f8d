-- Words of the print, those alone that this claim uses (wip/tools/prune.py); Lean checks it.
import Derived.Test.YtdgempbldhdihaaDoorWN
/-! ### 52. A row that stays read whatever happens to a block (a set of blocks) doesn't lie there -/
namespace Go.Proofs.YtdgempbldhdihaaDoorW.PrintWords
open Go.RowKit
namespace Kd
section
variable {α : Type} {d : Kd α} {W : World} {g n : Nat} {S ok : Nat → Prop} {A : Option Addr} {ad : Addr} {xs : List α}
end
end Kd
end Go.Proofs.YtdgempbldhdihaaDoorW.PrintWords
