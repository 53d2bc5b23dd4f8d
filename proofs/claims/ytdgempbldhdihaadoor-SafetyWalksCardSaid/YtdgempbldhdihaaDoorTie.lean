/-
  DERIVED. GIVEN WITH THE SEED: THE PROGRAM's TIES (one call each: nine closed facts by the kernel) AND EACH ROW's TIE, after the 31st guide's Derived/Test/Toyas{Tie, Card}.lean. No idea stands in it: it is a product of the set-up. Laid BY PROGRAM, IN A SANDBOX (cutbox-door.mjs). By AI agents, Wed Nov 11 2026. No macro, syntax, notation, axiom, sorry.
-/
import Derived.Test.YtdgempbldhdihaaDoorRows
import Derived.LaidByTextLater
import Derived.SevenTiedAt
import Derived.LaidSub
import Derived.LaidOnce
namespace Go.Proofs.YtdgempbldhdihaaDoor
open Go
set_option maxRecDepth 100000
theorem seatTie1 : Tryd.prog.laidByTextLater [("junction/junctionref2.words", Rows.laid_junction_junctionref2_words), ("junction/junctionref2.signs", Rows.laid_junction_junctionref2_signs), ("math/bits.deBruijn64tab", Rows.laid_math_bits_deBruijn64tab), ("junction/arith.operands", Rows.laid_junction_arith_operands), ("junction/lex.words", Rows.laid_junction_lex_words), ("junction/lex.signs", Rows.laid_junction_lex_signs), ("junction/safety.least", Rows.laid_junction_safety_least)] [.data, .data, .data, .data, .data, .data, .data] true :=
  Program.laidByTextLater_by_one 46 8 65 (by kernel_rfl) (by kernel_rfl) (by kernel_rfl) (by kernel_rfl) (by kernel_rfl) (by kernel_rfl) (fun _ _ => by kernel_rfl)
theorem noOwnUnsafe : Tryd.pinned.checked.prog.headLifts.contains "ownunsafe" = false := by kernel_rfl
theorem tie : Tryd.prog.laidByTextLater [("math/bits.deBruijn64tab", Rows.laid_math_bits_deBruijn64tab)] [.data] true :=
  Program.laidByTextLater.sub seatTie1 ["math/bits.deBruijn64tab"] (by kernel_rfl) (by kernel_rfl)
theorem safetySpans_row_tie : Rows.safetySpansRow.laidByTextAt .later Tryd.pinned [.data] true :=
  OpenClaim.laidByTextAt_later rfl rfl tie noOwnUnsafe
theorem safetyTurns_row_tie : Rows.safetyTurnsRow.laidByTextAt .later Tryd.pinned [.data] true :=
  OpenClaim.laidByTextAt_later rfl rfl tie noOwnUnsafe
theorem safetyTimes_row_tie : Rows.safetyTimesRow.laidByTextAt .later Tryd.pinned [.data] true :=
  OpenClaim.laidByTextAt_later rfl rfl tie noOwnUnsafe
theorem safetyMoves_row_tie : Rows.safetyMovesRow.laidByTextAt .later Tryd.pinned [.data] true :=
  OpenClaim.laidByTextAt_later rfl rfl tie noOwnUnsafe
theorem tie2 : Tryd.prog.laidByTextLater [("junction/junctionref2.words", Rows.laid_junction_junctionref2_words), ("junction/junctionref2.signs", Rows.laid_junction_junctionref2_signs), ("junction/arith.operands", Rows.laid_junction_arith_operands), ("junction/lex.words", Rows.laid_junction_lex_words), ("junction/lex.signs", Rows.laid_junction_lex_signs)] [.data, .data, .data, .data, .data] true :=
  Program.laidByTextLater.sub seatTie1 ["junction/junctionref2.words", "junction/junctionref2.signs", "junction/arith.operands", "junction/lex.words", "junction/lex.signs"] (by kernel_rfl) (by kernel_rfl)
theorem safetyReaches_row_tie : Rows.safetyReachesRow.laidByTextAt .later Tryd.pinned [.data, .data, .data, .data, .data] true :=
  OpenClaim.laidByTextAt_later rfl rfl tie2 noOwnUnsafe
theorem safetyWalks_row_tie : Rows.safetyWalksRow.laidByTextAt .later Tryd.pinned [.data, .data, .data, .data, .data] true :=
  OpenClaim.laidByTextAt_later rfl rfl tie2 noOwnUnsafe
theorem tie3 : Tryd.prog.laidByTextLater [("junction/junctionref2.words", Rows.laid_junction_junctionref2_words), ("junction/junctionref2.signs", Rows.laid_junction_junctionref2_signs), ("math/bits.deBruijn64tab", Rows.laid_math_bits_deBruijn64tab), ("junction/arith.operands", Rows.laid_junction_arith_operands), ("junction/lex.words", Rows.laid_junction_lex_words), ("junction/lex.signs", Rows.laid_junction_lex_signs), ("junction/safety.least", Rows.laid_junction_safety_least)] [.data, .data, .data, .data, .data, .data, .data] true :=
  Program.laidByTextLater.sub seatTie1 ["junction/junctionref2.words", "junction/junctionref2.signs", "math/bits.deBruijn64tab", "junction/arith.operands", "junction/lex.words", "junction/lex.signs", "junction/safety.least"] (by kernel_rfl) (by kernel_rfl)
theorem safetyTells_row_tie : Rows.safetyTellsRow.laidByTextAt .later Tryd.pinned [.data, .data, .data, .data, .data, .data, .data] true :=
  OpenClaim.laidByTextAt_later rfl rfl tie3 noOwnUnsafe
theorem safetySpansUpto_row_tie : Rows.safetySpansUptoRow.laidByTextAt .later Tryd.pinned [.data] true :=
  OpenClaim.laidByTextAt_later rfl rfl tie noOwnUnsafe
theorem safetyTurnsUpto_row_tie : Rows.safetyTurnsUptoRow.laidByTextAt .later Tryd.pinned [.data] true :=
  OpenClaim.laidByTextAt_later rfl rfl tie noOwnUnsafe
theorem safetyTimesUpto_row_tie : Rows.safetyTimesUptoRow.laidByTextAt .later Tryd.pinned [.data] true :=
  OpenClaim.laidByTextAt_later rfl rfl tie noOwnUnsafe
theorem safetyMovesUpto_row_tie : Rows.safetyMovesUptoRow.laidByTextAt .later Tryd.pinned [.data] true :=
  OpenClaim.laidByTextAt_later rfl rfl tie noOwnUnsafe
theorem safetyReachesUpto_row_tie : Rows.safetyReachesUptoRow.laidByTextAt .later Tryd.pinned [.data, .data, .data, .data, .data] true :=
  OpenClaim.laidByTextAt_later rfl rfl tie2 noOwnUnsafe
theorem safetyWalksUpto_row_tie : Rows.safetyWalksUptoRow.laidByTextAt .later Tryd.pinned [.data, .data, .data, .data, .data] true :=
  OpenClaim.laidByTextAt_later rfl rfl tie2 noOwnUnsafe
theorem safetyTellsUpto_row_tie : Rows.safetyTellsUptoRow.laidByTextAt .later Tryd.pinned [.data, .data, .data, .data, .data, .data, .data] true :=
  OpenClaim.laidByTextAt_later rfl rfl tie3 noOwnUnsafe
end Go.Proofs.YtdgempbldhdihaaDoor
