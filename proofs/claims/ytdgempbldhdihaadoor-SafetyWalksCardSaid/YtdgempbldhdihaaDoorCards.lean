/-
  DERIVED. GIVEN WITH THE SEED: THE CARDS: each row of YtdgempbldhdihaaDoorRows.lean that lists a variable, with what it lists TIED to the program's text (the seventh form; the later family's looks); each row that meets fmt, with fmt's text TOLD by the authors' own Lean function (tested against real Go, not proved from fmt's source: count such statements apart). THE CARD IS WHAT COUNTS. Prove the row's statement (the work); the ties are given (YtdgempbldhdihaaDoorTie.lean); close each card by the builder's one call (the guide's Derived/Test/ToyasCard.lean, 'card_holds'). Laid BY PROGRAM, IN A SANDBOX (cutbox-door.mjs). By AI agents, Wed Nov 11 2026. No macro, syntax, notation, axiom, sorry.
-/
import Derived.Test.YtdgempbldhdihaaDoorRows
import GoSem.ClaimSeven
namespace Go.Proofs.YtdgempbldhdihaaDoor
namespace Rows

/-- THE TIED CARD OF 'junctionlaw6.SafetySpans'. -/
def safetySpansCard : Claim7 := { stood := { row := safetySpansRow, standIns := [], harness := (true, "c48a84012fa8945c37cce53eefcde15a9106fc822f26c8fe5663a14b1e2124bf"), looks := false }, kinds := [], alts := [], laidByText := true, laidKinds := [.data], laidTests := true, laidLooks := .later }
def SafetySpansCardSaid : Prop := Claim7.holds Tryd.pinned (.plain (OpenSpec.ofChange safetySpansSpec)) safetySpansCard

/-- THE TIED CARD OF 'junctionlaw6.SafetyTurns'. -/
def safetyTurnsCard : Claim7 := { stood := { row := safetyTurnsRow, standIns := [], harness := (true, "c48a84012fa8945c37cce53eefcde15a9106fc822f26c8fe5663a14b1e2124bf"), looks := false }, kinds := [], alts := [], laidByText := true, laidKinds := [.data], laidTests := true, laidLooks := .later }
def SafetyTurnsCardSaid : Prop := Claim7.holds Tryd.pinned (.plain (OpenSpec.ofChange safetyTurnsSpec)) safetyTurnsCard

/-- THE TIED CARD OF 'junctionlaw6.SafetyTimes'. -/
def safetyTimesCard : Claim7 := { stood := { row := safetyTimesRow, standIns := [], harness := (true, "c48a84012fa8945c37cce53eefcde15a9106fc822f26c8fe5663a14b1e2124bf"), looks := false }, kinds := [], alts := [], laidByText := true, laidKinds := [.data], laidTests := true, laidLooks := .later }
def SafetyTimesCardSaid : Prop := Claim7.holds Tryd.pinned (.plain (OpenSpec.ofChange safetyTimesSpec)) safetyTimesCard

/-- THE TIED CARD OF 'junctionlaw6.SafetyMoves'. -/
def safetyMovesCard : Claim7 := { stood := { row := safetyMovesRow, standIns := [], harness := (true, "c48a84012fa8945c37cce53eefcde15a9106fc822f26c8fe5663a14b1e2124bf"), looks := false }, kinds := [], alts := [], laidByText := true, laidKinds := [.data], laidTests := true, laidLooks := .later }
def SafetyMovesCardSaid : Prop := Claim7.holds Tryd.pinned (.plain (OpenSpec.ofChange safetyMovesSpec)) safetyMovesCard

/-- THE TIED CARD OF 'junctionlaw6.SafetyReaches'. -/
def safetyReachesCard : Claim7 := { stood := { row := safetyReachesRow, standIns := [], harness := (true, "c48a84012fa8945c37cce53eefcde15a9106fc822f26c8fe5663a14b1e2124bf"), looks := false }, kinds := [], alts := [], laidByText := true, laidKinds := [.data, .data, .data, .data, .data], laidTests := true, laidLooks := .later }
def SafetyReachesCardSaid : Prop := Claim7.holds Tryd.pinned (.plain (OpenSpec.ofChange safetyReachesSpec)) safetyReachesCard

/-- THE TIED CARD OF 'junctionlaw6.SafetyWalks'. -/
def safetyWalksCard : Claim7 := { stood := { row := safetyWalksRow, standIns := [], harness := (true, "c48a84012fa8945c37cce53eefcde15a9106fc822f26c8fe5663a14b1e2124bf"), looks := false }, kinds := [], alts := [], laidByText := true, laidKinds := [.data, .data, .data, .data, .data], laidTests := true, laidLooks := .later }
def SafetyWalksCardSaid : Prop := Claim7.holds Tryd.pinned (.plain (OpenSpec.ofChange safetyWalksSpec)) safetyWalksCard

/-- THE TIED CARD OF 'junctionlaw6.SafetyTells'. -/
def safetyTellsCard : Claim7 := { stood := { row := safetyTellsRow, standIns := [], harness := (true, "c48a84012fa8945c37cce53eefcde15a9106fc822f26c8fe5663a14b1e2124bf"), looks := false }, kinds := [], alts := [], laidByText := true, laidKinds := [.data, .data, .data, .data, .data, .data, .data], laidTests := true, laidLooks := .later }
def SafetyTellsCardSaid : Prop := Claim7.holds Tryd.pinned (.plain (OpenSpec.ofChange safetyTellsSpec)) safetyTellsCard

/-- THE SECOND FORM's CARD OF 'junctionlaw6.SafetySpans'. -/
def safetySpansUptoCard : Claim7 := { stood := { row := safetySpansUptoRow, standIns := [], harness := (true, "c48a84012fa8945c37cce53eefcde15a9106fc822f26c8fe5663a14b1e2124bf"), looks := false }, kinds := [], alts := [], laidByText := true, laidKinds := [.data], laidTests := true, laidLooks := .later }
def SafetySpansUptoCardSaid : Prop := Claim7.holds Tryd.pinned (.plain (OpenSpec.upto safetySpansSpec)) safetySpansUptoCard

/-- THE SECOND FORM's CARD OF 'junctionlaw6.SafetyTurns'. -/
def safetyTurnsUptoCard : Claim7 := { stood := { row := safetyTurnsUptoRow, standIns := [], harness := (true, "c48a84012fa8945c37cce53eefcde15a9106fc822f26c8fe5663a14b1e2124bf"), looks := false }, kinds := [], alts := [], laidByText := true, laidKinds := [.data], laidTests := true, laidLooks := .later }
def SafetyTurnsUptoCardSaid : Prop := Claim7.holds Tryd.pinned (.plain (OpenSpec.upto safetyTurnsSpec)) safetyTurnsUptoCard

/-- THE SECOND FORM's CARD OF 'junctionlaw6.SafetyTimes'. -/
def safetyTimesUptoCard : Claim7 := { stood := { row := safetyTimesUptoRow, standIns := [], harness := (true, "c48a84012fa8945c37cce53eefcde15a9106fc822f26c8fe5663a14b1e2124bf"), looks := false }, kinds := [], alts := [], laidByText := true, laidKinds := [.data], laidTests := true, laidLooks := .later }
def SafetyTimesUptoCardSaid : Prop := Claim7.holds Tryd.pinned (.plain (OpenSpec.upto safetyTimesSpec)) safetyTimesUptoCard

/-- THE SECOND FORM's CARD OF 'junctionlaw6.SafetyMoves'. -/
def safetyMovesUptoCard : Claim7 := { stood := { row := safetyMovesUptoRow, standIns := [], harness := (true, "c48a84012fa8945c37cce53eefcde15a9106fc822f26c8fe5663a14b1e2124bf"), looks := false }, kinds := [], alts := [], laidByText := true, laidKinds := [.data], laidTests := true, laidLooks := .later }
def SafetyMovesUptoCardSaid : Prop := Claim7.holds Tryd.pinned (.plain (OpenSpec.upto safetyMovesSpec)) safetyMovesUptoCard

/-- THE SECOND FORM's CARD OF 'junctionlaw6.SafetyReaches'. -/
def safetyReachesUptoCard : Claim7 := { stood := { row := safetyReachesUptoRow, standIns := [], harness := (true, "c48a84012fa8945c37cce53eefcde15a9106fc822f26c8fe5663a14b1e2124bf"), looks := false }, kinds := [], alts := [], laidByText := true, laidKinds := [.data, .data, .data, .data, .data], laidTests := true, laidLooks := .later }
def SafetyReachesUptoCardSaid : Prop := Claim7.holds Tryd.pinned (.plain (OpenSpec.upto safetyReachesSpec)) safetyReachesUptoCard

/-- THE SECOND FORM's CARD OF 'junctionlaw6.SafetyWalks'. -/
def safetyWalksUptoCard : Claim7 := { stood := { row := safetyWalksUptoRow, standIns := [], harness := (true, "c48a84012fa8945c37cce53eefcde15a9106fc822f26c8fe5663a14b1e2124bf"), looks := false }, kinds := [], alts := [], laidByText := true, laidKinds := [.data, .data, .data, .data, .data], laidTests := true, laidLooks := .later }
def SafetyWalksUptoCardSaid : Prop := Claim7.holds Tryd.pinned (.plain (OpenSpec.upto safetyWalksSpec)) safetyWalksUptoCard

/-- THE SECOND FORM's CARD OF 'junctionlaw6.SafetyTells'. -/
def safetyTellsUptoCard : Claim7 := { stood := { row := safetyTellsUptoRow, standIns := [], harness := (true, "c48a84012fa8945c37cce53eefcde15a9106fc822f26c8fe5663a14b1e2124bf"), looks := false }, kinds := [], alts := [], laidByText := true, laidKinds := [.data, .data, .data, .data, .data, .data, .data], laidTests := true, laidLooks := .later }
def SafetyTellsUptoCardSaid : Prop := Claim7.holds Tryd.pinned (.plain (OpenSpec.upto safetyTellsSpec)) safetyTellsUptoCard
end Rows
end Go.Proofs.YtdgempbldhdihaaDoor
