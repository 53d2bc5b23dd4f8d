/-
  NARROWER THAN 'FOR EVERY INPUT', by the rows' own cells (each row's printed sentence says how): SafetySpans: laid · SafetyTurns: laid · SafetyTimes: laid · SafetyMoves: laid · SafetyReaches: laid · SafetyWalks: laid · SafetyTells: laid.
  DERIVED. THE GIVEN ROWS OF THIS SEAT. 7 by the template 'for every input the law returns true; each argument reads behind the call as it read before'; 0 by the template 'total and deterministic' (their statements: YtdgempbldhdihaaDoorTotals.lean).
  GIVEN WITH THE SEED: the statements are not yours to turn. If you find one false, say at which input.
  Laid BY PROGRAM, IN A SANDBOX (cutbox-rows.mjs): the forced cells as the released guide's own fill.sh prints them over the translation 00397e8c6a3f2036… (all of the seat's roots in one cut). By AI agents, Wed Nov 11 2026. No macro, syntax, notation, axiom, sorry.
-/
import Derived.Test.YtdgempbldhdihaaDoorChecked
import GoSem.Claim
import GoSem.ClaimJoined
import GoSem.ClaimMapViews
import Derived.JoinedTies
import Derived.KernelRfl
namespace Go.Proofs.YtdgempbldhdihaaDoor
/- THE CELL 'sum', in the pinned program and in every row, IS THE sha256 OF THE DUMP (.gsa) THAT YtdgempbldhdihaaDoorProg.lean LOADS. Nothing in Lean hashes anything: it is a label: what it is worth is what the hold of that sum in a sandbox is worth. -/
noncomputable def Tryd.pinned : Pinned := { name := "ytdgempbldhdihaadoor", sum := "00397e8c6a3f2036ce19751abf193f5679407f875b324eb9ac89db9cada260a0", checked := Tryd.checked }
namespace Rows
def none {H : Type} : Left H := { results := [], args := [] }

/- WHAT THE LISTED PACKAGE-LEVEL VARIABLES READ AS WHEN THE CALL BEGINS. Each datum BY PROGRAM (the guide's laid-datum.mjs) off the statement by which the dump's own 'gosem.cut.vars' lays the variable. In a bare row this is a premise. The card (YtdgempbldhdihaaDoorCards.lean) ties it to the program's text. -/
def laid_math_bits_deBruijn64tab {H : Type} : DataW H := .agg [.lit (.int .u8 0), .lit (.int .u8 1), .lit (.int .u8 56), .lit (.int .u8 2), .lit (.int .u8 57), .lit (.int .u8 49), .lit (.int .u8 28), .lit (.int .u8 3), .lit (.int .u8 61), .lit (.int .u8 58), .lit (.int .u8 42), .lit (.int .u8 50), .lit (.int .u8 38), .lit (.int .u8 29), .lit (.int .u8 17), .lit (.int .u8 4), .lit (.int .u8 62), .lit (.int .u8 47), .lit (.int .u8 59), .lit (.int .u8 36), .lit (.int .u8 45), .lit (.int .u8 43), .lit (.int .u8 51), .lit (.int .u8 22), .lit (.int .u8 53), .lit (.int .u8 39), .lit (.int .u8 33), .lit (.int .u8 30), .lit (.int .u8 24), .lit (.int .u8 18), .lit (.int .u8 12), .lit (.int .u8 5), .lit (.int .u8 63), .lit (.int .u8 55), .lit (.int .u8 48), .lit (.int .u8 27), .lit (.int .u8 60), .lit (.int .u8 41), .lit (.int .u8 37), .lit (.int .u8 16), .lit (.int .u8 46), .lit (.int .u8 35), .lit (.int .u8 44), .lit (.int .u8 21), .lit (.int .u8 52), .lit (.int .u8 32), .lit (.int .u8 23), .lit (.int .u8 11), .lit (.int .u8 54), .lit (.int .u8 26), .lit (.int .u8 40), .lit (.int .u8 15), .lit (.int .u8 34), .lit (.int .u8 20), .lit (.int .u8 31), .lit (.int .u8 10), .lit (.int .u8 25), .lit (.int .u8 14), .lit (.int .u8 19), .lit (.int .u8 9), .lit (.int .u8 13), .lit (.int .u8 8), .lit (.int .u8 7), .lit (.int .u8 6)]
def laid_junction_junctionref2_words {H : Type} : DataW H := .agg [.lit (.string [112, 108, 97, 110]), .lit (.string [99, 111, 110, 115, 116]), .lit (.string [103, 114, 111, 117, 112]), .lit (.string [118, 101, 104, 105, 99, 108, 101]), .lit (.string [112, 101, 100, 101, 115, 116, 114, 105, 97, 110]), .lit (.string [109, 105, 110]), .lit (.string [97, 109, 98, 101, 114]), .lit (.string [108, 101, 97, 100]), .lit (.string [99, 111, 110, 102, 108, 105, 99, 116]), .lit (.string [100, 101, 116, 101, 99, 116, 111, 114]), .lit (.string [108, 97, 116, 99, 104]), .lit (.string [100, 101, 108, 97, 121]), .lit (.string [104, 111, 108, 100]), .lit (.string [116, 105, 109, 101, 114]), .lit (.string [99, 111, 117, 110, 116, 101, 114]), .lit (.string [118, 97, 114]), .lit (.string [99, 111, 110, 100]), .lit (.string [115, 116, 97, 114, 116]), .lit (.string [115, 116, 97, 103, 101]), .lit (.string [103, 114, 101, 101, 110]), .lit (.string [101, 110, 116, 101, 114]), .lit (.string [100, 117, 114, 105, 110, 103]), .lit (.string [108, 101, 97, 118, 101]), .lit (.string [110, 101, 120, 116]), .lit (.string [119, 104, 101, 110]), .lit (.string [114, 101, 115, 101, 116]), .lit (.string [114, 117, 110]), .lit (.string [115, 116, 111, 112]), .lit (.string [99, 111, 117, 110, 116]), .lit (.string [99, 108, 101, 97, 114]), .lit (.string [105, 102]), .lit (.string [101, 108, 115, 101]), .lit (.string [111, 114]), .lit (.string [97, 110, 100]), .lit (.string [110, 111, 116]), .lit (.string [116, 114, 117, 101]), .lit (.string [102, 97, 108, 115, 101]), .lit (.string [101, 108, 97, 112, 115, 101, 100]), .lit (.string [114, 101, 100]), .lit (.string [109, 97, 120]), .lit (.string [97, 98, 115])]
def laid_junction_junctionref2_signs {H : Type} : DataW H := .agg [.lit (.string [123]), .lit (.string [125]), .lit (.string [40]), .lit (.string [41]), .lit (.string [44]), .lit (.string [59]), .lit (.string [61]), .lit (.string [61, 61]), .lit (.string [33, 61]), .lit (.string [60]), .lit (.string [60, 61]), .lit (.string [62]), .lit (.string [62, 61]), .lit (.string [43]), .lit (.string [45]), .lit (.string [42]), .lit (.string [47]), .lit (.string [37])]
def laid_junction_arith_operands {H : Type} : DataW H := .agg [.lit (.int .i64 0), .lit (.int .i64 0), .lit (.int .i64 0), .lit (.int .i64 0), .lit (.int .i64 0), .lit (.int .i64 0), .lit (.int .i64 0), .lit (.int .i64 0), .lit (.int .i64 0), .lit (.int .i64 0), .lit (.int .i64 0), .lit (.int .i64 0), .lit (.int .i64 0), .lit (.int .i64 0), .lit (.int .i64 0), .lit (.int .i64 0), .lit (.int .i64 0), .lit (.int .i64 0), .lit (.int .i64 0), .lit (.int .i64 0), .lit (.int .i64 1), .lit (.int .i64 1), .lit (.int .i64 1), .lit (.int .i64 0), .lit (.int .i64 0), .lit (.int .i64 0), .lit (.int .i64 0), .lit (.int .i64 0), .lit (.int .i64 0), .lit (.int .i64 0), .lit (.int .i64 2), .lit (.int .i64 2), .lit (.int .i64 2), .lit (.int .i64 2), .lit (.int .i64 2), .lit (.int .i64 2), .lit (.int .i64 2), .lit (.int .i64 0), .lit (.int .i64 0), .lit (.int .i64 0), .lit (.int .i64 2), .lit (.int .i64 2), .lit (.int .i64 2), .lit (.int .i64 2), .lit (.int .i64 2), .lit (.int .i64 2), .lit (.int .i64 0), .lit (.int .i64 0), .lit (.int .i64 0), .lit (.int .i64 0), .lit (.int .i64 2), .lit (.int .i64 2)]
def laid_junction_lex_words {H : Type} : DataW H := .agg [.lit (.string [112, 108, 97, 110]), .lit (.string [99, 111, 110, 115, 116]), .lit (.string [103, 114, 111, 117, 112]), .lit (.string [118, 101, 104, 105, 99, 108, 101]), .lit (.string [112, 101, 100, 101, 115, 116, 114, 105, 97, 110]), .lit (.string [109, 105, 110]), .lit (.string [97, 109, 98, 101, 114]), .lit (.string [108, 101, 97, 100]), .lit (.string [99, 111, 110, 102, 108, 105, 99, 116]), .lit (.string [100, 101, 116, 101, 99, 116, 111, 114]), .lit (.string [108, 97, 116, 99, 104]), .lit (.string [100, 101, 108, 97, 121]), .lit (.string [104, 111, 108, 100]), .lit (.string [116, 105, 109, 101, 114]), .lit (.string [99, 111, 117, 110, 116, 101, 114]), .lit (.string [118, 97, 114]), .lit (.string [99, 111, 110, 100]), .lit (.string [115, 116, 97, 114, 116]), .lit (.string [115, 116, 97, 103, 101]), .lit (.string [103, 114, 101, 101, 110]), .lit (.string [101, 110, 116, 101, 114]), .lit (.string [100, 117, 114, 105, 110, 103]), .lit (.string [108, 101, 97, 118, 101]), .lit (.string [110, 101, 120, 116]), .lit (.string [119, 104, 101, 110]), .lit (.string [114, 101, 115, 101, 116]), .lit (.string [114, 117, 110]), .lit (.string [115, 116, 111, 112]), .lit (.string [99, 111, 117, 110, 116]), .lit (.string [99, 108, 101, 97, 114]), .lit (.string [105, 102]), .lit (.string [101, 108, 115, 101]), .lit (.string [111, 114]), .lit (.string [97, 110, 100]), .lit (.string [110, 111, 116]), .lit (.string [116, 114, 117, 101]), .lit (.string [102, 97, 108, 115, 101]), .lit (.string [101, 108, 97, 112, 115, 101, 100]), .lit (.string [114, 101, 100]), .lit (.string [109, 97, 120]), .lit (.string [97, 98, 115])]
def laid_junction_lex_signs {H : Type} : DataW H := .agg [.lit (.string [123]), .lit (.string [125]), .lit (.string [40]), .lit (.string [41]), .lit (.string [44]), .lit (.string [59]), .lit (.string [61]), .lit (.string [61, 61]), .lit (.string [33, 61]), .lit (.string [60]), .lit (.string [60, 61]), .lit (.string [62]), .lit (.string [62, 61]), .lit (.string [43]), .lit (.string [45]), .lit (.string [42]), .lit (.string [47]), .lit (.string [37])]
def laid_junction_safety_least {H : Type} : DataW H := .agg [.agg [.lit (.int .i64 0), .lit (.int .i64 0), .lit (.int .i64 0)], .agg [.lit (.int .i64 5), .lit (.int .i64 3), .lit (.int .i64 3)], .agg [.lit (.int .i64 4), .lit (.int .i64 0), .lit (.int .i64 0)]]

/-- 'junctionlaw6.SafetySpans': WHATEVER THE INPUT: true; the input reads as it did. -/
def safetySpansSpec : ChangeSpec := { name := "safetySpans", fn := fun _ => fun
  | [d1, d2, d3] => { results := [.lit (.bool true)], args := [d1, d2, d3] }
  | _ => none }
def safetySpansRow : OpenClaim := { program := "ytdgempbldhdihaadoor", sum := "00397e8c6a3f2036ce19751abf193f5679407f875b324eb9ac89db9cada260a0", func := "junction/junctionlaw6.SafetySpans", spec := "safetySpans", unfollowed := true, recurses := true, named := ["math/bits.deBruijn64tab"], plainKeys := false, apart := false, laid := [("math/bits.deBruijn64tab", laid_math_bits_deBruijn64tab)] }
def SafetySpansSaid : Prop := safetySpansRow.holds Tryd.pinned (OpenSpec.ofChange safetySpansSpec)

/-- ITS FALSE NEIGHBOUR: 'it returns false'. Refute it at one input. -/
def safetySpansWrong : ChangeSpec := { name := "safetySpans", fn := fun _ => fun
  | [d1, d2, d3] => { results := [.lit (.bool false)], args := [d1, d2, d3] }
  | _ => none }
def SafetySpansWrongFalsely : Prop := safetySpansRow.holds Tryd.pinned (OpenSpec.ofChange safetySpansWrong)

/-- 'junctionlaw6.SafetyTurns': WHATEVER THE INPUT: true; the input reads as it did. -/
def safetyTurnsSpec : ChangeSpec := { name := "safetyTurns", fn := fun _ => fun
  | [d1, d2, d3, d4, d5] => { results := [.lit (.bool true)], args := [d1, d2, d3, d4, d5] }
  | _ => none }
def safetyTurnsRow : OpenClaim := { program := "ytdgempbldhdihaadoor", sum := "00397e8c6a3f2036ce19751abf193f5679407f875b324eb9ac89db9cada260a0", func := "junction/junctionlaw6.SafetyTurns", spec := "safetyTurns", unfollowed := true, recurses := true, named := ["math/bits.deBruijn64tab"], plainKeys := false, apart := false, laid := [("math/bits.deBruijn64tab", laid_math_bits_deBruijn64tab)] }
def SafetyTurnsSaid : Prop := safetyTurnsRow.holds Tryd.pinned (OpenSpec.ofChange safetyTurnsSpec)

/-- ITS FALSE NEIGHBOUR: 'it returns false'. Refute it at one input. -/
def safetyTurnsWrong : ChangeSpec := { name := "safetyTurns", fn := fun _ => fun
  | [d1, d2, d3, d4, d5] => { results := [.lit (.bool false)], args := [d1, d2, d3, d4, d5] }
  | _ => none }
def SafetyTurnsWrongFalsely : Prop := safetyTurnsRow.holds Tryd.pinned (OpenSpec.ofChange safetyTurnsWrong)

/-- 'junctionlaw6.SafetyTimes': WHATEVER THE INPUT: true; the input reads as it did. -/
def safetyTimesSpec : ChangeSpec := { name := "safetyTimes", fn := fun _ => fun
  | [d1, d2, d3] => { results := [.lit (.bool true)], args := [d1, d2, d3] }
  | _ => none }
def safetyTimesRow : OpenClaim := { program := "ytdgempbldhdihaadoor", sum := "00397e8c6a3f2036ce19751abf193f5679407f875b324eb9ac89db9cada260a0", func := "junction/junctionlaw6.SafetyTimes", spec := "safetyTimes", unfollowed := true, recurses := true, named := ["math/bits.deBruijn64tab"], plainKeys := false, apart := false, laid := [("math/bits.deBruijn64tab", laid_math_bits_deBruijn64tab)] }
def SafetyTimesSaid : Prop := safetyTimesRow.holds Tryd.pinned (OpenSpec.ofChange safetyTimesSpec)

/-- ITS FALSE NEIGHBOUR: 'it returns false'. Refute it at one input. -/
def safetyTimesWrong : ChangeSpec := { name := "safetyTimes", fn := fun _ => fun
  | [d1, d2, d3] => { results := [.lit (.bool false)], args := [d1, d2, d3] }
  | _ => none }
def SafetyTimesWrongFalsely : Prop := safetyTimesRow.holds Tryd.pinned (OpenSpec.ofChange safetyTimesWrong)

/-- 'junctionlaw6.SafetyMoves': WHATEVER THE INPUT: true; the input reads as it did. -/
def safetyMovesSpec : ChangeSpec := { name := "safetyMoves", fn := fun _ => fun
  | [d1, d2, d3] => { results := [.lit (.bool true)], args := [d1, d2, d3] }
  | _ => none }
def safetyMovesRow : OpenClaim := { program := "ytdgempbldhdihaadoor", sum := "00397e8c6a3f2036ce19751abf193f5679407f875b324eb9ac89db9cada260a0", func := "junction/junctionlaw6.SafetyMoves", spec := "safetyMoves", unfollowed := true, recurses := true, named := ["math/bits.deBruijn64tab"], plainKeys := false, apart := false, laid := [("math/bits.deBruijn64tab", laid_math_bits_deBruijn64tab)] }
def SafetyMovesSaid : Prop := safetyMovesRow.holds Tryd.pinned (OpenSpec.ofChange safetyMovesSpec)

/-- ITS FALSE NEIGHBOUR: 'it returns false'. Refute it at one input. -/
def safetyMovesWrong : ChangeSpec := { name := "safetyMoves", fn := fun _ => fun
  | [d1, d2, d3] => { results := [.lit (.bool false)], args := [d1, d2, d3] }
  | _ => none }
def SafetyMovesWrongFalsely : Prop := safetyMovesRow.holds Tryd.pinned (OpenSpec.ofChange safetyMovesWrong)

/-- 'junctionlaw6.SafetyReaches': WHATEVER THE INPUT: true; the input reads as it did. -/
def safetyReachesSpec : ChangeSpec := { name := "safetyReaches", fn := fun _ => fun
  | [d] => { results := [.lit (.bool true)], args := [d] }
  | _ => none }
def safetyReachesRow : OpenClaim := { program := "ytdgempbldhdihaadoor", sum := "00397e8c6a3f2036ce19751abf193f5679407f875b324eb9ac89db9cada260a0", func := "junction/junctionlaw6.SafetyReaches", spec := "safetyReaches", inPlace := ["internal/bytealg.IndexByteString", "internal/bytealg.IndexString"], named := ["junction/lex.words", "junction/lex.signs", "internal/bytealg.MaxLen", "junction/arith.operands", "junction/junctionref2.words", "junction/junctionref2.signs"], plainKeys := false, apart := false, laid := [("junction/junctionref2.words", laid_junction_junctionref2_words), ("junction/junctionref2.signs", laid_junction_junctionref2_signs), ("junction/arith.operands", laid_junction_arith_operands), ("junction/lex.words", laid_junction_lex_words), ("junction/lex.signs", laid_junction_lex_signs)] }
def SafetyReachesSaid : Prop := safetyReachesRow.holds Tryd.pinned (OpenSpec.ofChange safetyReachesSpec)

/-- ITS FALSE NEIGHBOUR: 'it returns false'. Refute it at one input. -/
def safetyReachesWrong : ChangeSpec := { name := "safetyReaches", fn := fun _ => fun
  | [d] => { results := [.lit (.bool false)], args := [d] }
  | _ => none }
def SafetyReachesWrongFalsely : Prop := safetyReachesRow.holds Tryd.pinned (OpenSpec.ofChange safetyReachesWrong)

/-- 'junctionlaw6.SafetyWalks': WHATEVER THE INPUT: true; the input reads as it did. -/
def safetyWalksSpec : ChangeSpec := { name := "safetyWalks", fn := fun _ => fun
  | [d1, d2] => { results := [.lit (.bool true)], args := [d1, d2] }
  | _ => none }
def safetyWalksRow : OpenClaim := { program := "ytdgempbldhdihaadoor", sum := "00397e8c6a3f2036ce19751abf193f5679407f875b324eb9ac89db9cada260a0", func := "junction/junctionlaw6.SafetyWalks", spec := "safetyWalks", inPlace := ["internal/bytealg.IndexByteString", "internal/bytealg.IndexString"], named := ["junction/lex.words", "junction/lex.signs", "internal/bytealg.MaxLen", "junction/arith.operands", "junction/junctionref2.words", "junction/junctionref2.signs"], plainKeys := false, apart := false, laid := [("junction/junctionref2.words", laid_junction_junctionref2_words), ("junction/junctionref2.signs", laid_junction_junctionref2_signs), ("junction/arith.operands", laid_junction_arith_operands), ("junction/lex.words", laid_junction_lex_words), ("junction/lex.signs", laid_junction_lex_signs)] }
def SafetyWalksSaid : Prop := safetyWalksRow.holds Tryd.pinned (OpenSpec.ofChange safetyWalksSpec)

/-- ITS FALSE NEIGHBOUR: 'it returns false'. Refute it at one input. -/
def safetyWalksWrong : ChangeSpec := { name := "safetyWalks", fn := fun _ => fun
  | [d1, d2] => { results := [.lit (.bool false)], args := [d1, d2] }
  | _ => none }
def SafetyWalksWrongFalsely : Prop := safetyWalksRow.holds Tryd.pinned (OpenSpec.ofChange safetyWalksWrong)

/-- 'junctionlaw6.SafetyTells': WHATEVER THE INPUT: true; the input reads as it did. -/
def safetyTellsSpec : ChangeSpec := { name := "safetyTells", fn := fun _ => fun
  | [d1, d2, d3, d4, d5, d6] => { results := [.lit (.bool true)], args := [d1, d2, d3, d4, d5, d6] }
  | _ => none }
def safetyTellsRow : OpenClaim := { program := "ytdgempbldhdihaadoor", sum := "00397e8c6a3f2036ce19751abf193f5679407f875b324eb9ac89db9cada260a0", func := "junction/junctionlaw6.SafetyTells", spec := "safetyTells", inPlace := ["internal/bytealg.IndexByteString", "internal/bytealg.IndexString"], unfollowed := true, recurses := true, named := ["junction/lex.words", "junction/lex.signs", "internal/bytealg.MaxLen", "junction/arith.operands", "junction/safety.least", "math/bits.deBruijn64tab", "junction/junctionref2.words", "junction/junctionref2.signs"], plainKeys := false, apart := false, laid := [("junction/junctionref2.words", laid_junction_junctionref2_words), ("junction/junctionref2.signs", laid_junction_junctionref2_signs), ("math/bits.deBruijn64tab", laid_math_bits_deBruijn64tab), ("junction/arith.operands", laid_junction_arith_operands), ("junction/lex.words", laid_junction_lex_words), ("junction/lex.signs", laid_junction_lex_signs), ("junction/safety.least", laid_junction_safety_least)] }
def SafetyTellsSaid : Prop := safetyTellsRow.holds Tryd.pinned (OpenSpec.ofChange safetyTellsSpec)

/-- ITS FALSE NEIGHBOUR: 'it returns false'. Refute it at one input. -/
def safetyTellsWrong : ChangeSpec := { name := "safetyTells", fn := fun _ => fun
  | [d1, d2, d3, d4, d5, d6] => { results := [.lit (.bool false)], args := [d1, d2, d3, d4, d5, d6] }
  | _ => none }
def SafetyTellsWrongFalsely : Prop := safetyTellsRow.holds Tryd.pinned (OpenSpec.ofChange safetyTellsWrong)

/- THE SECOND FORM. 'bulk': how many values and letters a reading holds, each counted each time it is reached (what is shared counts as often as it is met; a slice's spare places count too). A statement '..UptoSaid' is the law's where the arguments, and the package variables that the reading takes, are together of bulk at most 1048576: NARROWER than '..Said'. Prove '..Said' where nothing that the law and all that it calls make is longer than what came in: it says more and counts as full. Else prove '..UptoSaid'. A law counts once. -/
mutual
def uptoBulk {H : Type} : DataW H → Nat
  | .lit (.string bytes) => bytes.length + 1
  | .lit _ => 1
  | .nil => 1
  | .ptr d => uptoBulk d + 1
  | .slice elems spare => uptoBulkAll elems + uptoBulkAll spare + 1
  | .agg parts => uptoBulkAll parts + 1
  | .iface _ d => uptoBulk d + 1
  | .map entries => uptoBulkEntries entries + 1
  | .held _ => 1
def uptoBulkAll {H : Type} : List (DataW H) → Nat
  | [] => 0
  | d :: r => uptoBulk d + uptoBulkAll r
def uptoBulkEntries {H : Type} : List (Lit × DataW H) → Nat
  | [] => 0
  | x :: r => uptoBulkEntry x + uptoBulkEntries r
def uptoBulkEntry {H : Type} : Lit × DataW H → Nat
  | (.string bytes, d) => bytes.length + uptoBulk d + 1
  | (_, d) => uptoBulk d + 1
 end
def uptoSmall : (H : Type) → List (DataW H) → Bool := fun _ ds => decide (uptoBulkAll ds ≤ 1048576)
def OpenSpec.upto (s : _root_.Go.ChangeSpec) : _root_.Go.OpenSpec := { _root_.Go.OpenSpec.ofChange s with cond := some uptoSmall }

/-- 'junctionlaw6.SafetySpans', WHERE WHAT IT READS IS OF BULK AT MOST 1048576: true; the input reads as it did. -/
def safetySpansUptoRow : OpenClaim := { program := "ytdgempbldhdihaadoor", sum := "00397e8c6a3f2036ce19751abf193f5679407f875b324eb9ac89db9cada260a0", func := "junction/junctionlaw6.SafetySpans", spec := "safetySpans", unfollowed := true, recurses := true, named := ["math/bits.deBruijn64tab"], plainKeys := false, apart := false, laid := [("math/bits.deBruijn64tab", laid_math_bits_deBruijn64tab)], narrowed := true }
def SafetySpansUptoSaid : Prop := safetySpansUptoRow.holds Tryd.pinned (OpenSpec.upto safetySpansSpec)

/-- 'junctionlaw6.SafetyTurns', WHERE WHAT IT READS IS OF BULK AT MOST 1048576: true; the input reads as it did. -/
def safetyTurnsUptoRow : OpenClaim := { program := "ytdgempbldhdihaadoor", sum := "00397e8c6a3f2036ce19751abf193f5679407f875b324eb9ac89db9cada260a0", func := "junction/junctionlaw6.SafetyTurns", spec := "safetyTurns", unfollowed := true, recurses := true, named := ["math/bits.deBruijn64tab"], plainKeys := false, apart := false, laid := [("math/bits.deBruijn64tab", laid_math_bits_deBruijn64tab)], narrowed := true }
def SafetyTurnsUptoSaid : Prop := safetyTurnsUptoRow.holds Tryd.pinned (OpenSpec.upto safetyTurnsSpec)

/-- 'junctionlaw6.SafetyTimes', WHERE WHAT IT READS IS OF BULK AT MOST 1048576: true; the input reads as it did. -/
def safetyTimesUptoRow : OpenClaim := { program := "ytdgempbldhdihaadoor", sum := "00397e8c6a3f2036ce19751abf193f5679407f875b324eb9ac89db9cada260a0", func := "junction/junctionlaw6.SafetyTimes", spec := "safetyTimes", unfollowed := true, recurses := true, named := ["math/bits.deBruijn64tab"], plainKeys := false, apart := false, laid := [("math/bits.deBruijn64tab", laid_math_bits_deBruijn64tab)], narrowed := true }
def SafetyTimesUptoSaid : Prop := safetyTimesUptoRow.holds Tryd.pinned (OpenSpec.upto safetyTimesSpec)

/-- 'junctionlaw6.SafetyMoves', WHERE WHAT IT READS IS OF BULK AT MOST 1048576: true; the input reads as it did. -/
def safetyMovesUptoRow : OpenClaim := { program := "ytdgempbldhdihaadoor", sum := "00397e8c6a3f2036ce19751abf193f5679407f875b324eb9ac89db9cada260a0", func := "junction/junctionlaw6.SafetyMoves", spec := "safetyMoves", unfollowed := true, recurses := true, named := ["math/bits.deBruijn64tab"], plainKeys := false, apart := false, laid := [("math/bits.deBruijn64tab", laid_math_bits_deBruijn64tab)], narrowed := true }
def SafetyMovesUptoSaid : Prop := safetyMovesUptoRow.holds Tryd.pinned (OpenSpec.upto safetyMovesSpec)

/-- 'junctionlaw6.SafetyReaches', WHERE WHAT IT READS IS OF BULK AT MOST 1048576: true; the input reads as it did. -/
def safetyReachesUptoRow : OpenClaim := { program := "ytdgempbldhdihaadoor", sum := "00397e8c6a3f2036ce19751abf193f5679407f875b324eb9ac89db9cada260a0", func := "junction/junctionlaw6.SafetyReaches", spec := "safetyReaches", inPlace := ["internal/bytealg.IndexByteString", "internal/bytealg.IndexString"], named := ["junction/lex.words", "junction/lex.signs", "internal/bytealg.MaxLen", "junction/arith.operands", "junction/junctionref2.words", "junction/junctionref2.signs"], plainKeys := false, apart := false, laid := [("junction/junctionref2.words", laid_junction_junctionref2_words), ("junction/junctionref2.signs", laid_junction_junctionref2_signs), ("junction/arith.operands", laid_junction_arith_operands), ("junction/lex.words", laid_junction_lex_words), ("junction/lex.signs", laid_junction_lex_signs)], narrowed := true }
def SafetyReachesUptoSaid : Prop := safetyReachesUptoRow.holds Tryd.pinned (OpenSpec.upto safetyReachesSpec)

/-- 'junctionlaw6.SafetyWalks', WHERE WHAT IT READS IS OF BULK AT MOST 1048576: true; the input reads as it did. -/
def safetyWalksUptoRow : OpenClaim := { program := "ytdgempbldhdihaadoor", sum := "00397e8c6a3f2036ce19751abf193f5679407f875b324eb9ac89db9cada260a0", func := "junction/junctionlaw6.SafetyWalks", spec := "safetyWalks", inPlace := ["internal/bytealg.IndexByteString", "internal/bytealg.IndexString"], named := ["junction/lex.words", "junction/lex.signs", "internal/bytealg.MaxLen", "junction/arith.operands", "junction/junctionref2.words", "junction/junctionref2.signs"], plainKeys := false, apart := false, laid := [("junction/junctionref2.words", laid_junction_junctionref2_words), ("junction/junctionref2.signs", laid_junction_junctionref2_signs), ("junction/arith.operands", laid_junction_arith_operands), ("junction/lex.words", laid_junction_lex_words), ("junction/lex.signs", laid_junction_lex_signs)], narrowed := true }
def SafetyWalksUptoSaid : Prop := safetyWalksUptoRow.holds Tryd.pinned (OpenSpec.upto safetyWalksSpec)

/-- 'junctionlaw6.SafetyTells', WHERE WHAT IT READS IS OF BULK AT MOST 1048576: true; the input reads as it did. -/
def safetyTellsUptoRow : OpenClaim := { program := "ytdgempbldhdihaadoor", sum := "00397e8c6a3f2036ce19751abf193f5679407f875b324eb9ac89db9cada260a0", func := "junction/junctionlaw6.SafetyTells", spec := "safetyTells", inPlace := ["internal/bytealg.IndexByteString", "internal/bytealg.IndexString"], unfollowed := true, recurses := true, named := ["junction/lex.words", "junction/lex.signs", "internal/bytealg.MaxLen", "junction/arith.operands", "junction/safety.least", "math/bits.deBruijn64tab", "junction/junctionref2.words", "junction/junctionref2.signs"], plainKeys := false, apart := false, laid := [("junction/junctionref2.words", laid_junction_junctionref2_words), ("junction/junctionref2.signs", laid_junction_junctionref2_signs), ("math/bits.deBruijn64tab", laid_math_bits_deBruijn64tab), ("junction/arith.operands", laid_junction_arith_operands), ("junction/lex.words", laid_junction_lex_words), ("junction/lex.signs", laid_junction_lex_signs), ("junction/safety.least", laid_junction_safety_least)], narrowed := true }
def SafetyTellsUptoSaid : Prop := safetyTellsUptoRow.holds Tryd.pinned (OpenSpec.upto safetyTellsSpec)

end Rows
end Go.Proofs.YtdgempbldhdihaaDoor
